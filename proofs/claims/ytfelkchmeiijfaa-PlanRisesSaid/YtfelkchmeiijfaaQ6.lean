-- Written for this claim by a program, out of the translation.
import Derived.Test.YtfelkchmeiijfaaQ0
import Derived.Test.YtfelkchmeiijfaaQ1
import Derived.Test.YtfelkchmeiijfaaQ2
import Derived.Test.YtfelkchmeiijfaaQ3
import Derived.Test.YtfelkchmeiijfaaQ4
import Derived.Test.YtfelkchmeiijfaaQ5
namespace Go.Proofs.Ytfelkchmeiijfaa.P2
open Go.RowKit Go.Proofs.YtfelkchmeiijfaaW.PrintWords Go.Proofs.YtfelkchmeiijfaaW.PrintLast Go.Proofs.YtfelkchmeiijfaaW.PrintMore
attribute [local go_sem] max2_int min2_int max_two min_two max_three min_three max_four min_four
set_option linter.unusedVariables false
set_option linter.unusedSimpArgs false
attribute [local go_sem high] eqA41
/-! ### pandectlaw17_PlanRises: function 3 -/
mutual
def pandectlaw17_PlanRises.l0 : Nat → Int → Int → List (S38) → List Bool → Int → ByteArray → List (S36) → Option (Bool)
 | 0,_,_,_,_,_,_,_ => none
 | k + 1,x1,x2,x8,x9,x10,x193000,x193001 => if x10 < (x193001.length : Int) then (if 0 ≤ x10 then (if x8.length < 5864062014805 then (if x9.length < 140737488355328 then (pandectlaw17_PlanRises.l0 k x1 x2 (x8 ++ [(⟨wrap64 ((wrap64 (x2)) + x10),0,false⟩ : S38)]) (x9 ++ [true]) (wrap64 (x10 + 1)) x193000 (x193001.set (x10 : Int).toNat (⟨(rd_T36 x193001 x10).f0,(-1),(rd_T36 x193001 x10).f2⟩ : S36))) else (none)) else (none)) else (none)) else ((plan_Events.f k x193000 x193001 x8 x9 (wrap64 (x1))).bind fun bt200 => ((plan_MayCommit.f x193000 x193001).bind fun t208 => (if t208 = true then (pandectlaw17_PlanRises.l1 k x1 x2 bt200.1 bt200.2.2.2.2 0 0 x193000 x193001 bt200.2.1 bt200.2.2.1 bt200.2.2.2.1) else (if bt200.2.2.2.2 = 1 then (some ((bt200.1.length : Int) == 0)) else (none)))))
def pandectlaw17_PlanRises.l1 : Nat → Int → Int → List (S47) → Int → Int → Int → ByteArray → List (S36) → Int → Int → Bool → Option (Bool)
 | 0,_,_,_,_,_,_,_,_,_,_,_ => none
 | k + 1,x1,x2,x11,x13,x14,x15,x193000,x193001,x208000,x208001,x208002 => if x15 < (x193001.length : Int) then (pandectlaw17_PlanRises.l2 k x1 x2 x11 x13 x14 x15 0 x193000 x193001 x208000 x208001 x208002) else (if x13 = 0 then (if x14 = (x11.length : Int) then (some (x208000 == (wrap64 (x1)) && (x208001 == x14 && (!x208002)))) else (none)) else (none))
def pandectlaw17_PlanRises.l2 : Nat → Int → Int → List (S47) → Int → Int → Int → Int → ByteArray → List (S36) → Int → Int → Bool → Option (Bool)
 | 0,_,_,_,_,_,_,_,_,_,_,_,_ => none
 | k + 1,x1,x2,x11,x13,x14,x15,x16,x193000,x193001,x208000,x208001,x208002 => if 0 ≤ x15 then (if x15 < (x193001.length : Int) then (if x16 < (((rd_T36 x193001 x15).f2).length : Int) then (if x14 ≥ (x11.length : Int) then (none) else (if 0 ≤ x14 then (if x14 < (x11.length : Int) then (if ((rd_T47 x11 x14).f0) = (wrap64 ((wrap64 (x1)) + x14)) then (if ((rd_T47 x11 x14).f2) = (wrap64 ((wrap64 (x2)) + (wrap64 (x15 + x16)))) then (if ((rd_T47 x11 x14).f1).toList = ((rd_T36 x193001 x15).f0).toList then (if 0 ≤ x16 then (if ((rd_T47 x11 x14).f3).toList = ((rd_T49 ((rd_T36 x193001 x15).f2) x16).f0).toList then (if (strOfNums ((rd_T47 x11 x14).f4)).toList = (strOfNums ((rd_T49 ((rd_T36 x193001 x15).f2) x16).f1)).toList then (pandectlaw17_PlanRises.l2 k x1 x2 x11 x13 (wrap64 (x14 + 1)) x15 (wrap64 (x16 + 1)) x193000 x193001 x208000 x208001 x208002) else (none)) else (none)) else (none)) else (none)) else (none)) else (none)) else (none)) else (none))) else (pandectlaw17_PlanRises.l1 k x1 x2 x11 x13 x14 (wrap64 (x15 + 1)) x193000 x193001 x208000 x208001 x208002)) else (none)) else (none)
end
def pandectlaw17_PlanRises.f (k : Nat) (l0 : List Int) (a1 : Int) (a2 : Int) : Option (Bool) :=(pandectlaw17_begun.f).bind fun t183 => (if t183 = true then (if (l0.length : Int) > 60 then (some true) else ((pandectplay_Made.f l0).bind fun bt184 => ((pandectplay_Picks_Commit.f k bt184.1 bt184.2).bind fun bt187 => (pandectlaw17_PlanRises.l0 k a1 a2 ([] : List (S38)) ([] : List Bool) 0 bt187.1 bt187.2.1)))) else (none))
theorem pandectlaw17_PlanRises.mono_l : ∀ k,(∀ y0 y1 y2 y3 y4 y5 y6,LeO (pandectlaw17_PlanRises.l0 k y0 y1 y2 y3 y4 y5 y6) (pandectlaw17_PlanRises.l0 (k + 1) y0 y1 y2 y3 y4 y5 y6)) ∧ (∀ y0 y1 y2 y3 y4 y5 y6 y7 y8 y9 y10,LeO (pandectlaw17_PlanRises.l1 k y0 y1 y2 y3 y4 y5 y6 y7 y8 y9 y10) (pandectlaw17_PlanRises.l1 (k + 1) y0 y1 y2 y3 y4 y5 y6 y7 y8 y9 y10)) ∧ (∀ y0 y1 y2 y3 y4 y5 y6 y7 y8 y9 y10 y11,LeO (pandectlaw17_PlanRises.l2 k y0 y1 y2 y3 y4 y5 y6 y7 y8 y9 y10 y11) (pandectlaw17_PlanRises.l2 (k + 1) y0 y1 y2 y3 y4 y5 y6 y7 y8 y9 y10 y11))
 | 0 => ⟨fun _ _ _ _ _ _ _ r h => by simp [pandectlaw17_PlanRises.l0] at h,fun _ _ _ _ _ _ _ _ _ _ _ r h => by simp [pandectlaw17_PlanRises.l1] at h,fun _ _ _ _ _ _ _ _ _ _ _ _ r h => by simp [pandectlaw17_PlanRises.l2] at h⟩
 | k + 1 => by
  obtain ⟨ih0,ih1,ih2⟩ :=pandectlaw17_PlanRises.mono_l k
  refine ⟨?_,?_,?_⟩
  ·intro y0 y1 y2 y3 y4 y5 y6
   unfold pandectlaw17_PlanRises.l0
   repeat' first
   | (with_reducible exact ih0 _ _ _ _ _ _ _)
   | (with_reducible exact ih1 _ _ _ _ _ _ _ _ _ _ _)
   | (with_reducible exact ih2 _ _ _ _ _ _ _ _ _ _ _ _)
   | (with_reducible exact pandectplay_Picks_Commit.mono _ _ _)
   | (with_reducible exact plan_Events.mono _ _ _ _ _ _)
   | (with_reducible exact LeO.refl _)
   | (with_reducible exact LeO.none _)
   | (with_reducible refine LeO.ite ?_ ?_)
   | (with_reducible refine LeO.bind ?_ (fun _ => ?_))
   | exact ih0 _ _ _ _ _ _ _
   | exact ih1 _ _ _ _ _ _ _ _ _ _ _
   | exact ih2 _ _ _ _ _ _ _ _ _ _ _ _
   | exact pandectplay_Picks_Commit.mono _ _ _
   | exact plan_Events.mono _ _ _ _ _ _
   | exact LeO.none _
   | refine LeO.ite ?_ ?_
   | refine LeO.bind ?_ (fun _ => ?_)
  ·intro y0 y1 y2 y3 y4 y5 y6 y7 y8 y9 y10
   unfold pandectlaw17_PlanRises.l1
   repeat' first
   | (with_reducible exact ih0 _ _ _ _ _ _ _)
   | (with_reducible exact ih1 _ _ _ _ _ _ _ _ _ _ _)
   | (with_reducible exact ih2 _ _ _ _ _ _ _ _ _ _ _ _)
   | (with_reducible exact pandectplay_Picks_Commit.mono _ _ _)
   | (with_reducible exact plan_Events.mono _ _ _ _ _ _)
   | (with_reducible exact LeO.refl _)
   | (with_reducible exact LeO.none _)
   | (with_reducible refine LeO.ite ?_ ?_)
   | (with_reducible refine LeO.bind ?_ (fun _ => ?_))
   | exact ih0 _ _ _ _ _ _ _
   | exact ih1 _ _ _ _ _ _ _ _ _ _ _
   | exact ih2 _ _ _ _ _ _ _ _ _ _ _ _
   | exact pandectplay_Picks_Commit.mono _ _ _
   | exact plan_Events.mono _ _ _ _ _ _
   | exact LeO.none _
   | refine LeO.ite ?_ ?_
   | refine LeO.bind ?_ (fun _ => ?_)
  ·intro y0 y1 y2 y3 y4 y5 y6 y7 y8 y9 y10 y11
   unfold pandectlaw17_PlanRises.l2
   repeat' first
   | (with_reducible exact ih0 _ _ _ _ _ _ _)
   | (with_reducible exact ih1 _ _ _ _ _ _ _ _ _ _ _)
   | (with_reducible exact ih2 _ _ _ _ _ _ _ _ _ _ _ _)
   | (with_reducible exact pandectplay_Picks_Commit.mono _ _ _)
   | (with_reducible exact plan_Events.mono _ _ _ _ _ _)
   | (with_reducible exact LeO.refl _)
   | (with_reducible exact LeO.none _)
   | (with_reducible refine LeO.ite ?_ ?_)
   | (with_reducible refine LeO.bind ?_ (fun _ => ?_))
   | exact ih0 _ _ _ _ _ _ _
   | exact ih1 _ _ _ _ _ _ _ _ _ _ _
   | exact ih2 _ _ _ _ _ _ _ _ _ _ _ _
   | exact pandectplay_Picks_Commit.mono _ _ _
   | exact plan_Events.mono _ _ _ _ _ _
   | exact LeO.none _
   | refine LeO.ite ?_ ?_
   | refine LeO.bind ?_ (fun _ => ?_)
theorem pandectlaw17_PlanRises.mono : ∀ a0 a1 a2 k,LeO (pandectlaw17_PlanRises.f k a0 a1 a2) (pandectlaw17_PlanRises.f (k + 1) a0 a1 a2) :=by
 intro a0 a1 a2 k
 obtain ⟨ih0,ih1,ih2⟩ :=pandectlaw17_PlanRises.mono_l k
 unfold pandectlaw17_PlanRises.f
 repeat' first
   | (with_reducible exact ih0 _ _ _ _ _ _ _)
   | (with_reducible exact ih1 _ _ _ _ _ _ _ _ _ _ _)
   | (with_reducible exact ih2 _ _ _ _ _ _ _ _ _ _ _ _)
   | (with_reducible exact pandectplay_Picks_Commit.mono _ _ _)
   | (with_reducible exact plan_Events.mono _ _ _ _ _ _)
   | (with_reducible exact LeO.refl _)
   | (with_reducible exact LeO.none _)
   | (with_reducible refine LeO.ite ?_ ?_)
   | (with_reducible refine LeO.bind ?_ (fun _ => ?_))
   | exact ih0 _ _ _ _ _ _ _
   | exact ih1 _ _ _ _ _ _ _ _ _ _ _
   | exact ih2 _ _ _ _ _ _ _ _ _ _ _ _
   | exact pandectplay_Picks_Commit.mono _ _ _
   | exact plan_Events.mono _ _ _ _ _ _
   | exact LeO.none _
   | refine LeO.ite ?_ ?_
   | refine LeO.bind ?_ (fun _ => ?_)
set_option maxHeartbeats 8000000 in
set_option maxRecDepth 100000 in
theorem pandectlaw17_PlanRises.calls (k : Nat) (A0 : Option Addr) (c0 : Nat) (l0 : List Int) (a1 : Int) (a2 : Int) (r : Bool) (w : World) (hr0 : Kd.C (Kd.int .u8) w A0 l0.length l0) (hc0 : l0.length ≤ c0) (h : pandectlaw17_PlanRises.f k l0 a1 a2 = some r) :
  Calls Try.prog 3 #[.slice A0 l0.length c0,.int .u32 a1,.int .u16 a2] w fun e w' => e = .returned (.bool r) ∧ Below w.heap.size w w' :=by
 have hu28 :=Try.underlying28
 have hu38 :=Try.underlying38
 have hu41 :=Try.underlying41
 have HR0 :=Aside0.mk hr0
 have HC0 :=Aside0.mk hc0
 clear hr0 hc0
 have HB :=Aside0.mk (Below.refl w.heap.size w)
 have H : ((pandectlaw17_begun.f).bind fun t183 => (if t183 = true then (if (l0.length : Int) > 60 then (some true) else ((pandectplay_Made.f l0).bind fun bt184 => ((pandectplay_Picks_Commit.f k bt184.1 bt184.2).bind fun bt187 => (pandectlaw17_PlanRises.l0 k a1 a2 ([] : List (S38)) ([] : List Bool) 0 bt187.1 bt187.2.1)))) else (none))) = some r :=h
 clear h
 replace H :=Option.bind_eq_some_iff.mp H
 obtain ⟨t183,A40,H⟩ :=H
 replace H : (if t183 = true then (if (l0.length : Int) > 60 then (some true) else ((pandectplay_Made.f l0).bind fun bt184 => ((pandectplay_Picks_Commit.f k bt184.1 bt184.2).bind fun bt187 => (pandectlaw17_PlanRises.l0 k a1 a2 ([] : List (S38)) ([] : List Bool) 0 bt187.1 bt187.2.1)))) else (none)) = some r :=H
 have A4 :=Aside0.mk A40
 clear A40
 by_cases c5 : t183 = true
 ·subst c5
  have H1 : (if (l0.length : Int) > 60 then (some true) else ((pandectplay_Made.f l0).bind fun bt184 => ((pandectplay_Picks_Commit.f k bt184.1 bt184.2).bind fun bt187 => (pandectlaw17_PlanRises.l0 k a1 a2 ([] : List (S38)) ([] : List Bool) 0 bt187.1 bt187.2.1)))) = some r :=by rw [if_pos rfl] at H;exact H
  clear H
  have H :=H1
  clear H1
  by_cases c6 : (l0.length : Int) > 60
  ·rw [if_pos c6] at H
   have c6b0 : decide (60 < (l0.length : Int)) = true :=decide_eq_true c6
   have c6b1 : decide (60 < l0.length) = true :=decide_eq_true (by omega)
   clear c6
   obtain rfl :=Option.some.inj H
   go_enter Try.func3,Try.ntmps3
   go_wp2_with (first | (go_at_call 4;(with_reducible refine (pandectlaw17_begun.calls  true _ A4.out).mono ?_);rintro e w7 ⟨rfl,hb⟩;have n0_ :=Aside0.mk (below_step (by repeat (first | (with_reducible first | exact HB.out | apply below_alloc | apply pw_below_drewN | apply below_drew1) | exact HB.out)) hb);clear HB;have HB :=n0_;clear n0_;(try clear hb);(try clear hb2);(try clear hk);(try clear hi)))
   repeat (go_quiet (first | (go_at_call 4;(with_reducible refine (pandectlaw17_begun.calls  true _ A4.out).mono ?_);rintro e w7 ⟨rfl,hb⟩;have n0_ :=Aside0.mk (below_step (by repeat (first | (with_reducible first | exact HB.out | apply below_alloc | apply pw_below_drewN | apply below_drew1) | exact HB.out)) hb);clear HB;have HB :=n0_;clear n0_;(try clear hb);(try clear hb2);(try clear hk);(try clear hi)));try go_wp2_with (first | (go_at_call 4;(with_reducible refine (pandectlaw17_begun.calls  true _ A4.out).mono ?_);rintro e w7 ⟨rfl,hb⟩;have n0_ :=Aside0.mk (below_step (by repeat (first | (with_reducible first | exact HB.out | apply below_alloc | apply pw_below_drewN | apply below_drew1) | exact HB.out)) hb);clear HB;have HB :=n0_;clear n0_;(try clear hb);(try clear hb2);(try clear hk);(try clear hi))))
   go_ret
   exact ⟨by first | rfl | (simp [errW_none,errW_some] <;> rfl) | (simp [*,errW_none,errW_some] <;> rfl),by repeat (first | (with_reducible first | exact HB.out | apply below_alloc | apply pw_below_drewN | apply below_drew1) | exact HB.out)⟩
  ·rw [if_neg c6] at H
   have c6b0 : decide (60 < (l0.length : Int)) = false :=decide_eq_false c6
   have c6b1 : decide (60 < l0.length) = false :=decide_eq_false (by omega)
   clear c6
   replace H :=Option.bind_eq_some_iff.mp H
   obtain ⟨⟨t184,t185⟩,A80,H⟩ :=H
   replace H : ((pandectplay_Picks_Commit.f k t184 t185).bind fun bt187 => (pandectlaw17_PlanRises.l0 k a1 a2 ([] : List (S38)) ([] : List Bool) 0 bt187.1 bt187.2.1)) = some r :=H
   have A8 :=Aside0.mk A80
   clear A80
   replace H :=Option.bind_eq_some_iff.mp H
   obtain ⟨⟨t187,t188,t191⟩,A90,H⟩ :=H
   replace H : (pandectlaw17_PlanRises.l0 k a1 a2 ([] : List (S38)) ([] : List Bool) 0 t187 t188) = some r :=H
   have A9 :=Aside0.mk A90
   clear A90
   have H' :=Aside0.mk H
   clear H
   go_enter Try.func3,Try.ntmps3
   go_wp2_with (first | (go_at_call 4;(with_reducible refine (pandectlaw17_begun.calls  true _ A4.out).mono ?_);rintro e w10 ⟨rfl,hb⟩;have n0_ :=Aside0.mk (below_step (by repeat (first | (with_reducible first | exact HB.out | apply below_alloc | apply pw_below_drewN | apply below_drew1) | exact HB.out)) hb);clear HB;have HB :=n0_;clear n0_;(try clear hb);(try clear hb2);(try clear hk);(try clear hi)) | (go_at_call 5;(with_reducible refine (pandectplay_Made.calls _ _ l0 t184 t185 w _ ?side1 ?side2 ?side3 A8.out).mono ?_);(case side1 => repeat (first | (with_reducible first | exact HB.out | apply below_alloc | apply pw_below_drewN | apply below_drew1) | exact HB.out));(case side2 => exact HR0.out);(case side3 => exact HC0.out);rintro e w11 ⟨g186,rfl,hi,hb,hb2⟩;have n0_ :=Aside0.mk (hb);have n1_ :=Aside0.mk (hi);clear HB;have HB :=n0_;have HI186 :=n1_;clear n0_ n1_;(try clear hb);(try clear hb2);(try clear hk);(try clear hi)) | (go_at_call 6;(with_reducible refine (pandectplay_Picks_Commit.calls k g186 t184 t185 t187 t188 t191 w _ ?side1 ?side2 A9.out).mono ?_);(case side1 => repeat (first | (with_reducible first | exact HI186.out | apply IsS56.alloc | apply IsS56.drewN | apply IsS56.drew | apply IsS56.set_1) | exact HI186.out));(case side2 => repeat (first | (with_reducible first | exact HB.out | apply below_alloc | apply pw_below_drewN | apply below_drew1 | refine below_set ?_ (IsS56.ge HI186.out)) | exact HB.out));rintro e w12 ⟨v189,rfl,ho0,hi,hb,hk⟩;have n0_ :=Aside0.mk (Kd.R_lower ho0 (below_size (by repeat (first | (with_reducible first | exact HB.out | apply below_alloc | apply pw_below_drewN | apply below_drew1 | refine below_set ?_ (IsS56.ge HI186.out)) | exact HB.out))));have n1_ :=Aside0.mk (hb);have n2_ :=Aside0.mk (hi);clear HB;clear HI186;have HO190 :=n0_;have HB :=n1_;have HI186 :=n2_;clear n0_ n1_ n2_;(try clear hb);(try clear hb2);(try clear hk);(try clear hi);(try clear ho0)) | ((with_reducible refine gate_dst (N :=7) rfl ?_);(try (refine gate_guard (by rfl) ?_;dsimp only));refine box_event ?hg (N :=7) ?hd (cs :=#[.string (⟨#[]⟩ : ByteArray),.slice none 0 0]) (t :=28) ?hr ?_;(case hd => rfl);(case hg => rfl);(case hr => first | (go_simp;done) | (go_simp;rfl));intro gb192 hg w13 hbox hb;have n0_ :=Aside0.mk (Kd.R_below (by (with_reducible repeat (first | apply Kd.R_alloc | apply Kd.R_drewN | apply Kd.R_drew));exact HO190.out) hb);have n1_ :=Aside0.mk (IsS56.below (by repeat (first | (with_reducible first | exact HI186.out | apply IsS56.alloc | apply IsS56.drewN | apply IsS56.drew | apply IsS56.set_1) | exact HI186.out)) hb);have n2_ :=Aside0.mk (below_step (by repeat (first | (with_reducible first | exact HB.out | apply below_alloc | apply pw_below_drewN | apply below_drew1 | refine below_set ?_ (IsS56.ge HI186.out)) | exact HB.out)) hb);have n3_ :=Aside0.mk (hbox);have n4_ :=Aside0.mk ((by rw [hg];exact (below_size (by repeat (first | (with_reducible first | exact HB.out | apply below_alloc | apply pw_below_drewN | apply below_drew1 | refine below_set ?_ (IsS56.ge HI186.out)) | exact HB.out))) : w.heap.size ≤ gb192));have n5_ :=Aside0.mk ((by rw [hg];exact (below_size (by repeat (first | (with_reducible first | exact HB.out | apply below_alloc | apply pw_below_drewN | apply below_drew1 | refine below_set ?_ (IsS56.ge HI186.out)) | exact HB.out))) : w.heap.size ≤ gb192));have n6_ :=Aside0.mk ((by rw [hg];exact Nat.ne_of_lt (IsS56.lt (show IsS56 w _ g186 t184 t191 from by repeat (first | (with_reducible first | exact HI186.out | apply IsS56.alloc | apply IsS56.drewN | apply IsS56.drew | apply IsS56.set_1) | exact HI186.out))) : g186 ≠ gb192));have n7_ :=Aside0.mk ((by rw [hg];exact Nat.ne_of_gt (IsS56.lt (show IsS56 w _ g186 t184 t191 from by repeat (first | (with_reducible first | exact HI186.out | apply IsS56.alloc | apply IsS56.drewN | apply IsS56.drew | apply IsS56.set_1) | exact HI186.out))) : gb192 ≠ g186));clear HO190;clear HI186;clear HB;have HO190 :=n0_;have HI186 :=n1_;have HB :=n2_;have BK192 :=n3_;have GW192 :=n4_;have GE192 :=n5_;have NB186_192 :=n6_;have NB192_186 :=n7_;clear n0_ n1_ n2_ n3_ n4_ n5_ n6_ n7_;clear hb hbox hg;have hnb14 :=NB192_186.out;have hnc14 :=NB186_192.out;have hcz15_0 : w13.cell? ⟨gb192,0,none⟩ = some (.string (⟨#[]⟩ : ByteArray)) :=(blk_cell BK192.out 0).trans rfl;have hcz15_1 : w13.cell? ⟨gb192,1,none⟩ = some (.slice none 0 0) :=(blk_cell BK192.out 1).trans rfl;have hfz15_0 :=blk_frozen BK192.out 0;have hfz15_1 :=blk_frozen BK192.out 1;obtain ⟨Ao16,co16,eo16⟩ :=Kd.R_slice HO190.out;subst eo16))
   repeat (go_quiet (first | (go_at_call 4;(with_reducible refine (pandectlaw17_begun.calls  true _ A4.out).mono ?_);rintro e w10 ⟨rfl,hb⟩;have n0_ :=Aside0.mk (below_step (by repeat (first | (with_reducible first | exact HB.out | apply below_alloc | apply pw_below_drewN | apply below_drew1) | exact HB.out)) hb);clear HB;have HB :=n0_;clear n0_;(try clear hb);(try clear hb2);(try clear hk);(try clear hi)) | (go_at_call 5;(with_reducible refine (pandectplay_Made.calls _ _ l0 t184 t185 w _ ?side1 ?side2 ?side3 A8.out).mono ?_);(case side1 => repeat (first | (with_reducible first | exact HB.out | apply below_alloc | apply pw_below_drewN | apply below_drew1) | exact HB.out));(case side2 => exact HR0.out);(case side3 => exact HC0.out);rintro e w11 ⟨g186,rfl,hi,hb,hb2⟩;have n0_ :=Aside0.mk (hb);have n1_ :=Aside0.mk (hi);clear HB;have HB :=n0_;have HI186 :=n1_;clear n0_ n1_;(try clear hb);(try clear hb2);(try clear hk);(try clear hi)) | (go_at_call 6;(with_reducible refine (pandectplay_Picks_Commit.calls k g186 t184 t185 t187 t188 t191 w _ ?side1 ?side2 A9.out).mono ?_);(case side1 => repeat (first | (with_reducible first | exact HI186.out | apply IsS56.alloc | apply IsS56.drewN | apply IsS56.drew | apply IsS56.set_1) | exact HI186.out));(case side2 => repeat (first | (with_reducible first | exact HB.out | apply below_alloc | apply pw_below_drewN | apply below_drew1 | refine below_set ?_ (IsS56.ge HI186.out)) | exact HB.out));rintro e w12 ⟨v189,rfl,ho0,hi,hb,hk⟩;have n0_ :=Aside0.mk (Kd.R_lower ho0 (below_size (by repeat (first | (with_reducible first | exact HB.out | apply below_alloc | apply pw_below_drewN | apply below_drew1 | refine below_set ?_ (IsS56.ge HI186.out)) | exact HB.out))));have n1_ :=Aside0.mk (hb);have n2_ :=Aside0.mk (hi);clear HB;clear HI186;have HO190 :=n0_;have HB :=n1_;have HI186 :=n2_;clear n0_ n1_ n2_;(try clear hb);(try clear hb2);(try clear hk);(try clear hi);(try clear ho0)) | ((with_reducible refine gate_dst (N :=7) rfl ?_);(try (refine gate_guard (by rfl) ?_;dsimp only));refine box_event ?hg (N :=7) ?hd (cs :=#[.string (⟨#[]⟩ : ByteArray),.slice none 0 0]) (t :=28) ?hr ?_;(case hd => rfl);(case hg => rfl);(case hr => first | (go_simp;done) | (go_simp;rfl));intro gb192 hg w13 hbox hb;have n0_ :=Aside0.mk (Kd.R_below (by (with_reducible repeat (first | apply Kd.R_alloc | apply Kd.R_drewN | apply Kd.R_drew));exact HO190.out) hb);have n1_ :=Aside0.mk (IsS56.below (by repeat (first | (with_reducible first | exact HI186.out | apply IsS56.alloc | apply IsS56.drewN | apply IsS56.drew | apply IsS56.set_1) | exact HI186.out)) hb);have n2_ :=Aside0.mk (below_step (by repeat (first | (with_reducible first | exact HB.out | apply below_alloc | apply pw_below_drewN | apply below_drew1 | refine below_set ?_ (IsS56.ge HI186.out)) | exact HB.out)) hb);have n3_ :=Aside0.mk (hbox);have n4_ :=Aside0.mk ((by rw [hg];exact (below_size (by repeat (first | (with_reducible first | exact HB.out | apply below_alloc | apply pw_below_drewN | apply below_drew1 | refine below_set ?_ (IsS56.ge HI186.out)) | exact HB.out))) : w.heap.size ≤ gb192));have n5_ :=Aside0.mk ((by rw [hg];exact (below_size (by repeat (first | (with_reducible first | exact HB.out | apply below_alloc | apply pw_below_drewN | apply below_drew1 | refine below_set ?_ (IsS56.ge HI186.out)) | exact HB.out))) : w.heap.size ≤ gb192));have n6_ :=Aside0.mk ((by rw [hg];exact Nat.ne_of_lt (IsS56.lt (show IsS56 w _ g186 t184 t191 from by repeat (first | (with_reducible first | exact HI186.out | apply IsS56.alloc | apply IsS56.drewN | apply IsS56.drew | apply IsS56.set_1) | exact HI186.out))) : g186 ≠ gb192));have n7_ :=Aside0.mk ((by rw [hg];exact Nat.ne_of_gt (IsS56.lt (show IsS56 w _ g186 t184 t191 from by repeat (first | (with_reducible first | exact HI186.out | apply IsS56.alloc | apply IsS56.drewN | apply IsS56.drew | apply IsS56.set_1) | exact HI186.out))) : gb192 ≠ g186));clear HO190;clear HI186;clear HB;have HO190 :=n0_;have HI186 :=n1_;have HB :=n2_;have BK192 :=n3_;have GW192 :=n4_;have GE192 :=n5_;have NB186_192 :=n6_;have NB192_186 :=n7_;clear n0_ n1_ n2_ n3_ n4_ n5_ n6_ n7_;clear hb hbox hg;have hnb14 :=NB192_186.out;have hnc14 :=NB186_192.out;have hcz15_0 : w13.cell? ⟨gb192,0,none⟩ = some (.string (⟨#[]⟩ : ByteArray)) :=(blk_cell BK192.out 0).trans rfl;have hcz15_1 : w13.cell? ⟨gb192,1,none⟩ = some (.slice none 0 0) :=(blk_cell BK192.out 1).trans rfl;have hfz15_0 :=blk_frozen BK192.out 0;have hfz15_1 :=blk_frozen BK192.out 1;obtain ⟨Ao16,co16,eo16⟩ :=Kd.R_slice HO190.out;subst eo16));try go_wp2_with (first | (go_at_call 4;(with_reducible refine (pandectlaw17_begun.calls  true _ A4.out).mono ?_);rintro e w10 ⟨rfl,hb⟩;have n0_ :=Aside0.mk (below_step (by repeat (first | (with_reducible first | exact HB.out | apply below_alloc | apply pw_below_drewN | apply below_drew1) | exact HB.out)) hb);clear HB;have HB :=n0_;clear n0_;(try clear hb);(try clear hb2);(try clear hk);(try clear hi)) | (go_at_call 5;(with_reducible refine (pandectplay_Made.calls _ _ l0 t184 t185 w _ ?side1 ?side2 ?side3 A8.out).mono ?_);(case side1 => repeat (first | (with_reducible first | exact HB.out | apply below_alloc | apply pw_below_drewN | apply below_drew1) | exact HB.out));(case side2 => exact HR0.out);(case side3 => exact HC0.out);rintro e w11 ⟨g186,rfl,hi,hb,hb2⟩;have n0_ :=Aside0.mk (hb);have n1_ :=Aside0.mk (hi);clear HB;have HB :=n0_;have HI186 :=n1_;clear n0_ n1_;(try clear hb);(try clear hb2);(try clear hk);(try clear hi)) | (go_at_call 6;(with_reducible refine (pandectplay_Picks_Commit.calls k g186 t184 t185 t187 t188 t191 w _ ?side1 ?side2 A9.out).mono ?_);(case side1 => repeat (first | (with_reducible first | exact HI186.out | apply IsS56.alloc | apply IsS56.drewN | apply IsS56.drew | apply IsS56.set_1) | exact HI186.out));(case side2 => repeat (first | (with_reducible first | exact HB.out | apply below_alloc | apply pw_below_drewN | apply below_drew1 | refine below_set ?_ (IsS56.ge HI186.out)) | exact HB.out));rintro e w12 ⟨v189,rfl,ho0,hi,hb,hk⟩;have n0_ :=Aside0.mk (Kd.R_lower ho0 (below_size (by repeat (first | (with_reducible first | exact HB.out | apply below_alloc | apply pw_below_drewN | apply below_drew1 | refine below_set ?_ (IsS56.ge HI186.out)) | exact HB.out))));have n1_ :=Aside0.mk (hb);have n2_ :=Aside0.mk (hi);clear HB;clear HI186;have HO190 :=n0_;have HB :=n1_;have HI186 :=n2_;clear n0_ n1_ n2_;(try clear hb);(try clear hb2);(try clear hk);(try clear hi);(try clear ho0)) | ((with_reducible refine gate_dst (N :=7) rfl ?_);(try (refine gate_guard (by rfl) ?_;dsimp only));refine box_event ?hg (N :=7) ?hd (cs :=#[.string (⟨#[]⟩ : ByteArray),.slice none 0 0]) (t :=28) ?hr ?_;(case hd => rfl);(case hg => rfl);(case hr => first | (go_simp;done) | (go_simp;rfl));intro gb192 hg w13 hbox hb;have n0_ :=Aside0.mk (Kd.R_below (by (with_reducible repeat (first | apply Kd.R_alloc | apply Kd.R_drewN | apply Kd.R_drew));exact HO190.out) hb);have n1_ :=Aside0.mk (IsS56.below (by repeat (first | (with_reducible first | exact HI186.out | apply IsS56.alloc | apply IsS56.drewN | apply IsS56.drew | apply IsS56.set_1) | exact HI186.out)) hb);have n2_ :=Aside0.mk (below_step (by repeat (first | (with_reducible first | exact HB.out | apply below_alloc | apply pw_below_drewN | apply below_drew1 | refine below_set ?_ (IsS56.ge HI186.out)) | exact HB.out)) hb);have n3_ :=Aside0.mk (hbox);have n4_ :=Aside0.mk ((by rw [hg];exact (below_size (by repeat (first | (with_reducible first | exact HB.out | apply below_alloc | apply pw_below_drewN | apply below_drew1 | refine below_set ?_ (IsS56.ge HI186.out)) | exact HB.out))) : w.heap.size ≤ gb192));have n5_ :=Aside0.mk ((by rw [hg];exact (below_size (by repeat (first | (with_reducible first | exact HB.out | apply below_alloc | apply pw_below_drewN | apply below_drew1 | refine below_set ?_ (IsS56.ge HI186.out)) | exact HB.out))) : w.heap.size ≤ gb192));have n6_ :=Aside0.mk ((by rw [hg];exact Nat.ne_of_lt (IsS56.lt (show IsS56 w _ g186 t184 t191 from by repeat (first | (with_reducible first | exact HI186.out | apply IsS56.alloc | apply IsS56.drewN | apply IsS56.drew | apply IsS56.set_1) | exact HI186.out))) : g186 ≠ gb192));have n7_ :=Aside0.mk ((by rw [hg];exact Nat.ne_of_gt (IsS56.lt (show IsS56 w _ g186 t184 t191 from by repeat (first | (with_reducible first | exact HI186.out | apply IsS56.alloc | apply IsS56.drewN | apply IsS56.drew | apply IsS56.set_1) | exact HI186.out))) : gb192 ≠ g186));clear HO190;clear HI186;clear HB;have HO190 :=n0_;have HI186 :=n1_;have HB :=n2_;have BK192 :=n3_;have GW192 :=n4_;have GE192 :=n5_;have NB186_192 :=n6_;have NB192_186 :=n7_;clear n0_ n1_ n2_ n3_ n4_ n5_ n6_ n7_;clear hb hbox hg;have hnb14 :=NB192_186.out;have hnc14 :=NB186_192.out;have hcz15_0 : w13.cell? ⟨gb192,0,none⟩ = some (.string (⟨#[]⟩ : ByteArray)) :=(blk_cell BK192.out 0).trans rfl;have hcz15_1 : w13.cell? ⟨gb192,1,none⟩ = some (.slice none 0 0) :=(blk_cell BK192.out 1).trans rfl;have hfz15_0 :=blk_frozen BK192.out 0;have hfz15_1 :=blk_frozen BK192.out 1;obtain ⟨Ao16,co16,eo16⟩ :=Kd.R_slice HO190.out;subst eo16)))
   go_loopg [8,9,10] k (fun kq v8 v9 v10 w' => ∃ (x8_1 : List (S38)) (x9_1 : List Bool) (x10_1 : Int) (x193001_1 : List (S36)) (u193001 : Value),v10 = .int .i64 x10_1 ∧ Aside0 (pandectlaw17_PlanRises.l0 kq a1 a2 x8_1 x9_1 x10_1 t187 x193001_1 = some r) ∧ Aside0 (kq ≤ k) ∧ Aside0 (Kd.R k38 38 w' w.heap.size (fun _ => True) v8 x8_1) ∧ Aside0 (Kd.R Kd.bool 4 w' w.heap.size (fun _ => True) v9 x9_1) ∧ Aside0 (Kd.R k36 36 w' w.heap.size (fun _ => True) u193001 x193001_1) ∧ Aside0 (w'.heap[gb192]? = some (.cells #[.string t187,u193001] 28 (0,0))) ∧ Aside0 (Below w.heap.size w w'))
   case atStart => exact ⟨(([] : List (S38))),(([] : List Bool)),(0),(t188),(.slice Ao16 t188.length co16),(by first | rfl | (simp;done) | (simp [*];done)),H',⟨Nat.le_refl _⟩,⟨by first | exact Kd.R_nil _ _ _ _ _ | exact Kd.N_nil _ _ _ _ _ | exact Kd.V_nil _ _ _ _ _ | exact Kd.Q_nil _ _ _ _ _ | exact Kd.S_nil _ _ _ _ _⟩,⟨by first | exact Kd.R_nil _ _ _ _ _ | exact Kd.N_nil _ _ _ _ _ | exact Kd.V_nil _ _ _ _ _ | exact Kd.Q_nil _ _ _ _ _ | exact Kd.S_nil _ _ _ _ _⟩,⟨by (with_reducible repeat (first | apply Kd.R_alloc | apply Kd.R_drewN | apply Kd.R_drew));exact Kd.R_mono (Kd.R_far (p :=⟨gb192,1,none⟩) (Kd.R_far (p :=⟨gb192,0,none⟩) (Kd.R_types HO190.out BK192.out (by decide)) (fun _ hk => hk.2) (.string t187)) (fun _ hk => hk.2) (.slice Ao16 t188.length co16)) (fun _ hk => trivial)⟩,⟨by (with_reducible repeat (first | refine blk_drewN ?_ _ | refine blk_drew ?_ | refine blk_alloc ?_ _));refine blk_put (cs :=#[.string t187,.slice none 0 0]) ?_ 1 _ rfl;(with_reducible repeat (first | refine blk_drewN ?_ _ | refine blk_drew ?_ | refine blk_alloc ?_ _));refine blk_put (cs :=#[.string (⟨#[]⟩ : ByteArray),.slice none 0 0]) ?_ 0 _ rfl;(with_reducible repeat (first | refine blk_drewN ?_ _ | refine blk_drew ?_ | refine blk_alloc ?_ _));exact BK192.out⟩,⟨by repeat (first | (with_reducible first | exact HB.out | apply below_alloc | apply pw_below_drewN | apply below_drew1 | refine below_set ?_ (IsS56.ge HI186.out) | refine below_set ?_ GE192.out) | exact HB.out)⟩⟩
   case round => as_aux_lemma =>
    clear H'
    try clear c1
    try clear p2
    try clear c3
    try clear c5
    try clear c6
    try clear c6b0
    try clear c6b1
    try clear c14
    try clear hcz15_0
    try clear hcz15_1
    try clear hfz15_0
    try clear hfz15_1
    obtain ⟨x8_1,x9_1,x10_1,x193001_1,u193001,rfl,HA,HK1,HO_8,HO_9,HO_193001,BK192,HB⟩ :=hrel
    cases gk with
    | zero => exact absurd HA.out (by simp [pandectlaw17_PlanRises.l0])
    | succ k1 =>
     have H :=HA.out
     clear HA
     simp only [pandectlaw17_PlanRises.l0] at H
     by_cases c17 : x10_1 < (x193001_1.length : Int)
     ·rw [if_pos c17] at H
      have c17b0 : decide (x10_1 < (x193001_1.length : Int)) = true :=decide_eq_true c17
      clear c17
      by_cases c18 : 0 ≤ x10_1
      ·rw [if_pos c18] at H
       have c18b0 : decide (0 ≤ x10_1) = true :=decide_eq_true c18
       clear c18
       obtain ⟨y193,hy193⟩ : ∃ y_ : List (S36),y_ = (x193001_1.set (x10_1 : Int).toNat (⟨(rd_T36 x193001_1 x10_1).f0,(-1),(rd_T36 x193001_1 x10_1).f2⟩ : S36)) :=⟨_,rfl⟩
       replace H : (if x8_1.length < 5864062014805 then (if x9_1.length < 140737488355328 then (pandectlaw17_PlanRises.l0 k1 a1 a2 (x8_1 ++ [(⟨wrap64 ((wrap64 (a2)) + x10_1),0,false⟩ : S38)]) (x9_1 ++ [true]) (wrap64 (x10_1 + 1)) t187 y193) else (none)) else (none)) = some r :=by first | (rw [hy193];with_reducible exact H) | (have H2_ :=(Option.bind_some _ _).symm.trans H;rw [hy193];with_reducible exact H2_) | (have H2_ :=(Option.bind_some _ _).symm.trans H;with_reducible exact H2_) | with_reducible exact H | (rw [hy193];exact H) | exact H
       have Ny193 :=Aside0.mk hy193
       clear hy193
       by_cases c20 : x8_1.length < 5864062014805
       ·rw [if_pos c20] at H
        have LMc20 :=Aside0.mk c20
        clear c20
        obtain ⟨y194,hy194⟩ : ∃ y_ : List (S38),y_ = (x8_1 ++ [(⟨wrap64 ((wrap64 (a2)) + x10_1),0,false⟩ : S38)]) :=⟨_,rfl⟩
        replace H : (if x9_1.length < 140737488355328 then (pandectlaw17_PlanRises.l0 k1 a1 a2 y194 (x9_1 ++ [true]) (wrap64 (x10_1 + 1)) t187 y193) else (none)) = some r :=by first | (rw [hy194];with_reducible exact H) | (have H2_ :=(Option.bind_some _ _).symm.trans H;rw [hy194];with_reducible exact H2_) | (have H2_ :=(Option.bind_some _ _).symm.trans H;with_reducible exact H2_) | with_reducible exact H | (rw [hy194];exact H) | exact H
        have Ny194 :=Aside0.mk hy194
        clear hy194
        by_cases c21 : x9_1.length < 140737488355328
        ·rw [if_pos c21] at H
         have LMc21 :=Aside0.mk c21
         clear c21
         obtain ⟨y197,hy197⟩ : ∃ y_ : List Bool,y_ = (x9_1 ++ [true]) :=⟨_,rfl⟩
         replace H : (pandectlaw17_PlanRises.l0 k1 a1 a2 y194 y197 (wrap64 (x10_1 + 1)) t187 y193) = some r :=by first | (rw [hy197];with_reducible exact H) | (have H2_ :=(Option.bind_some _ _).symm.trans H;rw [hy197];with_reducible exact H2_) | (have H2_ :=(Option.bind_some _ _).symm.trans H;with_reducible exact H2_) | with_reducible exact H | (rw [hy197];exact H) | exact H
         have Ny197 :=Aside0.mk hy197
         clear hy197
         have H' :=Aside0.mk H
         clear H
         have hcz22_0 : wr.cell? ⟨gb192,0,none⟩ = some (.string t187) :=(blk_cell BK192.out 0).trans rfl
         have hcz22_1 : wr.cell? ⟨gb192,1,none⟩ = some (u193001) :=(blk_cell BK192.out 1).trans rfl
         have hfz22_0 :=blk_frozen BK192.out 0
         have hfz22_1 :=blk_frozen BK192.out 1
         obtain ⟨Ao23,co23,eo23⟩ :=Kd.R_slice HO_193001.out
         subst eo23
         have p19 : 0 ≤ (x10_1 : Int) :=of_decide_eq_true (by first | (with_reducible assumption) | assumption)
         have q19 : (x10_1 : Int) < ((x193001_1.length : Int) : Int) :=of_decide_eq_true (by first | (with_reducible assumption) | assumption)
         obtain ⟨go19,co19,eo19,gb19,gl19,cl19,HG19⟩ :=Kd.R_form HO_193001.out (by omega)
         (first | cases eo19 | (injection eo19 with ea_ en_ ec_;(first | subst ea_ | (injection ea_ with ea_;subst ea_));subst ec_;clear en_))
         have GB19 :=Aside0.mk gb19
         have GG19 :=Aside0.mk HG19
         clear gb19 gl19 HG19
         obtain ⟨ce19,hcl19,hM19,hcc19,hfr19⟩ :=Kd.R_elem HO_193001.out z36 (x10_1 : Int) p19 q19
         obtain ⟨ve19_2,rfl,ge19_2⟩ :=k36_openM hM19
         have hx19_0 : wr.cell? ⟨go19,(x10_1 : Int).toNat * 3,none⟩ = some (.string ((rd_T36 x193001_1 x10_1).f0)) :=hcc19 0 _ rfl
         have hx19_1 : wr.cell? ⟨go19,(x10_1 : Int).toNat * 3 + 1,none⟩ = some (.int .i64 ((rd_T36 x193001_1 x10_1).f1)) :=hcc19 1 _ rfl
         have hx19_2 : wr.cell? ⟨go19,(x10_1 : Int).toNat * 3 + 2,none⟩ = some (ve19_2) :=hcc19 2 _ rfl
         have hf19_0 : wr.frozen? ⟨go19,(x10_1 : Int).toNat * 3,none⟩ = false :=hfr19 0
         have hf19_1 : wr.frozen? ⟨go19,(x10_1 : Int).toNat * 3 + 1,none⟩ = false :=hfr19 1
         have hf19_2 : wr.frozen? ⟨go19,(x10_1 : Int).toNat * 3 + 2,none⟩ = false :=hfr19 2
         clear hcl19 hcc19 hfr19 hM19
         replace p19 :=eq_true p19
         replace q19 :=eq_true q19
         have HX24 :=Aside0.mk (show Kd.R k36 36 wr w.heap.size (fun _ => True) (.slice (some ⟨go19,0,none⟩) x193001_1.length co23) x193001_1 from (by (with_reducible repeat (first | apply Kd.R_alloc | apply Kd.R_drewN | apply Kd.R_drew));exact HO_193001.out))
         obtain ⟨ce24,hcl24,hM24,hcc24,hfr24⟩ :=Kd.R_elem HX24.out z36 (x10_1 : Int) (of_decide_eq_true (by first | (with_reducible assumption) | assumption)) (by have h_ : (x10_1 : Int) < ((x193001_1.length : Int) : Int) :=of_decide_eq_true (by first | (with_reducible assumption) | assumption);first | exact h_ | (have e_ :=(Kd.R_reads' HO_193001.out).1;omega) | simpa using h_)
         obtain ⟨ve24_2,rfl,ge24_2⟩ :=k36_openM hM24
         have HP24 :=Kd.R_seg HX24.out (x10_1 : Int) (of_decide_eq_true (by first | (with_reducible assumption) | assumption)) (by have h_ : (x10_1 : Int) < ((x193001_1.length : Int) : Int) :=of_decide_eq_true (by first | (with_reducible assumption) | assumption);first | exact h_ | (have e_ :=(Kd.R_reads' HO_193001.out).1;omega) | simpa using h_) (seg :=[.int .i64 (-1)]) (j :=1) hcl24 hcc24 (show 2 ≤ 3 from by decide) (x' :=(⟨(rd_T36 x193001_1 x10_1).f0,(-1),(rd_T36 x193001_1 x10_1).f2⟩ : S36)) (k36_mkM _ _ _ (⟨(rd_T36 x193001_1 x10_1).f0,(-1),(rd_T36 x193001_1 x10_1).f2⟩ : S36) ge24_2) (fun _ hk => hk)
         have hx24_1 :=hcc24 1 _ rfl
         (try simp only [show (k36).sz = 3 from rfl,Nat.mul_one,Nat.add_zero] at hx24_1)
         have hf24_1 :=hfr24 1
         (try simp only [show (k36).sz = 3 from rfl,Nat.mul_one,Nat.add_zero] at hf24_1)
         clear hcl24 hcc24 hfr24 hM24
         go_wp2_with (first | ((with_reducible refine gate_store (t :=2) (p :=36) rfl ?_);(try (rw [drewN_self wr];generalize hq_ : World.drewN wr _ = wr;have n0_ :=Aside0.mk (Kd.R_at hq_ HO_8.out);have n1_ :=Aside0.mk (Kd.R_at hq_ HO_9.out);have n2_ :=Aside0.mk (Kd.R_at hq_ HO_193001.out);have n3_ :=Aside0.mk (blk_at hq_ BK192.out);have n4_ :=Aside0.mk (below_at hq_ HB.out);clear hq_ HO_8 HO_9 HO_193001 BK192 HB;have HO_8 :=n0_;have HO_9 :=n1_;have HO_193001 :=n2_;have BK192 :=n3_;have HB :=n4_;clear n0_ n1_ n2_ n3_ n4_;(try (have HX24 :=Aside0.mk (show Kd.R k36 36 wr w.heap.size (fun _ => True) (.slice (some ⟨go19,0,none⟩) x193001_1.length co23) x193001_1 from (by (with_reducible repeat (first | apply Kd.R_alloc | apply Kd.R_drewN | apply Kd.R_drew));exact HO_193001.out))));(try (obtain ⟨ce24,hcl24,hM24,hcc24,hfr24⟩ :=Kd.R_elem HX24.out z36 (x10_1 : Int) (of_decide_eq_true (by first | (with_reducible assumption) | assumption)) (by have h_ : (x10_1 : Int) < ((x193001_1.length : Int) : Int) :=of_decide_eq_true (by first | (with_reducible assumption) | assumption);first | exact h_ | (have e_ :=(Kd.R_reads' HO_193001.out).1;omega) | simpa using h_)));(try (obtain ⟨ve24_2,rfl,ge24_2⟩ :=k36_openM hM24));(try (have HP24 :=Kd.R_seg HX24.out (x10_1 : Int) (of_decide_eq_true (by first | (with_reducible assumption) | assumption)) (by have h_ : (x10_1 : Int) < ((x193001_1.length : Int) : Int) :=of_decide_eq_true (by first | (with_reducible assumption) | assumption);first | exact h_ | (have e_ :=(Kd.R_reads' HO_193001.out).1;omega) | simpa using h_) (seg :=[.int .i64 (-1)]) (j :=1) hcl24 hcc24 (show 2 ≤ 3 from by decide) (x' :=(⟨(rd_T36 x193001_1 x10_1).f0,(-1),(rd_T36 x193001_1 x10_1).f2⟩ : S36)) (k36_mkM _ _ _ (⟨(rd_T36 x193001_1 x10_1).f0,(-1),(rd_T36 x193001_1 x10_1).f2⟩ : S36) ge24_2) (fun _ hk => hk)));(try (have hx24_1 :=hcc24 1 _ rfl));(try (try simp only [show (k36).sz = 3 from rfl,Nat.mul_one,Nat.add_zero] at hx24_1));(try (have hf24_1 :=hfr24 1));(try (try simp only [show (k36).sz = 3 from rfl,Nat.mul_one,Nat.add_zero] at hf24_1));(try (clear hcl24 hcc24 hfr24 hM24))));refine store_event (t :=2) (p :=36) (v :=?vo_w25) (w1 :=(wr.setCell ⟨go19,(x10_1 : Int).toNat * 3 + 1,none⟩ (.int .i64 (-1)))) ?hg ?ho ?hn ?hr ?_;(case ho => rfl);(case hg => rfl);(case hn => rfl);(case hr => first | (go_simp;done) | (go_simp;rfl));intro w25 hw;have hg : wr.grownBy w25 (some go19) :=(by rw [hw];exact HP24.2);have hp_ : Kd.R k36 36 w25 w.heap.size (fun _ => True) (.slice (some ⟨go19,0,none⟩) x193001_1.length co23) y193 :=(by rw [hw,Ny193.out];exact HP24.1);clear HP24;have n0_ :=Aside0.mk (Kd.R_over' (v :=(.slice (some ⟨go19,0,none⟩) x193001_1.length co23)) (by (with_reducible repeat (first | apply Kd.R_alloc | apply Kd.R_drewN | apply Kd.R_drew));exact HO_8.out) (Kd.R_typed HO_193001.out) (by decide) hg);have n1_ :=Aside0.mk (Kd.R_over' (v :=(.slice (some ⟨go19,0,none⟩) x193001_1.length co23)) (by (with_reducible repeat (first | apply Kd.R_alloc | apply Kd.R_drewN | apply Kd.R_drew));exact HO_9.out) (Kd.R_typed HO_193001.out) (by decide) hg);have n2_ :=Aside0.mk (hp_);have n3_ :=Aside0.mk (blk_grown (g :=gb192) (o :=.cells #[.string t187,.slice (some ⟨go19,0,none⟩) x193001_1.length co23] 28 (0,0)) (by (with_reducible repeat (first | refine blk_drewN ?_ _ | refine blk_drew ?_ | refine blk_alloc ?_ _));exact BK192.out) hg (Kd.R_ne HO_193001.out BK192.out (by decide)));have n4_ :=Aside0.mk ((by rw [hw];exact below_set (HB.out) GB19.out : Below w.heap.size w w25));clear HO_8;clear HO_9;clear HO_193001;clear BK192;clear HB;have HO_8 :=n0_;have HO_9 :=n1_;have HO_193001 :=n2_;have BK192 :=n3_;have HB :=n4_;clear n0_ n1_ n2_ n3_ n4_;clear hg hw hp_) | ((with_reducible refine gate_builtin (b :=.append) (xs :=#[.tmp 37,.tmp 43]) rfl ?_);(try (refine gate_guard (by rfl) ?_;dsimp only));at_builtin;refine Kd.R_append k38 (w0 :=w) w.heap.size rfl (.tmp 37) (.tmp 43) 32 38 (.agg #[(.int .i64 0),(.int .i64 0),(.bool false)]) 24 rfl Try.underlying32 info38 rfl (by decide) (by omega) u8 x8_1 (⟨wrap64 ((wrap64 (a2)) + x10_1),0,false⟩ : S38) [.int .i64 (wrap64 ((wrap64 (a2)) + x10_1)),.int .i64 0,.bool false] (fun _ => True) (fun _ => False) rfl rfl ?aP (fun _ hk => hk.elim) ?aF ?aO ?aB ?aS ?aL ?_;(case aP => exact k38_mkM _ _ _ (⟨wrap64 ((wrap64 (a2)) + x10_1),0,false⟩ : S38));(case aB => exact (by repeat (first | (with_reducible first | exact HB.out | apply below_alloc | apply pw_below_drewN | apply below_drew1 | refine below_set ?_ GE192.out) | exact HB.out)));(case aF => exact (fun _ _ => trivial));(case aO => exact (by (with_reducible repeat (first | apply Kd.R_alloc | apply Kd.R_drewN | apply Kd.R_drew));exact HO_8.out));(case aS => exact (below_size (by repeat (first | (with_reducible first | exact HB.out | apply below_alloc | apply pw_below_drewN | apply below_drew1 | refine below_set ?_ GE192.out) | exact HB.out))));(case aL => have :=LMc20.out;omega);intro v195 w26 ho hb hg hat;rw [← Ny194.out] at ho;have n0_ :=Aside0.mk (Kd.R_over' (by (with_reducible repeat (first | apply Kd.R_alloc | apply Kd.R_drewN | apply Kd.R_drew));exact HO_9.out) (Kd.R_typed (by (with_reducible repeat (first | apply Kd.R_alloc | apply Kd.R_drewN | apply Kd.R_drew));exact HO_8.out)) (by decide) hg);have n1_ :=Aside0.mk (Kd.R_over' (by (with_reducible repeat (first | apply Kd.R_alloc | apply Kd.R_drewN | apply Kd.R_drew));exact HO_193001.out) (Kd.R_typed (by (with_reducible repeat (first | apply Kd.R_alloc | apply Kd.R_drewN | apply Kd.R_drew));exact HO_8.out)) (by decide) hg);have n2_ :=Aside0.mk (blk_grown (g :=gb192) (o :=.cells #[.string t187,.slice (some ⟨go19,0,none⟩) x193001_1.length co23] 28 (0,0)) (by (with_reducible repeat (first | refine blk_drewN ?_ _ | refine blk_drew ?_ | refine blk_alloc ?_ _));exact BK192.out) hg (Kd.R_ne HO_8.out BK192.out (by decide)));have n3_ :=Aside0.mk (hb);have n4_ :=Aside0.mk (ho);clear HO_9;clear HO_193001;clear BK192;clear HB;clear HO_8;have HO_9 :=n0_;have HO_193001 :=n1_;have BK192 :=n2_;have HB :=n3_;have HO196 :=n4_;clear n0_ n1_ n2_ n3_ n4_;clear ho hb hg hat) | ((with_reducible refine gate_builtin (b :=.append) (xs :=#[.tmp 45,.tmp 46]) rfl ?_);(try (refine gate_guard (by rfl) ?_;dsimp only));at_builtin;refine Kd.R_append Kd.bool (w0 :=w) w.heap.size rfl (.tmp 45) (.tmp 46) 33 4 (.bool false) 1 rfl Try.underlying33 info4 rfl (by decide) (by omega) u9 x9_1 true [.bool true] (fun _ => True) (fun _ => False) rfl rfl ?aP (fun _ hk => hk.elim) ?aF ?aO ?aB ?aS ?aL ?_;(case aP => exact rfl);(case aB => exact (by repeat (first | (with_reducible first | exact HB.out | apply below_alloc | apply pw_below_drewN | apply below_drew1 | refine below_set ?_ GE192.out) | exact HB.out)));(case aF => exact (fun _ _ => trivial));(case aO => exact (by (with_reducible repeat (first | apply Kd.R_alloc | apply Kd.R_drewN | apply Kd.R_drew));exact HO_9.out));(case aS => exact (below_size (by repeat (first | (with_reducible first | exact HB.out | apply below_alloc | apply pw_below_drewN | apply below_drew1 | refine below_set ?_ GE192.out) | exact HB.out))));(case aL => have :=LMc21.out;omega);intro v198 w27 ho hb hg hat;rw [← Ny197.out] at ho;have n0_ :=Aside0.mk (Kd.R_over' (by (with_reducible repeat (first | apply Kd.R_alloc | apply Kd.R_drewN | apply Kd.R_drew));exact HO_193001.out) (Kd.R_typed (by (with_reducible repeat (first | apply Kd.R_alloc | apply Kd.R_drewN | apply Kd.R_drew));exact HO_9.out)) (by decide) hg);have n1_ :=Aside0.mk (blk_grown (g :=gb192) (o :=.cells #[.string t187,.slice (some ⟨go19,0,none⟩) x193001_1.length co23] 28 (0,0)) (by (with_reducible repeat (first | refine blk_drewN ?_ _ | refine blk_drew ?_ | refine blk_alloc ?_ _));exact BK192.out) hg (Kd.R_ne HO_9.out BK192.out (by decide)));have n2_ :=Aside0.mk (Kd.R_over' (by (with_reducible repeat (first | apply Kd.R_alloc | apply Kd.R_drewN | apply Kd.R_drew));exact HO196.out) (Kd.R_typed (by (with_reducible repeat (first | apply Kd.R_alloc | apply Kd.R_drewN | apply Kd.R_drew));exact HO_9.out)) (by decide) hg);have n3_ :=Aside0.mk (hb);have n4_ :=Aside0.mk (ho);clear HO_193001;clear BK192;clear HO196;clear HB;clear HO_9;have HO_193001 :=n0_;have BK192 :=n1_;have HO196 :=n2_;have HB :=n3_;have HO199 :=n4_;clear n0_ n1_ n2_ n3_ n4_;clear ho hb hg hat))
         repeat (go_quiet (first | ((with_reducible refine gate_store (t :=2) (p :=36) rfl ?_);(try (rw [drewN_self wr];generalize hq_ : World.drewN wr _ = wr;have n0_ :=Aside0.mk (Kd.R_at hq_ HO_8.out);have n1_ :=Aside0.mk (Kd.R_at hq_ HO_9.out);have n2_ :=Aside0.mk (Kd.R_at hq_ HO_193001.out);have n3_ :=Aside0.mk (blk_at hq_ BK192.out);have n4_ :=Aside0.mk (below_at hq_ HB.out);clear hq_ HO_8 HO_9 HO_193001 BK192 HB;have HO_8 :=n0_;have HO_9 :=n1_;have HO_193001 :=n2_;have BK192 :=n3_;have HB :=n4_;clear n0_ n1_ n2_ n3_ n4_;(try (have HX24 :=Aside0.mk (show Kd.R k36 36 wr w.heap.size (fun _ => True) (.slice (some ⟨go19,0,none⟩) x193001_1.length co23) x193001_1 from (by (with_reducible repeat (first | apply Kd.R_alloc | apply Kd.R_drewN | apply Kd.R_drew));exact HO_193001.out))));(try (obtain ⟨ce24,hcl24,hM24,hcc24,hfr24⟩ :=Kd.R_elem HX24.out z36 (x10_1 : Int) (of_decide_eq_true (by first | (with_reducible assumption) | assumption)) (by have h_ : (x10_1 : Int) < ((x193001_1.length : Int) : Int) :=of_decide_eq_true (by first | (with_reducible assumption) | assumption);first | exact h_ | (have e_ :=(Kd.R_reads' HO_193001.out).1;omega) | simpa using h_)));(try (obtain ⟨ve24_2,rfl,ge24_2⟩ :=k36_openM hM24));(try (have HP24 :=Kd.R_seg HX24.out (x10_1 : Int) (of_decide_eq_true (by first | (with_reducible assumption) | assumption)) (by have h_ : (x10_1 : Int) < ((x193001_1.length : Int) : Int) :=of_decide_eq_true (by first | (with_reducible assumption) | assumption);first | exact h_ | (have e_ :=(Kd.R_reads' HO_193001.out).1;omega) | simpa using h_) (seg :=[.int .i64 (-1)]) (j :=1) hcl24 hcc24 (show 2 ≤ 3 from by decide) (x' :=(⟨(rd_T36 x193001_1 x10_1).f0,(-1),(rd_T36 x193001_1 x10_1).f2⟩ : S36)) (k36_mkM _ _ _ (⟨(rd_T36 x193001_1 x10_1).f0,(-1),(rd_T36 x193001_1 x10_1).f2⟩ : S36) ge24_2) (fun _ hk => hk)));(try (have hx24_1 :=hcc24 1 _ rfl));(try (try simp only [show (k36).sz = 3 from rfl,Nat.mul_one,Nat.add_zero] at hx24_1));(try (have hf24_1 :=hfr24 1));(try (try simp only [show (k36).sz = 3 from rfl,Nat.mul_one,Nat.add_zero] at hf24_1));(try (clear hcl24 hcc24 hfr24 hM24))));refine store_event (t :=2) (p :=36) (v :=?vo_w25) (w1 :=(wr.setCell ⟨go19,(x10_1 : Int).toNat * 3 + 1,none⟩ (.int .i64 (-1)))) ?hg ?ho ?hn ?hr ?_;(case ho => rfl);(case hg => rfl);(case hn => rfl);(case hr => first | (go_simp;done) | (go_simp;rfl));intro w25 hw;have hg : wr.grownBy w25 (some go19) :=(by rw [hw];exact HP24.2);have hp_ : Kd.R k36 36 w25 w.heap.size (fun _ => True) (.slice (some ⟨go19,0,none⟩) x193001_1.length co23) y193 :=(by rw [hw,Ny193.out];exact HP24.1);clear HP24;have n0_ :=Aside0.mk (Kd.R_over' (v :=(.slice (some ⟨go19,0,none⟩) x193001_1.length co23)) (by (with_reducible repeat (first | apply Kd.R_alloc | apply Kd.R_drewN | apply Kd.R_drew));exact HO_8.out) (Kd.R_typed HO_193001.out) (by decide) hg);have n1_ :=Aside0.mk (Kd.R_over' (v :=(.slice (some ⟨go19,0,none⟩) x193001_1.length co23)) (by (with_reducible repeat (first | apply Kd.R_alloc | apply Kd.R_drewN | apply Kd.R_drew));exact HO_9.out) (Kd.R_typed HO_193001.out) (by decide) hg);have n2_ :=Aside0.mk (hp_);have n3_ :=Aside0.mk (blk_grown (g :=gb192) (o :=.cells #[.string t187,.slice (some ⟨go19,0,none⟩) x193001_1.length co23] 28 (0,0)) (by (with_reducible repeat (first | refine blk_drewN ?_ _ | refine blk_drew ?_ | refine blk_alloc ?_ _));exact BK192.out) hg (Kd.R_ne HO_193001.out BK192.out (by decide)));have n4_ :=Aside0.mk ((by rw [hw];exact below_set (HB.out) GB19.out : Below w.heap.size w w25));clear HO_8;clear HO_9;clear HO_193001;clear BK192;clear HB;have HO_8 :=n0_;have HO_9 :=n1_;have HO_193001 :=n2_;have BK192 :=n3_;have HB :=n4_;clear n0_ n1_ n2_ n3_ n4_;clear hg hw hp_) | ((with_reducible refine gate_builtin (b :=.append) (xs :=#[.tmp 37,.tmp 43]) rfl ?_);(try (refine gate_guard (by rfl) ?_;dsimp only));at_builtin;refine Kd.R_append k38 (w0 :=w) w.heap.size rfl (.tmp 37) (.tmp 43) 32 38 (.agg #[(.int .i64 0),(.int .i64 0),(.bool false)]) 24 rfl Try.underlying32 info38 rfl (by decide) (by omega) u8 x8_1 (⟨wrap64 ((wrap64 (a2)) + x10_1),0,false⟩ : S38) [.int .i64 (wrap64 ((wrap64 (a2)) + x10_1)),.int .i64 0,.bool false] (fun _ => True) (fun _ => False) rfl rfl ?aP (fun _ hk => hk.elim) ?aF ?aO ?aB ?aS ?aL ?_;(case aP => exact k38_mkM _ _ _ (⟨wrap64 ((wrap64 (a2)) + x10_1),0,false⟩ : S38));(case aB => exact (by repeat (first | (with_reducible first | exact HB.out | apply below_alloc | apply pw_below_drewN | apply below_drew1 | refine below_set ?_ GE192.out) | exact HB.out)));(case aF => exact (fun _ _ => trivial));(case aO => exact (by (with_reducible repeat (first | apply Kd.R_alloc | apply Kd.R_drewN | apply Kd.R_drew));exact HO_8.out));(case aS => exact (below_size (by repeat (first | (with_reducible first | exact HB.out | apply below_alloc | apply pw_below_drewN | apply below_drew1 | refine below_set ?_ GE192.out) | exact HB.out))));(case aL => have :=LMc20.out;omega);intro v195 w26 ho hb hg hat;rw [← Ny194.out] at ho;have n0_ :=Aside0.mk (Kd.R_over' (by (with_reducible repeat (first | apply Kd.R_alloc | apply Kd.R_drewN | apply Kd.R_drew));exact HO_9.out) (Kd.R_typed (by (with_reducible repeat (first | apply Kd.R_alloc | apply Kd.R_drewN | apply Kd.R_drew));exact HO_8.out)) (by decide) hg);have n1_ :=Aside0.mk (Kd.R_over' (by (with_reducible repeat (first | apply Kd.R_alloc | apply Kd.R_drewN | apply Kd.R_drew));exact HO_193001.out) (Kd.R_typed (by (with_reducible repeat (first | apply Kd.R_alloc | apply Kd.R_drewN | apply Kd.R_drew));exact HO_8.out)) (by decide) hg);have n2_ :=Aside0.mk (blk_grown (g :=gb192) (o :=.cells #[.string t187,.slice (some ⟨go19,0,none⟩) x193001_1.length co23] 28 (0,0)) (by (with_reducible repeat (first | refine blk_drewN ?_ _ | refine blk_drew ?_ | refine blk_alloc ?_ _));exact BK192.out) hg (Kd.R_ne HO_8.out BK192.out (by decide)));have n3_ :=Aside0.mk (hb);have n4_ :=Aside0.mk (ho);clear HO_9;clear HO_193001;clear BK192;clear HB;clear HO_8;have HO_9 :=n0_;have HO_193001 :=n1_;have BK192 :=n2_;have HB :=n3_;have HO196 :=n4_;clear n0_ n1_ n2_ n3_ n4_;clear ho hb hg hat) | ((with_reducible refine gate_builtin (b :=.append) (xs :=#[.tmp 45,.tmp 46]) rfl ?_);(try (refine gate_guard (by rfl) ?_;dsimp only));at_builtin;refine Kd.R_append Kd.bool (w0 :=w) w.heap.size rfl (.tmp 45) (.tmp 46) 33 4 (.bool false) 1 rfl Try.underlying33 info4 rfl (by decide) (by omega) u9 x9_1 true [.bool true] (fun _ => True) (fun _ => False) rfl rfl ?aP (fun _ hk => hk.elim) ?aF ?aO ?aB ?aS ?aL ?_;(case aP => exact rfl);(case aB => exact (by repeat (first | (with_reducible first | exact HB.out | apply below_alloc | apply pw_below_drewN | apply below_drew1 | refine below_set ?_ GE192.out) | exact HB.out)));(case aF => exact (fun _ _ => trivial));(case aO => exact (by (with_reducible repeat (first | apply Kd.R_alloc | apply Kd.R_drewN | apply Kd.R_drew));exact HO_9.out));(case aS => exact (below_size (by repeat (first | (with_reducible first | exact HB.out | apply below_alloc | apply pw_below_drewN | apply below_drew1 | refine below_set ?_ GE192.out) | exact HB.out))));(case aL => have :=LMc21.out;omega);intro v198 w27 ho hb hg hat;rw [← Ny197.out] at ho;have n0_ :=Aside0.mk (Kd.R_over' (by (with_reducible repeat (first | apply Kd.R_alloc | apply Kd.R_drewN | apply Kd.R_drew));exact HO_193001.out) (Kd.R_typed (by (with_reducible repeat (first | apply Kd.R_alloc | apply Kd.R_drewN | apply Kd.R_drew));exact HO_9.out)) (by decide) hg);have n1_ :=Aside0.mk (blk_grown (g :=gb192) (o :=.cells #[.string t187,.slice (some ⟨go19,0,none⟩) x193001_1.length co23] 28 (0,0)) (by (with_reducible repeat (first | refine blk_drewN ?_ _ | refine blk_drew ?_ | refine blk_alloc ?_ _));exact BK192.out) hg (Kd.R_ne HO_9.out BK192.out (by decide)));have n2_ :=Aside0.mk (Kd.R_over' (by (with_reducible repeat (first | apply Kd.R_alloc | apply Kd.R_drewN | apply Kd.R_drew));exact HO196.out) (Kd.R_typed (by (with_reducible repeat (first | apply Kd.R_alloc | apply Kd.R_drewN | apply Kd.R_drew));exact HO_9.out)) (by decide) hg);have n3_ :=Aside0.mk (hb);have n4_ :=Aside0.mk (ho);clear HO_193001;clear BK192;clear HO196;clear HB;clear HO_9;have HO_193001 :=n0_;have BK192 :=n1_;have HO196 :=n2_;have HB :=n3_;have HO199 :=n4_;clear n0_ n1_ n2_ n3_ n4_;clear ho hb hg hat));try go_wp2_with (first | ((with_reducible refine gate_store (t :=2) (p :=36) rfl ?_);(try (rw [drewN_self wr];generalize hq_ : World.drewN wr _ = wr;have n0_ :=Aside0.mk (Kd.R_at hq_ HO_8.out);have n1_ :=Aside0.mk (Kd.R_at hq_ HO_9.out);have n2_ :=Aside0.mk (Kd.R_at hq_ HO_193001.out);have n3_ :=Aside0.mk (blk_at hq_ BK192.out);have n4_ :=Aside0.mk (below_at hq_ HB.out);clear hq_ HO_8 HO_9 HO_193001 BK192 HB;have HO_8 :=n0_;have HO_9 :=n1_;have HO_193001 :=n2_;have BK192 :=n3_;have HB :=n4_;clear n0_ n1_ n2_ n3_ n4_;(try (have HX24 :=Aside0.mk (show Kd.R k36 36 wr w.heap.size (fun _ => True) (.slice (some ⟨go19,0,none⟩) x193001_1.length co23) x193001_1 from (by (with_reducible repeat (first | apply Kd.R_alloc | apply Kd.R_drewN | apply Kd.R_drew));exact HO_193001.out))));(try (obtain ⟨ce24,hcl24,hM24,hcc24,hfr24⟩ :=Kd.R_elem HX24.out z36 (x10_1 : Int) (of_decide_eq_true (by first | (with_reducible assumption) | assumption)) (by have h_ : (x10_1 : Int) < ((x193001_1.length : Int) : Int) :=of_decide_eq_true (by first | (with_reducible assumption) | assumption);first | exact h_ | (have e_ :=(Kd.R_reads' HO_193001.out).1;omega) | simpa using h_)));(try (obtain ⟨ve24_2,rfl,ge24_2⟩ :=k36_openM hM24));(try (have HP24 :=Kd.R_seg HX24.out (x10_1 : Int) (of_decide_eq_true (by first | (with_reducible assumption) | assumption)) (by have h_ : (x10_1 : Int) < ((x193001_1.length : Int) : Int) :=of_decide_eq_true (by first | (with_reducible assumption) | assumption);first | exact h_ | (have e_ :=(Kd.R_reads' HO_193001.out).1;omega) | simpa using h_) (seg :=[.int .i64 (-1)]) (j :=1) hcl24 hcc24 (show 2 ≤ 3 from by decide) (x' :=(⟨(rd_T36 x193001_1 x10_1).f0,(-1),(rd_T36 x193001_1 x10_1).f2⟩ : S36)) (k36_mkM _ _ _ (⟨(rd_T36 x193001_1 x10_1).f0,(-1),(rd_T36 x193001_1 x10_1).f2⟩ : S36) ge24_2) (fun _ hk => hk)));(try (have hx24_1 :=hcc24 1 _ rfl));(try (try simp only [show (k36).sz = 3 from rfl,Nat.mul_one,Nat.add_zero] at hx24_1));(try (have hf24_1 :=hfr24 1));(try (try simp only [show (k36).sz = 3 from rfl,Nat.mul_one,Nat.add_zero] at hf24_1));(try (clear hcl24 hcc24 hfr24 hM24))));refine store_event (t :=2) (p :=36) (v :=?vo_w25) (w1 :=(wr.setCell ⟨go19,(x10_1 : Int).toNat * 3 + 1,none⟩ (.int .i64 (-1)))) ?hg ?ho ?hn ?hr ?_;(case ho => rfl);(case hg => rfl);(case hn => rfl);(case hr => first | (go_simp;done) | (go_simp;rfl));intro w25 hw;have hg : wr.grownBy w25 (some go19) :=(by rw [hw];exact HP24.2);have hp_ : Kd.R k36 36 w25 w.heap.size (fun _ => True) (.slice (some ⟨go19,0,none⟩) x193001_1.length co23) y193 :=(by rw [hw,Ny193.out];exact HP24.1);clear HP24;have n0_ :=Aside0.mk (Kd.R_over' (v :=(.slice (some ⟨go19,0,none⟩) x193001_1.length co23)) (by (with_reducible repeat (first | apply Kd.R_alloc | apply Kd.R_drewN | apply Kd.R_drew));exact HO_8.out) (Kd.R_typed HO_193001.out) (by decide) hg);have n1_ :=Aside0.mk (Kd.R_over' (v :=(.slice (some ⟨go19,0,none⟩) x193001_1.length co23)) (by (with_reducible repeat (first | apply Kd.R_alloc | apply Kd.R_drewN | apply Kd.R_drew));exact HO_9.out) (Kd.R_typed HO_193001.out) (by decide) hg);have n2_ :=Aside0.mk (hp_);have n3_ :=Aside0.mk (blk_grown (g :=gb192) (o :=.cells #[.string t187,.slice (some ⟨go19,0,none⟩) x193001_1.length co23] 28 (0,0)) (by (with_reducible repeat (first | refine blk_drewN ?_ _ | refine blk_drew ?_ | refine blk_alloc ?_ _));exact BK192.out) hg (Kd.R_ne HO_193001.out BK192.out (by decide)));have n4_ :=Aside0.mk ((by rw [hw];exact below_set (HB.out) GB19.out : Below w.heap.size w w25));clear HO_8;clear HO_9;clear HO_193001;clear BK192;clear HB;have HO_8 :=n0_;have HO_9 :=n1_;have HO_193001 :=n2_;have BK192 :=n3_;have HB :=n4_;clear n0_ n1_ n2_ n3_ n4_;clear hg hw hp_) | ((with_reducible refine gate_builtin (b :=.append) (xs :=#[.tmp 37,.tmp 43]) rfl ?_);(try (refine gate_guard (by rfl) ?_;dsimp only));at_builtin;refine Kd.R_append k38 (w0 :=w) w.heap.size rfl (.tmp 37) (.tmp 43) 32 38 (.agg #[(.int .i64 0),(.int .i64 0),(.bool false)]) 24 rfl Try.underlying32 info38 rfl (by decide) (by omega) u8 x8_1 (⟨wrap64 ((wrap64 (a2)) + x10_1),0,false⟩ : S38) [.int .i64 (wrap64 ((wrap64 (a2)) + x10_1)),.int .i64 0,.bool false] (fun _ => True) (fun _ => False) rfl rfl ?aP (fun _ hk => hk.elim) ?aF ?aO ?aB ?aS ?aL ?_;(case aP => exact k38_mkM _ _ _ (⟨wrap64 ((wrap64 (a2)) + x10_1),0,false⟩ : S38));(case aB => exact (by repeat (first | (with_reducible first | exact HB.out | apply below_alloc | apply pw_below_drewN | apply below_drew1 | refine below_set ?_ GE192.out) | exact HB.out)));(case aF => exact (fun _ _ => trivial));(case aO => exact (by (with_reducible repeat (first | apply Kd.R_alloc | apply Kd.R_drewN | apply Kd.R_drew));exact HO_8.out));(case aS => exact (below_size (by repeat (first | (with_reducible first | exact HB.out | apply below_alloc | apply pw_below_drewN | apply below_drew1 | refine below_set ?_ GE192.out) | exact HB.out))));(case aL => have :=LMc20.out;omega);intro v195 w26 ho hb hg hat;rw [← Ny194.out] at ho;have n0_ :=Aside0.mk (Kd.R_over' (by (with_reducible repeat (first | apply Kd.R_alloc | apply Kd.R_drewN | apply Kd.R_drew));exact HO_9.out) (Kd.R_typed (by (with_reducible repeat (first | apply Kd.R_alloc | apply Kd.R_drewN | apply Kd.R_drew));exact HO_8.out)) (by decide) hg);have n1_ :=Aside0.mk (Kd.R_over' (by (with_reducible repeat (first | apply Kd.R_alloc | apply Kd.R_drewN | apply Kd.R_drew));exact HO_193001.out) (Kd.R_typed (by (with_reducible repeat (first | apply Kd.R_alloc | apply Kd.R_drewN | apply Kd.R_drew));exact HO_8.out)) (by decide) hg);have n2_ :=Aside0.mk (blk_grown (g :=gb192) (o :=.cells #[.string t187,.slice (some ⟨go19,0,none⟩) x193001_1.length co23] 28 (0,0)) (by (with_reducible repeat (first | refine blk_drewN ?_ _ | refine blk_drew ?_ | refine blk_alloc ?_ _));exact BK192.out) hg (Kd.R_ne HO_8.out BK192.out (by decide)));have n3_ :=Aside0.mk (hb);have n4_ :=Aside0.mk (ho);clear HO_9;clear HO_193001;clear BK192;clear HB;clear HO_8;have HO_9 :=n0_;have HO_193001 :=n1_;have BK192 :=n2_;have HB :=n3_;have HO196 :=n4_;clear n0_ n1_ n2_ n3_ n4_;clear ho hb hg hat) | ((with_reducible refine gate_builtin (b :=.append) (xs :=#[.tmp 45,.tmp 46]) rfl ?_);(try (refine gate_guard (by rfl) ?_;dsimp only));at_builtin;refine Kd.R_append Kd.bool (w0 :=w) w.heap.size rfl (.tmp 45) (.tmp 46) 33 4 (.bool false) 1 rfl Try.underlying33 info4 rfl (by decide) (by omega) u9 x9_1 true [.bool true] (fun _ => True) (fun _ => False) rfl rfl ?aP (fun _ hk => hk.elim) ?aF ?aO ?aB ?aS ?aL ?_;(case aP => exact rfl);(case aB => exact (by repeat (first | (with_reducible first | exact HB.out | apply below_alloc | apply pw_below_drewN | apply below_drew1 | refine below_set ?_ GE192.out) | exact HB.out)));(case aF => exact (fun _ _ => trivial));(case aO => exact (by (with_reducible repeat (first | apply Kd.R_alloc | apply Kd.R_drewN | apply Kd.R_drew));exact HO_9.out));(case aS => exact (below_size (by repeat (first | (with_reducible first | exact HB.out | apply below_alloc | apply pw_below_drewN | apply below_drew1 | refine below_set ?_ GE192.out) | exact HB.out))));(case aL => have :=LMc21.out;omega);intro v198 w27 ho hb hg hat;rw [← Ny197.out] at ho;have n0_ :=Aside0.mk (Kd.R_over' (by (with_reducible repeat (first | apply Kd.R_alloc | apply Kd.R_drewN | apply Kd.R_drew));exact HO_193001.out) (Kd.R_typed (by (with_reducible repeat (first | apply Kd.R_alloc | apply Kd.R_drewN | apply Kd.R_drew));exact HO_9.out)) (by decide) hg);have n1_ :=Aside0.mk (blk_grown (g :=gb192) (o :=.cells #[.string t187,.slice (some ⟨go19,0,none⟩) x193001_1.length co23] 28 (0,0)) (by (with_reducible repeat (first | refine blk_drewN ?_ _ | refine blk_drew ?_ | refine blk_alloc ?_ _));exact BK192.out) hg (Kd.R_ne HO_9.out BK192.out (by decide)));have n2_ :=Aside0.mk (Kd.R_over' (by (with_reducible repeat (first | apply Kd.R_alloc | apply Kd.R_drewN | apply Kd.R_drew));exact HO196.out) (Kd.R_typed (by (with_reducible repeat (first | apply Kd.R_alloc | apply Kd.R_drewN | apply Kd.R_drew));exact HO_9.out)) (by decide) hg);have n3_ :=Aside0.mk (hb);have n4_ :=Aside0.mk (ho);clear HO_193001;clear BK192;clear HO196;clear HB;clear HO_9;have HO_193001 :=n0_;have BK192 :=n1_;have HO196 :=n2_;have HB :=n3_;have HO199 :=n4_;clear n0_ n1_ n2_ n3_ n4_;clear ho hb hg hat)))
         go_roundg k1
         case measure => have :=HK1.out;omega
         case rel => exact ⟨(y194),(y197),(wrap64 (x10_1 + 1)),(y193),(.slice (some ⟨go19,0,none⟩) x193001_1.length co23),(by first | rfl | (simp;done) | (simp [*];done)),H',⟨by have :=HK1.out;omega⟩,⟨by (with_reducible repeat (first | apply Kd.R_alloc | apply Kd.R_drewN | apply Kd.R_drew));exact HO196.out⟩,⟨by (with_reducible repeat (first | apply Kd.R_alloc | apply Kd.R_drewN | apply Kd.R_drew));exact HO199.out⟩,⟨by (with_reducible repeat (first | apply Kd.R_alloc | apply Kd.R_drewN | apply Kd.R_drew));exact HO_193001.out⟩,⟨by (with_reducible repeat (first | refine blk_drewN ?_ _ | refine blk_drew ?_ | refine blk_alloc ?_ _));exact BK192.out⟩,⟨by repeat (first | (with_reducible first | exact HB.out | apply below_alloc | apply pw_below_drewN | apply below_drew1 | refine below_set ?_ GE192.out) | exact HB.out)⟩⟩
        ·rw [if_neg c21] at H
         exact absurd H (by simp)
       ·rw [if_neg c20] at H
        exact absurd H (by simp)
      ·rw [if_neg c18] at H
       exact absurd H (by simp)
     ·rw [if_neg c17] at H
      have c17b0 : decide (x10_1 < (x193001_1.length : Int)) = false :=decide_eq_false c17
      clear c17
      replace H :=Option.bind_eq_some_iff.mp H
      obtain ⟨⟨t200,t203,t204,t205,t206⟩,A280,H⟩ :=H
      replace H : ((plan_MayCommit.f t187 x193001_1).bind fun t208 => (if t208 = true then (pandectlaw17_PlanRises.l1 k1 a1 a2 t200 t206 0 0 t187 x193001_1 t203 t204 t205) else (if t206 = 1 then (some ((t200.length : Int) == 0)) else (none)))) = some r :=H
      have A28 :=Aside0.mk A280
      clear A280
      replace H :=Option.bind_eq_some_iff.mp H
      obtain ⟨t208,A290,H⟩ :=H
      replace H : (if t208 = true then (pandectlaw17_PlanRises.l1 k1 a1 a2 t200 t206 0 0 t187 x193001_1 t203 t204 t205) else (if t206 = 1 then (some ((t200.length : Int) == 0)) else (none))) = some r :=H
      have A29 :=Aside0.mk A290
      clear A290
      by_cases c30 : t208 = true
      ·subst c30
       have H1 : (pandectlaw17_PlanRises.l1 k1 a1 a2 t200 t206 0 0 t187 x193001_1 t203 t204 t205) = some r :=by rw [if_pos rfl] at H;exact H
       clear H
       have H :=H1
       clear H1
       have H' :=Aside0.mk H
       clear H
       have hcz31_0 : wr.cell? ⟨gb192,0,none⟩ = some (.string t187) :=(blk_cell BK192.out 0).trans rfl
       have hcz31_1 : wr.cell? ⟨gb192,1,none⟩ = some (u193001) :=(blk_cell BK192.out 1).trans rfl
       have hfz31_0 :=blk_frozen BK192.out 0
       have hfz31_1 :=blk_frozen BK192.out 1
       obtain ⟨Ao32,co32,eo32⟩ :=Kd.R_slice HO_193001.out
       subst eo32
       obtain ⟨Ao33,co33,eo33⟩ :=Kd.R_slice HO_8.out
       subst eo33
       obtain ⟨Ao34,co34,eo34⟩ :=Kd.R_slice HO_9.out
       subst eo34
       go_wp2_with (first | (go_at_call 7;(with_reducible refine (plan_Events.calls k1 t187 _ _ x193001_1 _ _ x8_1 _ _ x9_1 (wrap64 (a1)) t200 t203 t204 t205 t206 _ ?side1 ?side2 ?side3 ?side4 ?side5 ?side6 A28.out).mono ?_);(case side1 => repeat (first | exact (Kd.R_reads' HO_193001.out).2.2 | (with_reducible refine Kd.C_alloc ?_ _) | (with_reducible refine Kd.C_drewN ?_ _) | (with_reducible refine Kd.C_drew ?_)));(case side2 => exact (Kd.R_reads' HO_193001.out).2.1);(case side3 => repeat (first | exact (Kd.R_reads' HO_8.out).2.2 | (with_reducible refine Kd.C_alloc ?_ _) | (with_reducible refine Kd.C_drewN ?_ _) | (with_reducible refine Kd.C_drew ?_)));(case side4 => exact (Kd.R_reads' HO_8.out).2.1);(case side5 => repeat (first | exact (Kd.R_reads' HO_9.out).2.2 | (with_reducible refine Kd.C_alloc ?_ _) | (with_reducible refine Kd.C_drewN ?_ _) | (with_reducible refine Kd.C_drew ?_)));(case side6 => exact (Kd.R_reads' HO_9.out).2.1);rintro e w35 ⟨v201,rfl,ho0,hb⟩;have n0_ :=Aside0.mk (Kd.R_below (by (with_reducible repeat (first | apply Kd.R_alloc | apply Kd.R_drewN | apply Kd.R_drew));exact HO_8.out) hb);have n1_ :=Aside0.mk (Kd.R_below (by (with_reducible repeat (first | apply Kd.R_alloc | apply Kd.R_drewN | apply Kd.R_drew));exact HO_9.out) hb);have n2_ :=Aside0.mk (Kd.R_below (by (with_reducible repeat (first | apply Kd.R_alloc | apply Kd.R_drewN | apply Kd.R_drew));exact HO_193001.out) hb);have n3_ :=Aside0.mk (Kd.S_lower ho0 (below_size (by repeat (first | (with_reducible first | exact HB.out | apply below_alloc | apply pw_below_drewN | apply below_drew1 | refine below_set ?_ GE192.out) | exact HB.out))));have n4_ :=Aside0.mk (blk_below (g :=gb192) (o :=.cells #[.string t187,.slice Ao32 x193001_1.length co32] 28 (0,0)) (by (with_reducible repeat (first | refine blk_drewN ?_ _ | refine blk_drew ?_ | refine blk_alloc ?_ _));exact BK192.out) hb);have n5_ :=Aside0.mk (below_step (by repeat (first | (with_reducible first | exact HB.out | apply below_alloc | apply pw_below_drewN | apply below_drew1 | refine below_set ?_ GE192.out) | exact HB.out)) hb);clear HO_8;clear HO_9;clear HO_193001;clear BK192;clear HB;have HO_8 :=n0_;have HO_9 :=n1_;have HO_193001 :=n2_;have HO202 :=n3_;have BK192 :=n4_;have HB :=n5_;clear n0_ n1_ n2_ n3_ n4_ n5_;(try clear hb);(try clear hb2);(try clear hk);(try clear hi);(try clear ho0)) | ((with_reducible refine gate_dst (N :=12) rfl ?_);(try (refine gate_guard (by rfl) ?_;dsimp only));refine box_event ?hg (N :=12) ?hd (cs :=#[.int .i64 0,.int .i64 0,.bool false]) (t :=41) ?hr ?_;(case hd => rfl);(case hg => rfl);(case hr => first | (go_simp;done) | (go_simp;rfl));intro gb207 hg w36 hbox hb;have n0_ :=Aside0.mk (Kd.R_below (by (with_reducible repeat (first | apply Kd.R_alloc | apply Kd.R_drewN | apply Kd.R_drew));exact HO_8.out) hb);have n1_ :=Aside0.mk (Kd.R_below (by (with_reducible repeat (first | apply Kd.R_alloc | apply Kd.R_drewN | apply Kd.R_drew));exact HO_9.out) hb);have n2_ :=Aside0.mk (Kd.R_below (by (with_reducible repeat (first | apply Kd.R_alloc | apply Kd.R_drewN | apply Kd.R_drew));exact HO_193001.out) hb);have n3_ :=Aside0.mk (Kd.S_below (by (with_reducible repeat (first | apply Kd.S_alloc | apply Kd.S_drewN | apply Kd.S_drew));exact HO202.out) hb);have n4_ :=Aside0.mk (blk_below (g :=gb192) (o :=.cells #[.string t187,.slice Ao32 x193001_1.length co32] 28 (0,0)) (by (with_reducible repeat (first | refine blk_drewN ?_ _ | refine blk_drew ?_ | refine blk_alloc ?_ _));exact BK192.out) hb);have n5_ :=Aside0.mk (below_step (by repeat (first | (with_reducible first | exact HB.out | apply below_alloc | apply pw_below_drewN | apply below_drew1 | refine below_set ?_ GE192.out) | exact HB.out)) hb);have n6_ :=Aside0.mk (hbox);have n7_ :=Aside0.mk ((by rw [hg];exact (below_size (by repeat (first | (with_reducible first | exact HB.out | apply below_alloc | apply pw_below_drewN | apply below_drew1 | refine below_set ?_ GE192.out) | exact HB.out))) : w.heap.size ≤ gb207));have n8_ :=Aside0.mk ((by rw [hg];exact (below_size (by repeat (first | (with_reducible first | exact HB.out | apply below_alloc | apply pw_below_drewN | apply below_drew1 | refine below_set ?_ GE192.out) | exact HB.out))) : w.heap.size ≤ gb207));have n9_ :=Aside0.mk ((by rw [hg];exact Nat.ne_of_lt (blk_lt (g :=gb192) (o :=.cells #[.string t187,.slice Ao32 x193001_1.length co32] 28 (0,0)) (by (with_reducible repeat (first | refine blk_drewN ?_ _ | refine blk_drew ?_ | refine blk_alloc ?_ _));exact BK192.out)) : gb192 ≠ gb207));have n10_ :=Aside0.mk ((by rw [hg];exact Nat.ne_of_gt (blk_lt (g :=gb192) (o :=.cells #[.string t187,.slice Ao32 x193001_1.length co32] 28 (0,0)) (by (with_reducible repeat (first | refine blk_drewN ?_ _ | refine blk_drew ?_ | refine blk_alloc ?_ _));exact BK192.out)) : gb207 ≠ gb192));clear HO_8;clear HO_9;clear HO_193001;clear HO202;clear BK192;clear HB;have HO_8 :=n0_;have HO_9 :=n1_;have HO_193001 :=n2_;have HO202 :=n3_;have BK192 :=n4_;have HB :=n5_;have BK207 :=n6_;have GW207 :=n7_;have GE207 :=n8_;have NB192_207 :=n9_;have NB207_192 :=n10_;clear n0_ n1_ n2_ n3_ n4_ n5_ n6_ n7_ n8_ n9_ n10_;clear hb hbox hg;have hnb37 :=NB207_192.out;have hnc37 :=NB192_207.out;have hcz38_0 : w36.cell? ⟨gb207,0,none⟩ = some (.int .i64 0) :=(blk_cell BK207.out 0).trans rfl;have hcz38_1 : w36.cell? ⟨gb207,1,none⟩ = some (.int .i64 0) :=(blk_cell BK207.out 1).trans rfl;have hcz38_2 : w36.cell? ⟨gb207,2,none⟩ = some (.bool false) :=(blk_cell BK207.out 2).trans rfl;have hfz38_0 :=blk_frozen BK207.out 0;have hfz38_1 :=blk_frozen BK207.out 1;have hfz38_2 :=blk_frozen BK207.out 2;have hcz39_0 : w36.cell? ⟨gb192,0,none⟩ = some (.string t187) :=(blk_cell BK192.out 0).trans rfl;have hcz39_1 : w36.cell? ⟨gb192,1,none⟩ = some (.slice Ao32 x193001_1.length co32) :=(blk_cell BK192.out 1).trans rfl;have hfz39_0 :=blk_frozen BK192.out 0;have hfz39_1 :=blk_frozen BK192.out 1) | (go_at_call 8;(with_reducible refine (plan_MayCommit.calls t187 _ _ x193001_1 true _ ?side1 ?side2 A29.out).mono ?_);(case side1 => refine (Kd.R_reads' (e :=36) (base :=w.heap.size) (ok :=fun k_ => True) (n :=x193001_1.length) (c :=co32) ?_).2.2;exact (by (with_reducible repeat (first | apply Kd.R_alloc | apply Kd.R_drewN | apply Kd.R_drew));exact (Kd.R_mono (Kd.R_far (p :=⟨gb207,2,none⟩) (Kd.R_far (p :=⟨gb207,1,none⟩) (Kd.R_far (p :=⟨gb207,0,none⟩) (Kd.R_types HO_193001.out BK207.out (by decide)) (fun _ hk => hk.2) (.int .i64 t203)) (fun _ hk => hk.2) (.int .i64 t204)) (fun _ hk => hk.2) (.bool t205)) (fun _ h_ => h_.1))));(case side2 => exact (Kd.R_reads' HO_193001.out).2.1);rintro e w40 ⟨rfl,hb⟩;have n0_ :=Aside0.mk (Kd.R_below (by (with_reducible repeat (first | apply Kd.R_alloc | apply Kd.R_drewN | apply Kd.R_drew));exact (Kd.R_mono (Kd.R_far (p :=⟨gb207,2,none⟩) (Kd.R_far (p :=⟨gb207,1,none⟩) (Kd.R_far (p :=⟨gb207,0,none⟩) (Kd.R_types HO_8.out BK207.out (by decide)) (fun _ hk => hk.2) (.int .i64 t203)) (fun _ hk => hk.2) (.int .i64 t204)) (fun _ hk => hk.2) (.bool t205)) (fun _ h_ => h_.1))) hb);have n1_ :=Aside0.mk (Kd.R_below (by (with_reducible repeat (first | apply Kd.R_alloc | apply Kd.R_drewN | apply Kd.R_drew));exact (Kd.R_mono (Kd.R_far (p :=⟨gb207,2,none⟩) (Kd.R_far (p :=⟨gb207,1,none⟩) (Kd.R_far (p :=⟨gb207,0,none⟩) (Kd.R_types HO_9.out BK207.out (by decide)) (fun _ hk => hk.2) (.int .i64 t203)) (fun _ hk => hk.2) (.int .i64 t204)) (fun _ hk => hk.2) (.bool t205)) (fun _ h_ => h_.1))) hb);have n2_ :=Aside0.mk (Kd.R_below (by (with_reducible repeat (first | apply Kd.R_alloc | apply Kd.R_drewN | apply Kd.R_drew));exact (Kd.R_mono (Kd.R_far (p :=⟨gb207,2,none⟩) (Kd.R_far (p :=⟨gb207,1,none⟩) (Kd.R_far (p :=⟨gb207,0,none⟩) (Kd.R_types HO_193001.out BK207.out (by decide)) (fun _ hk => hk.2) (.int .i64 t203)) (fun _ hk => hk.2) (.int .i64 t204)) (fun _ hk => hk.2) (.bool t205)) (fun _ h_ => h_.1))) hb);have n3_ :=Aside0.mk (Kd.S_below (by (with_reducible repeat (first | apply Kd.S_alloc | apply Kd.S_drewN | apply Kd.S_drew));exact (Kd.S_mono (Kd.S_far (p :=⟨gb207,2,none⟩) (Kd.S_far (p :=⟨gb207,1,none⟩) (Kd.S_far (p :=⟨gb207,0,none⟩) (Kd.S_types HO202.out BK207.out (by decide)) (fun _ hk => hk.2) (.int .i64 t203)) (fun _ hk => hk.2) (.int .i64 t204)) (fun _ hk => hk.2) (.bool t205)) (fun _ h_ => h_.1))) hb);have n4_ :=Aside0.mk (blk_below (g :=gb192) (o :=.cells #[.string t187,.slice Ao32 x193001_1.length co32] 28 (0,0)) (by (with_reducible repeat (first | refine blk_drewN ?_ _ | refine blk_drew ?_ | refine blk_alloc ?_ _));refine blk_far ?_ NB192_207.out _;(with_reducible repeat (first | refine blk_drewN ?_ _ | refine blk_drew ?_ | refine blk_alloc ?_ _));refine blk_far ?_ NB192_207.out _;(with_reducible repeat (first | refine blk_drewN ?_ _ | refine blk_drew ?_ | refine blk_alloc ?_ _));refine blk_far ?_ NB192_207.out _;(with_reducible repeat (first | refine blk_drewN ?_ _ | refine blk_drew ?_ | refine blk_alloc ?_ _));exact BK192.out) hb);have n5_ :=Aside0.mk (blk_below (g :=gb207) (o :=.cells #[.int .i64 t203,.int .i64 t204,.bool t205] 41 (0,0)) (by (with_reducible repeat (first | refine blk_drewN ?_ _ | refine blk_drew ?_ | refine blk_alloc ?_ _));refine blk_put (cs :=#[.int .i64 t203,.int .i64 t204,.bool false]) ?_ 2 _ rfl;(with_reducible repeat (first | refine blk_drewN ?_ _ | refine blk_drew ?_ | refine blk_alloc ?_ _));refine blk_put (cs :=#[.int .i64 t203,.int .i64 0,.bool false]) ?_ 1 _ rfl;(with_reducible repeat (first | refine blk_drewN ?_ _ | refine blk_drew ?_ | refine blk_alloc ?_ _));refine blk_put (cs :=#[.int .i64 0,.int .i64 0,.bool false]) ?_ 0 _ rfl;(with_reducible repeat (first | refine blk_drewN ?_ _ | refine blk_drew ?_ | refine blk_alloc ?_ _));exact BK207.out) hb);have n6_ :=Aside0.mk (below_step (by repeat (first | (with_reducible first | exact HB.out | apply below_alloc | apply pw_below_drewN | apply below_drew1 | refine below_set ?_ GE192.out | refine below_set ?_ GE207.out) | exact HB.out)) hb);clear HO_8;clear HO_9;clear HO_193001;clear HO202;clear BK192;clear BK207;clear HB;have HO_8 :=n0_;have HO_9 :=n1_;have HO_193001 :=n2_;have HO202 :=n3_;have BK192 :=n4_;have BK207 :=n5_;have HB :=n6_;clear n0_ n1_ n2_ n3_ n4_ n5_ n6_;(try clear hb);(try clear hb2);(try clear hk);(try clear hi)))
       repeat (go_quiet (first | (go_at_call 7;(with_reducible refine (plan_Events.calls k1 t187 _ _ x193001_1 _ _ x8_1 _ _ x9_1 (wrap64 (a1)) t200 t203 t204 t205 t206 _ ?side1 ?side2 ?side3 ?side4 ?side5 ?side6 A28.out).mono ?_);(case side1 => repeat (first | exact (Kd.R_reads' HO_193001.out).2.2 | (with_reducible refine Kd.C_alloc ?_ _) | (with_reducible refine Kd.C_drewN ?_ _) | (with_reducible refine Kd.C_drew ?_)));(case side2 => exact (Kd.R_reads' HO_193001.out).2.1);(case side3 => repeat (first | exact (Kd.R_reads' HO_8.out).2.2 | (with_reducible refine Kd.C_alloc ?_ _) | (with_reducible refine Kd.C_drewN ?_ _) | (with_reducible refine Kd.C_drew ?_)));(case side4 => exact (Kd.R_reads' HO_8.out).2.1);(case side5 => repeat (first | exact (Kd.R_reads' HO_9.out).2.2 | (with_reducible refine Kd.C_alloc ?_ _) | (with_reducible refine Kd.C_drewN ?_ _) | (with_reducible refine Kd.C_drew ?_)));(case side6 => exact (Kd.R_reads' HO_9.out).2.1);rintro e w35 ⟨v201,rfl,ho0,hb⟩;have n0_ :=Aside0.mk (Kd.R_below (by (with_reducible repeat (first | apply Kd.R_alloc | apply Kd.R_drewN | apply Kd.R_drew));exact HO_8.out) hb);have n1_ :=Aside0.mk (Kd.R_below (by (with_reducible repeat (first | apply Kd.R_alloc | apply Kd.R_drewN | apply Kd.R_drew));exact HO_9.out) hb);have n2_ :=Aside0.mk (Kd.R_below (by (with_reducible repeat (first | apply Kd.R_alloc | apply Kd.R_drewN | apply Kd.R_drew));exact HO_193001.out) hb);have n3_ :=Aside0.mk (Kd.S_lower ho0 (below_size (by repeat (first | (with_reducible first | exact HB.out | apply below_alloc | apply pw_below_drewN | apply below_drew1 | refine below_set ?_ GE192.out) | exact HB.out))));have n4_ :=Aside0.mk (blk_below (g :=gb192) (o :=.cells #[.string t187,.slice Ao32 x193001_1.length co32] 28 (0,0)) (by (with_reducible repeat (first | refine blk_drewN ?_ _ | refine blk_drew ?_ | refine blk_alloc ?_ _));exact BK192.out) hb);have n5_ :=Aside0.mk (below_step (by repeat (first | (with_reducible first | exact HB.out | apply below_alloc | apply pw_below_drewN | apply below_drew1 | refine below_set ?_ GE192.out) | exact HB.out)) hb);clear HO_8;clear HO_9;clear HO_193001;clear BK192;clear HB;have HO_8 :=n0_;have HO_9 :=n1_;have HO_193001 :=n2_;have HO202 :=n3_;have BK192 :=n4_;have HB :=n5_;clear n0_ n1_ n2_ n3_ n4_ n5_;(try clear hb);(try clear hb2);(try clear hk);(try clear hi);(try clear ho0)) | ((with_reducible refine gate_dst (N :=12) rfl ?_);(try (refine gate_guard (by rfl) ?_;dsimp only));refine box_event ?hg (N :=12) ?hd (cs :=#[.int .i64 0,.int .i64 0,.bool false]) (t :=41) ?hr ?_;(case hd => rfl);(case hg => rfl);(case hr => first | (go_simp;done) | (go_simp;rfl));intro gb207 hg w36 hbox hb;have n0_ :=Aside0.mk (Kd.R_below (by (with_reducible repeat (first | apply Kd.R_alloc | apply Kd.R_drewN | apply Kd.R_drew));exact HO_8.out) hb);have n1_ :=Aside0.mk (Kd.R_below (by (with_reducible repeat (first | apply Kd.R_alloc | apply Kd.R_drewN | apply Kd.R_drew));exact HO_9.out) hb);have n2_ :=Aside0.mk (Kd.R_below (by (with_reducible repeat (first | apply Kd.R_alloc | apply Kd.R_drewN | apply Kd.R_drew));exact HO_193001.out) hb);have n3_ :=Aside0.mk (Kd.S_below (by (with_reducible repeat (first | apply Kd.S_alloc | apply Kd.S_drewN | apply Kd.S_drew));exact HO202.out) hb);have n4_ :=Aside0.mk (blk_below (g :=gb192) (o :=.cells #[.string t187,.slice Ao32 x193001_1.length co32] 28 (0,0)) (by (with_reducible repeat (first | refine blk_drewN ?_ _ | refine blk_drew ?_ | refine blk_alloc ?_ _));exact BK192.out) hb);have n5_ :=Aside0.mk (below_step (by repeat (first | (with_reducible first | exact HB.out | apply below_alloc | apply pw_below_drewN | apply below_drew1 | refine below_set ?_ GE192.out) | exact HB.out)) hb);have n6_ :=Aside0.mk (hbox);have n7_ :=Aside0.mk ((by rw [hg];exact (below_size (by repeat (first | (with_reducible first | exact HB.out | apply below_alloc | apply pw_below_drewN | apply below_drew1 | refine below_set ?_ GE192.out) | exact HB.out))) : w.heap.size ≤ gb207));have n8_ :=Aside0.mk ((by rw [hg];exact (below_size (by repeat (first | (with_reducible first | exact HB.out | apply below_alloc | apply pw_below_drewN | apply below_drew1 | refine below_set ?_ GE192.out) | exact HB.out))) : w.heap.size ≤ gb207));have n9_ :=Aside0.mk ((by rw [hg];exact Nat.ne_of_lt (blk_lt (g :=gb192) (o :=.cells #[.string t187,.slice Ao32 x193001_1.length co32] 28 (0,0)) (by (with_reducible repeat (first | refine blk_drewN ?_ _ | refine blk_drew ?_ | refine blk_alloc ?_ _));exact BK192.out)) : gb192 ≠ gb207));have n10_ :=Aside0.mk ((by rw [hg];exact Nat.ne_of_gt (blk_lt (g :=gb192) (o :=.cells #[.string t187,.slice Ao32 x193001_1.length co32] 28 (0,0)) (by (with_reducible repeat (first | refine blk_drewN ?_ _ | refine blk_drew ?_ | refine blk_alloc ?_ _));exact BK192.out)) : gb207 ≠ gb192));clear HO_8;clear HO_9;clear HO_193001;clear HO202;clear BK192;clear HB;have HO_8 :=n0_;have HO_9 :=n1_;have HO_193001 :=n2_;have HO202 :=n3_;have BK192 :=n4_;have HB :=n5_;have BK207 :=n6_;have GW207 :=n7_;have GE207 :=n8_;have NB192_207 :=n9_;have NB207_192 :=n10_;clear n0_ n1_ n2_ n3_ n4_ n5_ n6_ n7_ n8_ n9_ n10_;clear hb hbox hg;have hnb37 :=NB207_192.out;have hnc37 :=NB192_207.out;have hcz38_0 : w36.cell? ⟨gb207,0,none⟩ = some (.int .i64 0) :=(blk_cell BK207.out 0).trans rfl;have hcz38_1 : w36.cell? ⟨gb207,1,none⟩ = some (.int .i64 0) :=(blk_cell BK207.out 1).trans rfl;have hcz38_2 : w36.cell? ⟨gb207,2,none⟩ = some (.bool false) :=(blk_cell BK207.out 2).trans rfl;have hfz38_0 :=blk_frozen BK207.out 0;have hfz38_1 :=blk_frozen BK207.out 1;have hfz38_2 :=blk_frozen BK207.out 2;have hcz39_0 : w36.cell? ⟨gb192,0,none⟩ = some (.string t187) :=(blk_cell BK192.out 0).trans rfl;have hcz39_1 : w36.cell? ⟨gb192,1,none⟩ = some (.slice Ao32 x193001_1.length co32) :=(blk_cell BK192.out 1).trans rfl;have hfz39_0 :=blk_frozen BK192.out 0;have hfz39_1 :=blk_frozen BK192.out 1) | (go_at_call 8;(with_reducible refine (plan_MayCommit.calls t187 _ _ x193001_1 true _ ?side1 ?side2 A29.out).mono ?_);(case side1 => refine (Kd.R_reads' (e :=36) (base :=w.heap.size) (ok :=fun k_ => True) (n :=x193001_1.length) (c :=co32) ?_).2.2;exact (by (with_reducible repeat (first | apply Kd.R_alloc | apply Kd.R_drewN | apply Kd.R_drew));exact (Kd.R_mono (Kd.R_far (p :=⟨gb207,2,none⟩) (Kd.R_far (p :=⟨gb207,1,none⟩) (Kd.R_far (p :=⟨gb207,0,none⟩) (Kd.R_types HO_193001.out BK207.out (by decide)) (fun _ hk => hk.2) (.int .i64 t203)) (fun _ hk => hk.2) (.int .i64 t204)) (fun _ hk => hk.2) (.bool t205)) (fun _ h_ => h_.1))));(case side2 => exact (Kd.R_reads' HO_193001.out).2.1);rintro e w40 ⟨rfl,hb⟩;have n0_ :=Aside0.mk (Kd.R_below (by (with_reducible repeat (first | apply Kd.R_alloc | apply Kd.R_drewN | apply Kd.R_drew));exact (Kd.R_mono (Kd.R_far (p :=⟨gb207,2,none⟩) (Kd.R_far (p :=⟨gb207,1,none⟩) (Kd.R_far (p :=⟨gb207,0,none⟩) (Kd.R_types HO_8.out BK207.out (by decide)) (fun _ hk => hk.2) (.int .i64 t203)) (fun _ hk => hk.2) (.int .i64 t204)) (fun _ hk => hk.2) (.bool t205)) (fun _ h_ => h_.1))) hb);have n1_ :=Aside0.mk (Kd.R_below (by (with_reducible repeat (first | apply Kd.R_alloc | apply Kd.R_drewN | apply Kd.R_drew));exact (Kd.R_mono (Kd.R_far (p :=⟨gb207,2,none⟩) (Kd.R_far (p :=⟨gb207,1,none⟩) (Kd.R_far (p :=⟨gb207,0,none⟩) (Kd.R_types HO_9.out BK207.out (by decide)) (fun _ hk => hk.2) (.int .i64 t203)) (fun _ hk => hk.2) (.int .i64 t204)) (fun _ hk => hk.2) (.bool t205)) (fun _ h_ => h_.1))) hb);have n2_ :=Aside0.mk (Kd.R_below (by (with_reducible repeat (first | apply Kd.R_alloc | apply Kd.R_drewN | apply Kd.R_drew));exact (Kd.R_mono (Kd.R_far (p :=⟨gb207,2,none⟩) (Kd.R_far (p :=⟨gb207,1,none⟩) (Kd.R_far (p :=⟨gb207,0,none⟩) (Kd.R_types HO_193001.out BK207.out (by decide)) (fun _ hk => hk.2) (.int .i64 t203)) (fun _ hk => hk.2) (.int .i64 t204)) (fun _ hk => hk.2) (.bool t205)) (fun _ h_ => h_.1))) hb);have n3_ :=Aside0.mk (Kd.S_below (by (with_reducible repeat (first | apply Kd.S_alloc | apply Kd.S_drewN | apply Kd.S_drew));exact (Kd.S_mono (Kd.S_far (p :=⟨gb207,2,none⟩) (Kd.S_far (p :=⟨gb207,1,none⟩) (Kd.S_far (p :=⟨gb207,0,none⟩) (Kd.S_types HO202.out BK207.out (by decide)) (fun _ hk => hk.2) (.int .i64 t203)) (fun _ hk => hk.2) (.int .i64 t204)) (fun _ hk => hk.2) (.bool t205)) (fun _ h_ => h_.1))) hb);have n4_ :=Aside0.mk (blk_below (g :=gb192) (o :=.cells #[.string t187,.slice Ao32 x193001_1.length co32] 28 (0,0)) (by (with_reducible repeat (first | refine blk_drewN ?_ _ | refine blk_drew ?_ | refine blk_alloc ?_ _));refine blk_far ?_ NB192_207.out _;(with_reducible repeat (first | refine blk_drewN ?_ _ | refine blk_drew ?_ | refine blk_alloc ?_ _));refine blk_far ?_ NB192_207.out _;(with_reducible repeat (first | refine blk_drewN ?_ _ | refine blk_drew ?_ | refine blk_alloc ?_ _));refine blk_far ?_ NB192_207.out _;(with_reducible repeat (first | refine blk_drewN ?_ _ | refine blk_drew ?_ | refine blk_alloc ?_ _));exact BK192.out) hb);have n5_ :=Aside0.mk (blk_below (g :=gb207) (o :=.cells #[.int .i64 t203,.int .i64 t204,.bool t205] 41 (0,0)) (by (with_reducible repeat (first | refine blk_drewN ?_ _ | refine blk_drew ?_ | refine blk_alloc ?_ _));refine blk_put (cs :=#[.int .i64 t203,.int .i64 t204,.bool false]) ?_ 2 _ rfl;(with_reducible repeat (first | refine blk_drewN ?_ _ | refine blk_drew ?_ | refine blk_alloc ?_ _));refine blk_put (cs :=#[.int .i64 t203,.int .i64 0,.bool false]) ?_ 1 _ rfl;(with_reducible repeat (first | refine blk_drewN ?_ _ | refine blk_drew ?_ | refine blk_alloc ?_ _));refine blk_put (cs :=#[.int .i64 0,.int .i64 0,.bool false]) ?_ 0 _ rfl;(with_reducible repeat (first | refine blk_drewN ?_ _ | refine blk_drew ?_ | refine blk_alloc ?_ _));exact BK207.out) hb);have n6_ :=Aside0.mk (below_step (by repeat (first | (with_reducible first | exact HB.out | apply below_alloc | apply pw_below_drewN | apply below_drew1 | refine below_set ?_ GE192.out | refine below_set ?_ GE207.out) | exact HB.out)) hb);clear HO_8;clear HO_9;clear HO_193001;clear HO202;clear BK192;clear BK207;clear HB;have HO_8 :=n0_;have HO_9 :=n1_;have HO_193001 :=n2_;have HO202 :=n3_;have BK192 :=n4_;have BK207 :=n5_;have HB :=n6_;clear n0_ n1_ n2_ n3_ n4_ n5_ n6_;(try clear hb);(try clear hb2);(try clear hk);(try clear hi)));try go_wp2_with (first | (go_at_call 7;(with_reducible refine (plan_Events.calls k1 t187 _ _ x193001_1 _ _ x8_1 _ _ x9_1 (wrap64 (a1)) t200 t203 t204 t205 t206 _ ?side1 ?side2 ?side3 ?side4 ?side5 ?side6 A28.out).mono ?_);(case side1 => repeat (first | exact (Kd.R_reads' HO_193001.out).2.2 | (with_reducible refine Kd.C_alloc ?_ _) | (with_reducible refine Kd.C_drewN ?_ _) | (with_reducible refine Kd.C_drew ?_)));(case side2 => exact (Kd.R_reads' HO_193001.out).2.1);(case side3 => repeat (first | exact (Kd.R_reads' HO_8.out).2.2 | (with_reducible refine Kd.C_alloc ?_ _) | (with_reducible refine Kd.C_drewN ?_ _) | (with_reducible refine Kd.C_drew ?_)));(case side4 => exact (Kd.R_reads' HO_8.out).2.1);(case side5 => repeat (first | exact (Kd.R_reads' HO_9.out).2.2 | (with_reducible refine Kd.C_alloc ?_ _) | (with_reducible refine Kd.C_drewN ?_ _) | (with_reducible refine Kd.C_drew ?_)));(case side6 => exact (Kd.R_reads' HO_9.out).2.1);rintro e w35 ⟨v201,rfl,ho0,hb⟩;have n0_ :=Aside0.mk (Kd.R_below (by (with_reducible repeat (first | apply Kd.R_alloc | apply Kd.R_drewN | apply Kd.R_drew));exact HO_8.out) hb);have n1_ :=Aside0.mk (Kd.R_below (by (with_reducible repeat (first | apply Kd.R_alloc | apply Kd.R_drewN | apply Kd.R_drew));exact HO_9.out) hb);have n2_ :=Aside0.mk (Kd.R_below (by (with_reducible repeat (first | apply Kd.R_alloc | apply Kd.R_drewN | apply Kd.R_drew));exact HO_193001.out) hb);have n3_ :=Aside0.mk (Kd.S_lower ho0 (below_size (by repeat (first | (with_reducible first | exact HB.out | apply below_alloc | apply pw_below_drewN | apply below_drew1 | refine below_set ?_ GE192.out) | exact HB.out))));have n4_ :=Aside0.mk (blk_below (g :=gb192) (o :=.cells #[.string t187,.slice Ao32 x193001_1.length co32] 28 (0,0)) (by (with_reducible repeat (first | refine blk_drewN ?_ _ | refine blk_drew ?_ | refine blk_alloc ?_ _));exact BK192.out) hb);have n5_ :=Aside0.mk (below_step (by repeat (first | (with_reducible first | exact HB.out | apply below_alloc | apply pw_below_drewN | apply below_drew1 | refine below_set ?_ GE192.out) | exact HB.out)) hb);clear HO_8;clear HO_9;clear HO_193001;clear BK192;clear HB;have HO_8 :=n0_;have HO_9 :=n1_;have HO_193001 :=n2_;have HO202 :=n3_;have BK192 :=n4_;have HB :=n5_;clear n0_ n1_ n2_ n3_ n4_ n5_;(try clear hb);(try clear hb2);(try clear hk);(try clear hi);(try clear ho0)) | ((with_reducible refine gate_dst (N :=12) rfl ?_);(try (refine gate_guard (by rfl) ?_;dsimp only));refine box_event ?hg (N :=12) ?hd (cs :=#[.int .i64 0,.int .i64 0,.bool false]) (t :=41) ?hr ?_;(case hd => rfl);(case hg => rfl);(case hr => first | (go_simp;done) | (go_simp;rfl));intro gb207 hg w36 hbox hb;have n0_ :=Aside0.mk (Kd.R_below (by (with_reducible repeat (first | apply Kd.R_alloc | apply Kd.R_drewN | apply Kd.R_drew));exact HO_8.out) hb);have n1_ :=Aside0.mk (Kd.R_below (by (with_reducible repeat (first | apply Kd.R_alloc | apply Kd.R_drewN | apply Kd.R_drew));exact HO_9.out) hb);have n2_ :=Aside0.mk (Kd.R_below (by (with_reducible repeat (first | apply Kd.R_alloc | apply Kd.R_drewN | apply Kd.R_drew));exact HO_193001.out) hb);have n3_ :=Aside0.mk (Kd.S_below (by (with_reducible repeat (first | apply Kd.S_alloc | apply Kd.S_drewN | apply Kd.S_drew));exact HO202.out) hb);have n4_ :=Aside0.mk (blk_below (g :=gb192) (o :=.cells #[.string t187,.slice Ao32 x193001_1.length co32] 28 (0,0)) (by (with_reducible repeat (first | refine blk_drewN ?_ _ | refine blk_drew ?_ | refine blk_alloc ?_ _));exact BK192.out) hb);have n5_ :=Aside0.mk (below_step (by repeat (first | (with_reducible first | exact HB.out | apply below_alloc | apply pw_below_drewN | apply below_drew1 | refine below_set ?_ GE192.out) | exact HB.out)) hb);have n6_ :=Aside0.mk (hbox);have n7_ :=Aside0.mk ((by rw [hg];exact (below_size (by repeat (first | (with_reducible first | exact HB.out | apply below_alloc | apply pw_below_drewN | apply below_drew1 | refine below_set ?_ GE192.out) | exact HB.out))) : w.heap.size ≤ gb207));have n8_ :=Aside0.mk ((by rw [hg];exact (below_size (by repeat (first | (with_reducible first | exact HB.out | apply below_alloc | apply pw_below_drewN | apply below_drew1 | refine below_set ?_ GE192.out) | exact HB.out))) : w.heap.size ≤ gb207));have n9_ :=Aside0.mk ((by rw [hg];exact Nat.ne_of_lt (blk_lt (g :=gb192) (o :=.cells #[.string t187,.slice Ao32 x193001_1.length co32] 28 (0,0)) (by (with_reducible repeat (first | refine blk_drewN ?_ _ | refine blk_drew ?_ | refine blk_alloc ?_ _));exact BK192.out)) : gb192 ≠ gb207));have n10_ :=Aside0.mk ((by rw [hg];exact Nat.ne_of_gt (blk_lt (g :=gb192) (o :=.cells #[.string t187,.slice Ao32 x193001_1.length co32] 28 (0,0)) (by (with_reducible repeat (first | refine blk_drewN ?_ _ | refine blk_drew ?_ | refine blk_alloc ?_ _));exact BK192.out)) : gb207 ≠ gb192));clear HO_8;clear HO_9;clear HO_193001;clear HO202;clear BK192;clear HB;have HO_8 :=n0_;have HO_9 :=n1_;have HO_193001 :=n2_;have HO202 :=n3_;have BK192 :=n4_;have HB :=n5_;have BK207 :=n6_;have GW207 :=n7_;have GE207 :=n8_;have NB192_207 :=n9_;have NB207_192 :=n10_;clear n0_ n1_ n2_ n3_ n4_ n5_ n6_ n7_ n8_ n9_ n10_;clear hb hbox hg;have hnb37 :=NB207_192.out;have hnc37 :=NB192_207.out;have hcz38_0 : w36.cell? ⟨gb207,0,none⟩ = some (.int .i64 0) :=(blk_cell BK207.out 0).trans rfl;have hcz38_1 : w36.cell? ⟨gb207,1,none⟩ = some (.int .i64 0) :=(blk_cell BK207.out 1).trans rfl;have hcz38_2 : w36.cell? ⟨gb207,2,none⟩ = some (.bool false) :=(blk_cell BK207.out 2).trans rfl;have hfz38_0 :=blk_frozen BK207.out 0;have hfz38_1 :=blk_frozen BK207.out 1;have hfz38_2 :=blk_frozen BK207.out 2;have hcz39_0 : w36.cell? ⟨gb192,0,none⟩ = some (.string t187) :=(blk_cell BK192.out 0).trans rfl;have hcz39_1 : w36.cell? ⟨gb192,1,none⟩ = some (.slice Ao32 x193001_1.length co32) :=(blk_cell BK192.out 1).trans rfl;have hfz39_0 :=blk_frozen BK192.out 0;have hfz39_1 :=blk_frozen BK192.out 1) | (go_at_call 8;(with_reducible refine (plan_MayCommit.calls t187 _ _ x193001_1 true _ ?side1 ?side2 A29.out).mono ?_);(case side1 => refine (Kd.R_reads' (e :=36) (base :=w.heap.size) (ok :=fun k_ => True) (n :=x193001_1.length) (c :=co32) ?_).2.2;exact (by (with_reducible repeat (first | apply Kd.R_alloc | apply Kd.R_drewN | apply Kd.R_drew));exact (Kd.R_mono (Kd.R_far (p :=⟨gb207,2,none⟩) (Kd.R_far (p :=⟨gb207,1,none⟩) (Kd.R_far (p :=⟨gb207,0,none⟩) (Kd.R_types HO_193001.out BK207.out (by decide)) (fun _ hk => hk.2) (.int .i64 t203)) (fun _ hk => hk.2) (.int .i64 t204)) (fun _ hk => hk.2) (.bool t205)) (fun _ h_ => h_.1))));(case side2 => exact (Kd.R_reads' HO_193001.out).2.1);rintro e w40 ⟨rfl,hb⟩;have n0_ :=Aside0.mk (Kd.R_below (by (with_reducible repeat (first | apply Kd.R_alloc | apply Kd.R_drewN | apply Kd.R_drew));exact (Kd.R_mono (Kd.R_far (p :=⟨gb207,2,none⟩) (Kd.R_far (p :=⟨gb207,1,none⟩) (Kd.R_far (p :=⟨gb207,0,none⟩) (Kd.R_types HO_8.out BK207.out (by decide)) (fun _ hk => hk.2) (.int .i64 t203)) (fun _ hk => hk.2) (.int .i64 t204)) (fun _ hk => hk.2) (.bool t205)) (fun _ h_ => h_.1))) hb);have n1_ :=Aside0.mk (Kd.R_below (by (with_reducible repeat (first | apply Kd.R_alloc | apply Kd.R_drewN | apply Kd.R_drew));exact (Kd.R_mono (Kd.R_far (p :=⟨gb207,2,none⟩) (Kd.R_far (p :=⟨gb207,1,none⟩) (Kd.R_far (p :=⟨gb207,0,none⟩) (Kd.R_types HO_9.out BK207.out (by decide)) (fun _ hk => hk.2) (.int .i64 t203)) (fun _ hk => hk.2) (.int .i64 t204)) (fun _ hk => hk.2) (.bool t205)) (fun _ h_ => h_.1))) hb);have n2_ :=Aside0.mk (Kd.R_below (by (with_reducible repeat (first | apply Kd.R_alloc | apply Kd.R_drewN | apply Kd.R_drew));exact (Kd.R_mono (Kd.R_far (p :=⟨gb207,2,none⟩) (Kd.R_far (p :=⟨gb207,1,none⟩) (Kd.R_far (p :=⟨gb207,0,none⟩) (Kd.R_types HO_193001.out BK207.out (by decide)) (fun _ hk => hk.2) (.int .i64 t203)) (fun _ hk => hk.2) (.int .i64 t204)) (fun _ hk => hk.2) (.bool t205)) (fun _ h_ => h_.1))) hb);have n3_ :=Aside0.mk (Kd.S_below (by (with_reducible repeat (first | apply Kd.S_alloc | apply Kd.S_drewN | apply Kd.S_drew));exact (Kd.S_mono (Kd.S_far (p :=⟨gb207,2,none⟩) (Kd.S_far (p :=⟨gb207,1,none⟩) (Kd.S_far (p :=⟨gb207,0,none⟩) (Kd.S_types HO202.out BK207.out (by decide)) (fun _ hk => hk.2) (.int .i64 t203)) (fun _ hk => hk.2) (.int .i64 t204)) (fun _ hk => hk.2) (.bool t205)) (fun _ h_ => h_.1))) hb);have n4_ :=Aside0.mk (blk_below (g :=gb192) (o :=.cells #[.string t187,.slice Ao32 x193001_1.length co32] 28 (0,0)) (by (with_reducible repeat (first | refine blk_drewN ?_ _ | refine blk_drew ?_ | refine blk_alloc ?_ _));refine blk_far ?_ NB192_207.out _;(with_reducible repeat (first | refine blk_drewN ?_ _ | refine blk_drew ?_ | refine blk_alloc ?_ _));refine blk_far ?_ NB192_207.out _;(with_reducible repeat (first | refine blk_drewN ?_ _ | refine blk_drew ?_ | refine blk_alloc ?_ _));refine blk_far ?_ NB192_207.out _;(with_reducible repeat (first | refine blk_drewN ?_ _ | refine blk_drew ?_ | refine blk_alloc ?_ _));exact BK192.out) hb);have n5_ :=Aside0.mk (blk_below (g :=gb207) (o :=.cells #[.int .i64 t203,.int .i64 t204,.bool t205] 41 (0,0)) (by (with_reducible repeat (first | refine blk_drewN ?_ _ | refine blk_drew ?_ | refine blk_alloc ?_ _));refine blk_put (cs :=#[.int .i64 t203,.int .i64 t204,.bool false]) ?_ 2 _ rfl;(with_reducible repeat (first | refine blk_drewN ?_ _ | refine blk_drew ?_ | refine blk_alloc ?_ _));refine blk_put (cs :=#[.int .i64 t203,.int .i64 0,.bool false]) ?_ 1 _ rfl;(with_reducible repeat (first | refine blk_drewN ?_ _ | refine blk_drew ?_ | refine blk_alloc ?_ _));refine blk_put (cs :=#[.int .i64 0,.int .i64 0,.bool false]) ?_ 0 _ rfl;(with_reducible repeat (first | refine blk_drewN ?_ _ | refine blk_drew ?_ | refine blk_alloc ?_ _));exact BK207.out) hb);have n6_ :=Aside0.mk (below_step (by repeat (first | (with_reducible first | exact HB.out | apply below_alloc | apply pw_below_drewN | apply below_drew1 | refine below_set ?_ GE192.out | refine below_set ?_ GE207.out) | exact HB.out)) hb);clear HO_8;clear HO_9;clear HO_193001;clear HO202;clear BK192;clear BK207;clear HB;have HO_8 :=n0_;have HO_9 :=n1_;have HO_193001 :=n2_;have HO202 :=n3_;have BK192 :=n4_;have BK207 :=n5_;have HB :=n6_;clear n0_ n1_ n2_ n3_ n4_ n5_ n6_;(try clear hb);(try clear hb2);(try clear hk);(try clear hi))))
       go_loopg [14,15] k1 (fun kq v14 v15 w' => ∃ (x14_2 : Int) (x15_2 : Int),v14 = .int .i64 x14_2 ∧ v15 = .int .i64 x15_2 ∧ Aside0 (pandectlaw17_PlanRises.l1 kq a1 a2 t200 t206 x14_2 x15_2 t187 x193001_1 t203 t204 t205 = some r) ∧ Aside0 (kq ≤ k1) ∧ Aside0 (Kd.S k47 47 w' w.heap.size (fun _ => True) v201 t200) ∧ Aside0 (Kd.R k36 36 w' w.heap.size (fun _ => True) (.slice Ao32 x193001_1.length co32) x193001_1) ∧ Aside0 (w'.heap[gb192]? = some (.cells #[.string t187,(.slice Ao32 x193001_1.length co32)] 28 (0,0))) ∧ Aside0 (w'.heap[gb207]? = some (.cells #[.int .i64 t203,.int .i64 t204,.bool t205] 41 (0,0))) ∧ Aside0 (Below w.heap.size w w'))
       case atStart => exact ⟨(0),(0),(by first | rfl | (simp;done) | (simp [*];done)),(by first | rfl | (simp;done) | (simp [*];done)),H',⟨Nat.le_refl _⟩,⟨by (with_reducible repeat (first | apply Kd.S_alloc | apply Kd.S_drewN | apply Kd.S_drew));exact HO202.out⟩,⟨by (with_reducible repeat (first | apply Kd.R_alloc | apply Kd.R_drewN | apply Kd.R_drew));exact HO_193001.out⟩,⟨by (with_reducible repeat (first | refine blk_drewN ?_ _ | refine blk_drew ?_ | refine blk_alloc ?_ _));exact BK192.out⟩,⟨by (with_reducible repeat (first | refine blk_drewN ?_ _ | refine blk_drew ?_ | refine blk_alloc ?_ _));exact BK207.out⟩,⟨by repeat (first | (with_reducible first | exact HB.out | apply below_alloc | apply pw_below_drewN | apply below_drew1 | refine below_set ?_ GE192.out | refine below_set ?_ GE207.out) | exact HB.out)⟩⟩
       case round => as_aux_lemma =>
        clear H'
        try clear c1
        try clear p1
        try clear q1
        try clear hx1
        try clear c2
        try clear p2
        try clear hx2
        try clear c3
        try clear c5
        try clear c6
        try clear c6b0
        try clear c6b1
        try clear p6
        try clear c14
        try clear c17
        try clear c17b0
        try clear c18
        try clear c18b0
        try clear c19
        try clear p19
        try clear q19
        try clear hx19
        try clear hf19
        try clear c20
        try clear c21
        try clear c24
        try clear hx24
        try clear hf24
        try clear c30
        try clear c37
        try clear hcz15_0
        try clear hcz15_1
        try clear hcz22_0
        try clear hcz22_1
        try clear hcz31_0
        try clear hcz31_1
        try clear hcz38_0
        try clear hcz38_1
        try clear hcz38_2
        try clear hcz39_0
        try clear hcz39_1
        try clear hfz15_0
        try clear hfz15_1
        try clear hfz22_0
        try clear hfz22_1
        try clear hfz31_0
        try clear hfz31_1
        try clear hfz38_0
        try clear hfz38_1
        try clear hfz38_2
        try clear hfz39_0
        try clear hfz39_1
        try clear hx19_0
        try clear hx19_1
        try clear hx19_2
        try clear hx24_1
        try clear p19
        try clear p2
        try clear q19
        obtain ⟨x14_2,x15_2,rfl,rfl,HA,HK2,HO_11,HO_193001,BK192,BK207,HB⟩ :=hrel
        cases gk with
        | zero => exact absurd HA.out (by simp [pandectlaw17_PlanRises.l1])
        | succ k2 =>
         have H :=HA.out
         clear HA
         simp only [pandectlaw17_PlanRises.l1] at H
         by_cases c41 : x15_2 < (x193001_1.length : Int)
         ·rw [if_pos c41] at H
          have c41b0 : decide (x15_2 < (x193001_1.length : Int)) = true :=decide_eq_true c41
          clear c41
          have H' :=Aside0.mk H
          clear H
          have hnb42 :=NB192_207.out
          have hnc42 :=NB207_192.out
          have hcz43_0 : wr.cell? ⟨gb192,0,none⟩ = some (.string t187) :=(blk_cell BK192.out 0).trans rfl
          have hcz43_1 : wr.cell? ⟨gb192,1,none⟩ = some (.slice Ao32 x193001_1.length co32) :=(blk_cell BK192.out 1).trans rfl
          have hfz43_0 :=blk_frozen BK192.out 0
          have hfz43_1 :=blk_frozen BK192.out 1
          go_wp2
          repeat (go_quiet (fail);try go_wp2)
          go_loopg [14,16] k2 (fun kq v14 v16 w' => ∃ (x14_3 : Int) (x16_3 : Int),v14 = .int .i64 x14_3 ∧ v16 = .int .i64 x16_3 ∧ Aside0 (pandectlaw17_PlanRises.l2 kq a1 a2 t200 t206 x14_3 x15_2 x16_3 t187 x193001_1 t203 t204 t205 = some r) ∧ Aside0 (kq ≤ k2) ∧ Aside0 (Kd.S k47 47 w' w.heap.size (fun _ => True) v201 t200) ∧ Aside0 (Kd.R k36 36 w' w.heap.size (fun _ => True) (.slice Ao32 x193001_1.length co32) x193001_1) ∧ Aside0 (w'.heap[gb192]? = some (.cells #[.string t187,(.slice Ao32 x193001_1.length co32)] 28 (0,0))) ∧ Aside0 (w'.heap[gb207]? = some (.cells #[.int .i64 t203,.int .i64 t204,.bool t205] 41 (0,0))) ∧ Aside0 (Below w.heap.size w w'))
          case atStart => exact ⟨(x14_2),(0),(by first | rfl | (simp;done) | (simp [*];done)),(by first | rfl | (simp;done) | (simp [*];done)),H',⟨Nat.le_refl _⟩,⟨by (with_reducible repeat (first | apply Kd.S_alloc | apply Kd.S_drewN | apply Kd.S_drew));exact HO_11.out⟩,⟨by (with_reducible repeat (first | apply Kd.R_alloc | apply Kd.R_drewN | apply Kd.R_drew));exact HO_193001.out⟩,⟨by (with_reducible repeat (first | refine blk_drewN ?_ _ | refine blk_drew ?_ | refine blk_alloc ?_ _));exact BK192.out⟩,⟨by (with_reducible repeat (first | refine blk_drewN ?_ _ | refine blk_drew ?_ | refine blk_alloc ?_ _));exact BK207.out⟩,⟨by repeat (first | (with_reducible first | exact HB.out | apply below_alloc | apply pw_below_drewN | apply below_drew1 | refine below_set ?_ GE192.out | refine below_set ?_ GE207.out) | exact HB.out)⟩⟩
          case round => as_aux_lemma =>
           clear H'
           try clear c1
           try clear p1
           try clear q1
           try clear hx1
           try clear c2
           try clear p2
           try clear hx2
           try clear c3
           try clear c4
           try clear c5
           try clear c6
           try clear c6b0
           try clear c6b1
           try clear p6
           try clear c14
           try clear c17
           try clear c17b0
           try clear c18
           try clear c18b0
           try clear c19
           try clear p19
           try clear q19
           try clear hx19
           try clear hf19
           try clear c20
           try clear c21
           try clear c24
           try clear hx24
           try clear hf24
           try clear c30
           try clear c37
           try clear c41
           try clear c41b0
           try clear c42
           try clear hcz15_0
           try clear hcz15_1
           try clear hcz22_0
           try clear hcz22_1
           try clear hcz31_0
           try clear hcz31_1
           try clear hcz38_0
           try clear hcz38_1
           try clear hcz38_2
           try clear hcz39_0
           try clear hcz39_1
           try clear hcz43_0
           try clear hcz43_1
           try clear hfz15_0
           try clear hfz15_1
           try clear hfz22_0
           try clear hfz22_1
           try clear hfz31_0
           try clear hfz31_1
           try clear hfz38_0
           try clear hfz38_1
           try clear hfz38_2
           try clear hfz39_0
           try clear hfz39_1
           try clear hfz43_0
           try clear hfz43_1
           try clear hx19_0
           try clear hx19_1
           try clear hx19_2
           try clear hx24_1
           try clear p1
           try clear p19
           try clear p2
           try clear p6
           try clear q1
           try clear q19
           obtain ⟨x14_3,x16_3,rfl,rfl,HA,HK3,HO_11,HO_193001,BK192,BK207,HB⟩ :=hrel
           cases gk with
           | zero => exact absurd HA.out (by simp [pandectlaw17_PlanRises.l2])
           | succ k3 =>
            have H :=HA.out
            clear HA
            simp only [pandectlaw17_PlanRises.l2] at H
            by_cases c44 : 0 ≤ x15_2
            ·rw [if_pos c44] at H
             have c44b0 : decide (0 ≤ x15_2) = true :=decide_eq_true c44
             clear c44
             by_cases c45 : x15_2 < (x193001_1.length : Int)
             ·rw [if_pos c45] at H
              have c45b0 : decide (x15_2 < (x193001_1.length : Int)) = true :=decide_eq_true c45
              clear c45
              by_cases c46 : x16_3 < (((rd_T36 x193001_1 x15_2).f2).length : Int)
              ·rw [if_pos c46] at H
               have c46b0 : decide (x16_3 < (((rd_T36 x193001_1 x15_2).f2).length : Int)) = true :=decide_eq_true c46
               clear c46
               by_cases c47 : x14_3 ≥ (t200.length : Int)
               ·rw [if_pos c47] at H
                exact absurd H (by simp)
               ·rw [if_neg c47] at H
                have c47b0 : decide ((t200.length : Int) ≤ x14_3) = false :=decide_eq_false c47
                clear c47
                by_cases c48 : 0 ≤ x14_3
                ·rw [if_pos c48] at H
                 have c48b0 : decide (0 ≤ x14_3) = true :=decide_eq_true c48
                 clear c48
                 by_cases c49 : x14_3 < (t200.length : Int)
                 ·rw [if_pos c49] at H
                  have c49b0 : decide (x14_3 < (t200.length : Int)) = true :=decide_eq_true c49
                  clear c49
                  by_cases c50 : ((rd_T47 t200 x14_3).f0) = (wrap64 ((wrap64 (a1)) + x14_3))
                  ·rw [if_pos c50] at H
                   have c50b0 : (((rd_T47 t200 x14_3).f0) == (wrap64 ((wrap64 (a1)) + x14_3))) = true :=beq_iff_eq.mpr c50
                   have c50b0w : (((rd_T47 t200 x14_3).f0) == (IntKind.i64.wrap ((IntKind.i64.wrap (a1)) + x14_3))) = true :=by simp only [Go.IntWalk.i64_left];exact c50b0
                   have c50b1 : (((rd_T47 t200 x14_3).f0) != (wrap64 ((wrap64 (a1)) + x14_3))) = false :=bne_eq_false_iff_eq.mpr c50
                   have c50b1w : (((rd_T47 t200 x14_3).f0) != (IntKind.i64.wrap ((IntKind.i64.wrap (a1)) + x14_3))) = false :=by simp only [Go.IntWalk.i64_left];exact c50b1
                   clear c50
                   by_cases c51 : ((rd_T47 t200 x14_3).f2) = (wrap64 ((wrap64 (a2)) + (wrap64 (x15_2 + x16_3))))
                   ·rw [if_pos c51] at H
                    have c51b0 : (((rd_T47 t200 x14_3).f2) == (wrap64 ((wrap64 (a2)) + (wrap64 (x15_2 + x16_3))))) = true :=beq_iff_eq.mpr c51
                    have c51b0w : (((rd_T47 t200 x14_3).f2) == (IntKind.i64.wrap ((IntKind.i64.wrap (a2)) + (IntKind.i64.wrap (x15_2 + x16_3))))) = true :=by simp only [Go.IntWalk.i64_left];exact c51b0
                    have c51b1 : (((rd_T47 t200 x14_3).f2) != (wrap64 ((wrap64 (a2)) + (wrap64 (x15_2 + x16_3))))) = false :=bne_eq_false_iff_eq.mpr c51
                    have c51b1w : (((rd_T47 t200 x14_3).f2) != (IntKind.i64.wrap ((IntKind.i64.wrap (a2)) + (IntKind.i64.wrap (x15_2 + x16_3))))) = false :=by simp only [Go.IntWalk.i64_left];exact c51b1
                    clear c51
                    by_cases c52 : ((rd_T47 t200 x14_3).f1).toList = ((rd_T36 x193001_1 x15_2).f0).toList
                    ·rw [if_pos c52] at H
                     have c52b0 : (((rd_T47 t200 x14_3).f1).toList == ((rd_T36 x193001_1 x15_2).f0).toList) = true :=beq_iff_eq.mpr c52
                     have c52b1 : (((rd_T47 t200 x14_3).f1).toList != ((rd_T36 x193001_1 x15_2).f0).toList) = false :=bne_eq_false_iff_eq.mpr c52
                     clear c52
                     by_cases c53 : 0 ≤ x16_3
                     ·rw [if_pos c53] at H
                      have c53b0 : decide (0 ≤ x16_3) = true :=decide_eq_true c53
                      clear c53
                      by_cases c54 : ((rd_T47 t200 x14_3).f3).toList = ((rd_T49 ((rd_T36 x193001_1 x15_2).f2) x16_3).f0).toList
                      ·rw [if_pos c54] at H
                       have c54b0 : (((rd_T47 t200 x14_3).f3).toList == ((rd_T49 ((rd_T36 x193001_1 x15_2).f2) x16_3).f0).toList) = true :=beq_iff_eq.mpr c54
                       have c54b1 : (((rd_T47 t200 x14_3).f3).toList != ((rd_T49 ((rd_T36 x193001_1 x15_2).f2) x16_3).f0).toList) = false :=bne_eq_false_iff_eq.mpr c54
                       clear c54
                       by_cases c55 : (strOfNums ((rd_T47 t200 x14_3).f4)).toList = (strOfNums ((rd_T49 ((rd_T36 x193001_1 x15_2).f2) x16_3).f1)).toList
                       ·rw [if_pos c55] at H
                        have c55b0 : ((strOfNums ((rd_T47 t200 x14_3).f4)).toList == (strOfNums ((rd_T49 ((rd_T36 x193001_1 x15_2).f2) x16_3).f1)).toList) = true :=beq_iff_eq.mpr c55
                        have c55b1 : ((strOfNums ((rd_T47 t200 x14_3).f4)).toList != (strOfNums ((rd_T49 ((rd_T36 x193001_1 x15_2).f2) x16_3).f1)).toList) = false :=bne_eq_false_iff_eq.mpr c55
                        clear c55
                        have H' :=Aside0.mk H
                        clear H
                        have hnb56 :=NB192_207.out
                        have hnc56 :=NB207_192.out
                        have hcz57_0 : wr.cell? ⟨gb192,0,none⟩ = some (.string t187) :=(blk_cell BK192.out 0).trans rfl
                        have hcz57_1 : wr.cell? ⟨gb192,1,none⟩ = some (.slice Ao32 x193001_1.length co32) :=(blk_cell BK192.out 1).trans rfl
                        have hfz57_0 :=blk_frozen BK192.out 0
                        have hfz57_1 :=blk_frozen BK192.out 1
                        have p209 : 0 ≤ (x15_2 : Int) :=of_decide_eq_true (by first | (with_reducible assumption) | assumption)
                        have q209 : x15_2 < (x193001_1.length : Int) :=of_decide_eq_true (by first | (with_reducible assumption) | assumption)
                        obtain ⟨ad209,A209_2,c209_2,e209,hx209_0,hx209_1,hx209_2,hl209_2,hi209_2⟩ :=at_T36 (Kd.R_reads' HO_193001.out).2.2 x15_2 p209 q209
                        cases e209
                        obtain ⟨ce209,hce209,hMe209,hcc209⟩ :=Kd.R_get HO_193001.out z36 x15_2 p209 (by first | exact q209 | exact of_decide_eq_true (by first | (with_reducible assumption) | assumption) | (have e_ :=(Kd.R_reads' HO_193001.out).1;omega))
                        obtain ⟨ve209_2,rfl,ge209_2⟩ :=k36_openM hMe209
                        have hv209_2 :=hcc209 2 _ rfl
                        rw [add_field _ _ 2 (by omega)] at hv209_2
                        replace hv209_2 :=Option.some.inj (hv209_2.symm.trans hx209_2)
                        rw [hv209_2] at ge209_2
                        have HL209_2 :=Aside0.mk (show Kd.R k49 49 _ _ _ _ ((rd_T36 x193001_1 x15_2).f2) from ge209_2)
                        clear hv209_2 ge209_2
                        clear hcc209 hce209
                        have HR209_2 :=Aside0.mk hi209_2
                        have HC209_2 :=Aside0.mk hl209_2
                        clear hi209_2 hl209_2
                        replace p209 :=eq_true p209
                        replace q209 :=eq_true q209
                        obtain ⟨Ao58,co58,eo58⟩ :=Kd.S_slice HO_11.out
                        subst eo58
                        have p210 : 0 ≤ (x14_3 : Int) :=of_decide_eq_true (by first | (with_reducible assumption) | assumption)
                        have q210 : x14_3 < (t200.length : Int) :=of_decide_eq_true (by first | (with_reducible assumption) | assumption)
                        obtain ⟨ad210,A210_4,c210_4,e210,hx210_0,hx210_1,hx210_2,hx210_3,hx210_4,hl210_4,hi210_4⟩ :=at_T47 (Kd.S_reads' HO_11.out).2.2 x14_3 p210 q210
                        cases e210
                        obtain ⟨ce210,hce210,hMe210,hcc210⟩ :=Kd.S_get HO_11.out z47 x14_3 p210 (by first | exact q210 | exact of_decide_eq_true (by first | (with_reducible assumption) | assumption) | (have e_ :=(Kd.S_reads' HO_11.out).1;omega))
                        obtain ⟨ve210_4,rfl,ge210_4⟩ :=k47_openM hMe210
                        have hv210_4 :=hcc210 4 _ rfl
                        rw [add_field _ _ 4 (by omega)] at hv210_4
                        replace hv210_4 :=Option.some.inj (hv210_4.symm.trans hx210_4)
                        rw [hv210_4] at ge210_4
                        have HL210_4 :=Aside0.mk (show Kd.R (Kd.int .u8) 5 _ _ _ _ ((rd_T47 t200 x14_3).f4) from ge210_4)
                        clear hv210_4 ge210_4
                        clear hcc210 hce210
                        have HR210_4 :=Aside0.mk hi210_4
                        have HC210_4 :=Aside0.mk hl210_4
                        clear hi210_4 hl210_4
                        replace p210 :=eq_true p210
                        replace q210 :=eq_true q210
                        have p211 : 0 ≤ (x14_3 : Int) :=of_decide_eq_true (by first | (with_reducible assumption) | assumption)
                        have q211 : x14_3 < (t200.length : Int) :=of_decide_eq_true (by first | (with_reducible assumption) | assumption)
                        obtain ⟨ad211,A211_4,c211_4,e211,hx211_0,hx211_1,hx211_2,hx211_3,hx211_4,hl211_4,hi211_4⟩ :=at_T47 (Kd.S_reads' HO_11.out).2.2 x14_3 p211 q211
                        obtain rfl : ad210 = ad211 :=(by injection e211)
                        obtain ⟨ce211,hce211,hMe211,hcc211⟩ :=Kd.S_get HO_11.out z47 x14_3 p211 (by first | exact q211 | exact of_decide_eq_true (by first | (with_reducible assumption) | assumption) | (have e_ :=(Kd.S_reads' HO_11.out).1;omega))
                        obtain ⟨ve211_4,rfl,ge211_4⟩ :=k47_openM hMe211
                        have hv211_4 :=hcc211 4 _ rfl
                        rw [add_field _ _ 4 (by omega)] at hv211_4
                        replace hv211_4 :=Option.some.inj (hv211_4.symm.trans hx211_4)
                        rw [hv211_4] at ge211_4
                        have HL211_4 :=Aside0.mk (show Kd.R (Kd.int .u8) 5 _ _ _ _ ((rd_T47 t200 x14_3).f4) from ge211_4)
                        clear hv211_4 ge211_4
                        clear hcc211 hce211
                        have HR211_4 :=Aside0.mk hi211_4
                        have HC211_4 :=Aside0.mk hl211_4
                        clear hi211_4 hl211_4
                        replace p211 :=eq_true p211
                        replace q211 :=eq_true q211
                        have ea_ :=Option.some.inj (hx210_4.symm.trans hx211_4)
                        injection ea_ with ea_ en_ ec_
                        subst ea_
                        subst ec_
                        clear en_
                        have p212 : 0 ≤ (x14_3 : Int) :=of_decide_eq_true (by first | (with_reducible assumption) | assumption)
                        have q212 : x14_3 < (t200.length : Int) :=of_decide_eq_true (by first | (with_reducible assumption) | assumption)
                        obtain ⟨ad212,A212_4,c212_4,e212,hx212_0,hx212_1,hx212_2,hx212_3,hx212_4,hl212_4,hi212_4⟩ :=at_T47 (Kd.S_reads' HO_11.out).2.2 x14_3 p212 q212
                        obtain rfl : ad210 = ad212 :=(by injection e212)
                        obtain ⟨ce212,hce212,hMe212,hcc212⟩ :=Kd.S_get HO_11.out z47 x14_3 p212 (by first | exact q212 | exact of_decide_eq_true (by first | (with_reducible assumption) | assumption) | (have e_ :=(Kd.S_reads' HO_11.out).1;omega))
                        obtain ⟨ve212_4,rfl,ge212_4⟩ :=k47_openM hMe212
                        have hv212_4 :=hcc212 4 _ rfl
                        rw [add_field _ _ 4 (by omega)] at hv212_4
                        replace hv212_4 :=Option.some.inj (hv212_4.symm.trans hx212_4)
                        rw [hv212_4] at ge212_4
                        have HL212_4 :=Aside0.mk (show Kd.R (Kd.int .u8) 5 _ _ _ _ ((rd_T47 t200 x14_3).f4) from ge212_4)
                        clear hv212_4 ge212_4
                        clear hcc212 hce212
                        have HR212_4 :=Aside0.mk hi212_4
                        have HC212_4 :=Aside0.mk hl212_4
                        clear hi212_4 hl212_4
                        replace p212 :=eq_true p212
                        replace q212 :=eq_true q212
                        have ea_ :=Option.some.inj (hx210_4.symm.trans hx212_4)
                        injection ea_ with ea_ en_ ec_
                        subst ea_
                        subst ec_
                        clear en_
                        have p213 : 0 ≤ (x15_2 : Int) :=of_decide_eq_true (by first | (with_reducible assumption) | assumption)
                        have q213 : x15_2 < (x193001_1.length : Int) :=of_decide_eq_true (by first | (with_reducible assumption) | assumption)
                        obtain ⟨ad213,A213_2,c213_2,e213,hx213_0,hx213_1,hx213_2,hl213_2,hi213_2⟩ :=at_T36 (Kd.R_reads' HO_193001.out).2.2 x15_2 p213 q213
                        obtain rfl : ad209 = ad213 :=(by injection e213)
                        obtain ⟨ce213,hce213,hMe213,hcc213⟩ :=Kd.R_get HO_193001.out z36 x15_2 p213 (by first | exact q213 | exact of_decide_eq_true (by first | (with_reducible assumption) | assumption) | (have e_ :=(Kd.R_reads' HO_193001.out).1;omega))
                        obtain ⟨ve213_2,rfl,ge213_2⟩ :=k36_openM hMe213
                        have hv213_2 :=hcc213 2 _ rfl
                        rw [add_field _ _ 2 (by omega)] at hv213_2
                        replace hv213_2 :=Option.some.inj (hv213_2.symm.trans hx213_2)
                        rw [hv213_2] at ge213_2
                        have HL213_2 :=Aside0.mk (show Kd.R k49 49 _ _ _ _ ((rd_T36 x193001_1 x15_2).f2) from ge213_2)
                        clear hv213_2 ge213_2
                        clear hcc213 hce213
                        have HR213_2 :=Aside0.mk hi213_2
                        have HC213_2 :=Aside0.mk hl213_2
                        clear hi213_2 hl213_2
                        replace p213 :=eq_true p213
                        replace q213 :=eq_true q213
                        have ea_ :=Option.some.inj (hx209_2.symm.trans hx213_2)
                        injection ea_ with ea_ en_ ec_
                        subst ea_
                        subst ec_
                        clear en_
                        have p214 : 0 ≤ (x14_3 : Int) :=of_decide_eq_true (by first | (with_reducible assumption) | assumption)
                        have q214 : x14_3 < (t200.length : Int) :=of_decide_eq_true (by first | (with_reducible assumption) | assumption)
                        obtain ⟨ad214,A214_4,c214_4,e214,hx214_0,hx214_1,hx214_2,hx214_3,hx214_4,hl214_4,hi214_4⟩ :=at_T47 (Kd.S_reads' HO_11.out).2.2 x14_3 p214 q214
                        obtain rfl : ad210 = ad214 :=(by injection e214)
                        obtain ⟨ce214,hce214,hMe214,hcc214⟩ :=Kd.S_get HO_11.out z47 x14_3 p214 (by first | exact q214 | exact of_decide_eq_true (by first | (with_reducible assumption) | assumption) | (have e_ :=(Kd.S_reads' HO_11.out).1;omega))
                        obtain ⟨ve214_4,rfl,ge214_4⟩ :=k47_openM hMe214
                        have hv214_4 :=hcc214 4 _ rfl
                        rw [add_field _ _ 4 (by omega)] at hv214_4
                        replace hv214_4 :=Option.some.inj (hv214_4.symm.trans hx214_4)
                        rw [hv214_4] at ge214_4
                        have HL214_4 :=Aside0.mk (show Kd.R (Kd.int .u8) 5 _ _ _ _ ((rd_T47 t200 x14_3).f4) from ge214_4)
                        clear hv214_4 ge214_4
                        clear hcc214 hce214
                        have HR214_4 :=Aside0.mk hi214_4
                        have HC214_4 :=Aside0.mk hl214_4
                        clear hi214_4 hl214_4
                        replace p214 :=eq_true p214
                        replace q214 :=eq_true q214
                        have ea_ :=Option.some.inj (hx210_4.symm.trans hx214_4)
                        injection ea_ with ea_ en_ ec_
                        subst ea_
                        subst ec_
                        clear en_
                        have p215 : 0 ≤ (x15_2 : Int) :=of_decide_eq_true (by first | (with_reducible assumption) | assumption)
                        have q215 : x15_2 < (x193001_1.length : Int) :=of_decide_eq_true (by first | (with_reducible assumption) | assumption)
                        obtain ⟨ad215,A215_2,c215_2,e215,hx215_0,hx215_1,hx215_2,hl215_2,hi215_2⟩ :=at_T36 (Kd.R_reads' HO_193001.out).2.2 x15_2 p215 q215
                        obtain rfl : ad209 = ad215 :=(by injection e215)
                        obtain ⟨ce215,hce215,hMe215,hcc215⟩ :=Kd.R_get HO_193001.out z36 x15_2 p215 (by first | exact q215 | exact of_decide_eq_true (by first | (with_reducible assumption) | assumption) | (have e_ :=(Kd.R_reads' HO_193001.out).1;omega))
                        obtain ⟨ve215_2,rfl,ge215_2⟩ :=k36_openM hMe215
                        have hv215_2 :=hcc215 2 _ rfl
                        rw [add_field _ _ 2 (by omega)] at hv215_2
                        replace hv215_2 :=Option.some.inj (hv215_2.symm.trans hx215_2)
                        rw [hv215_2] at ge215_2
                        have HL215_2 :=Aside0.mk (show Kd.R k49 49 _ _ _ _ ((rd_T36 x193001_1 x15_2).f2) from ge215_2)
                        clear hv215_2 ge215_2
                        clear hcc215 hce215
                        have HR215_2 :=Aside0.mk hi215_2
                        have HC215_2 :=Aside0.mk hl215_2
                        clear hi215_2 hl215_2
                        replace p215 :=eq_true p215
                        replace q215 :=eq_true q215
                        have ea_ :=Option.some.inj (hx209_2.symm.trans hx215_2)
                        injection ea_ with ea_ en_ ec_
                        subst ea_
                        subst ec_
                        clear en_
                        have p216 : 0 ≤ (x16_3 : Int) :=of_decide_eq_true (by first | (with_reducible assumption) | assumption)
                        have q216 : x16_3 < (((rd_T36 x193001_1 x15_2).f2).length : Int) :=of_decide_eq_true (by first | (with_reducible assumption) | assumption)
                        obtain ⟨ad216,A216_1,c216_1,e216,hx216_0,hx216_1,hl216_1,hi216_1⟩ :=at_T49 (by repeat (first | (with_reducible exact HR215_2.out) | (with_reducible refine Kd.C_alloc ?_ _) | (with_reducible refine Kd.C_drewN ?_ _) | (with_reducible refine Kd.C_drew ?_) | exact HR215_2.out)) x16_3 p216 q216
                        cases e216
                        obtain ⟨ce216,hce216,hMe216,hcc216⟩ :=Kd.R_get HL215_2.out z49 x16_3 p216 (by first | exact q216 | exact of_decide_eq_true (by first | (with_reducible assumption) | assumption) | (have e_ :=(Kd.R_reads' HL215_2.out).1;omega))
                        obtain ⟨ve216_1,rfl,ge216_1⟩ :=k49_openM hMe216
                        have hv216_1 :=hcc216 1 _ rfl
                        rw [add_field _ _ 1 (by omega)] at hv216_1
                        replace hv216_1 :=Option.some.inj (hv216_1.symm.trans hx216_1)
                        rw [hv216_1] at ge216_1
                        have HL216_1 :=Aside0.mk (show Kd.R (Kd.int .u8) 5 _ _ _ _ ((rd_T49 ((rd_T36 x193001_1 x15_2).f2) x16_3).f1) from ge216_1)
                        clear hv216_1 ge216_1
                        clear hcc216 hce216
                        have HR216_1 :=Aside0.mk hi216_1
                        have HC216_1 :=Aside0.mk hl216_1
                        clear hi216_1 hl216_1
                        replace p216 :=eq_true p216
                        replace q216 :=eq_true q216
                        have p217 : 0 ≤ (x14_3 : Int) :=of_decide_eq_true (by first | (with_reducible assumption) | assumption)
                        have q217 : x14_3 < (t200.length : Int) :=of_decide_eq_true (by first | (with_reducible assumption) | assumption)
                        obtain ⟨ad217,A217_4,c217_4,e217,hx217_0,hx217_1,hx217_2,hx217_3,hx217_4,hl217_4,hi217_4⟩ :=at_T47 (Kd.S_reads' HO_11.out).2.2 x14_3 p217 q217
                        obtain rfl : ad210 = ad217 :=(by injection e217)
                        obtain ⟨ce217,hce217,hMe217,hcc217⟩ :=Kd.S_get HO_11.out z47 x14_3 p217 (by first | exact q217 | exact of_decide_eq_true (by first | (with_reducible assumption) | assumption) | (have e_ :=(Kd.S_reads' HO_11.out).1;omega))
                        obtain ⟨ve217_4,rfl,ge217_4⟩ :=k47_openM hMe217
                        have hv217_4 :=hcc217 4 _ rfl
                        rw [add_field _ _ 4 (by omega)] at hv217_4
                        replace hv217_4 :=Option.some.inj (hv217_4.symm.trans hx217_4)
                        rw [hv217_4] at ge217_4
                        have HL217_4 :=Aside0.mk (show Kd.R (Kd.int .u8) 5 _ _ _ _ ((rd_T47 t200 x14_3).f4) from ge217_4)
                        clear hv217_4 ge217_4
                        clear hcc217 hce217
                        have HR217_4 :=Aside0.mk hi217_4
                        have HC217_4 :=Aside0.mk hl217_4
                        clear hi217_4 hl217_4
                        replace p217 :=eq_true p217
                        replace q217 :=eq_true q217
                        have ea_ :=Option.some.inj (hx210_4.symm.trans hx217_4)
                        injection ea_ with ea_ en_ ec_
                        subst ea_
                        subst ec_
                        clear en_
                        have hcv59 :=fun nn_ : Nat => Kd.C_string (P :=Try.prog) (A :=A210_4) (c :=c210_4) Try.underlying22 Try.underlying5 Try.underlying9 (Kd.C_drewN (by repeat (first | (with_reducible exact HR217_4.out) | (with_reducible refine Kd.C_alloc ?_ _) | (with_reducible refine Kd.C_drewN ?_ _) | (with_reducible refine Kd.C_drew ?_) | exact HR217_4.out)) nn_)
                        have p218 : 0 ≤ (x15_2 : Int) :=of_decide_eq_true (by first | (with_reducible assumption) | assumption)
                        have q218 : x15_2 < (x193001_1.length : Int) :=of_decide_eq_true (by first | (with_reducible assumption) | assumption)
                        obtain ⟨ad218,A218_2,c218_2,e218,hx218_0,hx218_1,hx218_2,hl218_2,hi218_2⟩ :=at_T36 (Kd.R_reads' HO_193001.out).2.2 x15_2 p218 q218
                        obtain rfl : ad209 = ad218 :=(by injection e218)
                        obtain ⟨ce218,hce218,hMe218,hcc218⟩ :=Kd.R_get HO_193001.out z36 x15_2 p218 (by first | exact q218 | exact of_decide_eq_true (by first | (with_reducible assumption) | assumption) | (have e_ :=(Kd.R_reads' HO_193001.out).1;omega))
                        obtain ⟨ve218_2,rfl,ge218_2⟩ :=k36_openM hMe218
                        have hv218_2 :=hcc218 2 _ rfl
                        rw [add_field _ _ 2 (by omega)] at hv218_2
                        replace hv218_2 :=Option.some.inj (hv218_2.symm.trans hx218_2)
                        rw [hv218_2] at ge218_2
                        have HL218_2 :=Aside0.mk (show Kd.R k49 49 _ _ _ _ ((rd_T36 x193001_1 x15_2).f2) from ge218_2)
                        clear hv218_2 ge218_2
                        clear hcc218 hce218
                        have HR218_2 :=Aside0.mk hi218_2
                        have HC218_2 :=Aside0.mk hl218_2
                        clear hi218_2 hl218_2
                        replace p218 :=eq_true p218
                        replace q218 :=eq_true q218
                        have ea_ :=Option.some.inj (hx209_2.symm.trans hx218_2)
                        injection ea_ with ea_ en_ ec_
                        subst ea_
                        subst ec_
                        clear en_
                        have p219 : 0 ≤ (x16_3 : Int) :=of_decide_eq_true (by first | (with_reducible assumption) | assumption)
                        have q219 : x16_3 < (((rd_T36 x193001_1 x15_2).f2).length : Int) :=of_decide_eq_true (by first | (with_reducible assumption) | assumption)
                        obtain ⟨ad219,A219_1,c219_1,e219,hx219_0,hx219_1,hl219_1,hi219_1⟩ :=at_T49 (by repeat (first | (with_reducible exact HR218_2.out) | (with_reducible refine Kd.C_alloc ?_ _) | (with_reducible refine Kd.C_drewN ?_ _) | (with_reducible refine Kd.C_drew ?_) | exact HR218_2.out)) x16_3 p219 q219
                        cases e219
                        obtain ⟨ce219,hce219,hMe219,hcc219⟩ :=Kd.R_get HL218_2.out z49 x16_3 p219 (by first | exact q219 | exact of_decide_eq_true (by first | (with_reducible assumption) | assumption) | (have e_ :=(Kd.R_reads' HL218_2.out).1;omega))
                        obtain ⟨ve219_1,rfl,ge219_1⟩ :=k49_openM hMe219
                        have hv219_1 :=hcc219 1 _ rfl
                        rw [add_field _ _ 1 (by omega)] at hv219_1
                        replace hv219_1 :=Option.some.inj (hv219_1.symm.trans hx219_1)
                        rw [hv219_1] at ge219_1
                        have HL219_1 :=Aside0.mk (show Kd.R (Kd.int .u8) 5 _ _ _ _ ((rd_T49 ((rd_T36 x193001_1 x15_2).f2) x16_3).f1) from ge219_1)
                        clear hv219_1 ge219_1
                        clear hcc219 hce219
                        have HR219_1 :=Aside0.mk hi219_1
                        have HC219_1 :=Aside0.mk hl219_1
                        clear hi219_1 hl219_1
                        replace p219 :=eq_true p219
                        replace q219 :=eq_true q219
                        have hcv60 :=fun nn_ : Nat => Kd.C_string (P :=Try.prog) (A :=A219_1) (c :=c219_1) Try.underlying22 Try.underlying5 Try.underlying9 (Kd.C_drewN (by repeat (first | (with_reducible exact HR219_1.out) | (with_reducible refine Kd.C_alloc ?_ _) | (with_reducible refine Kd.C_drewN ?_ _) | (with_reducible refine Kd.C_drew ?_) | exact HR219_1.out)) nn_)
                        have hcw60 :=fun nn_ : Nat => Kd.C_string (P :=Try.prog) (A :=A216_1) (c :=c216_1) Try.underlying22 Try.underlying5 Try.underlying9 (Kd.C_drewN (by repeat (first | (with_reducible exact HR216_1.out) | (with_reducible refine Kd.C_alloc ?_ _) | (with_reducible refine Kd.C_drewN ?_ _) | (with_reducible refine Kd.C_drew ?_) | exact HR216_1.out)) nn_)
                        go_wp2
                        repeat (go_quiet (fail);try go_wp2)
                        go_roundg k3
                        case measure => have :=HK1.out;have :=HK2.out;have :=HK3.out;omega
                        case rel => exact ⟨(wrap64 (x14_3 + 1)),(wrap64 (x16_3 + 1)),(by first | rfl | (simp;done) | (simp [*];done)),(by first | rfl | (simp;done) | (simp [*];done)),H',⟨by have :=HK1.out;have :=HK2.out;have :=HK3.out;omega⟩,⟨by (with_reducible repeat (first | apply Kd.S_alloc | apply Kd.S_drewN | apply Kd.S_drew));exact HO_11.out⟩,⟨by (with_reducible repeat (first | apply Kd.R_alloc | apply Kd.R_drewN | apply Kd.R_drew));exact HO_193001.out⟩,⟨by (with_reducible repeat (first | refine blk_drewN ?_ _ | refine blk_drew ?_ | refine blk_alloc ?_ _));exact BK192.out⟩,⟨by (with_reducible repeat (first | refine blk_drewN ?_ _ | refine blk_drew ?_ | refine blk_alloc ?_ _));exact BK207.out⟩,⟨by repeat (first | (with_reducible first | exact HB.out | apply below_alloc | apply pw_below_drewN | apply below_drew1 | refine below_set ?_ GE192.out | refine below_set ?_ GE207.out) | exact HB.out)⟩⟩
                       ·rw [if_neg c55] at H
                        exact absurd H (by simp)
                      ·rw [if_neg c54] at H
                       exact absurd H (by simp)
                     ·rw [if_neg c53] at H
                      exact absurd H (by simp)
                    ·rw [if_neg c52] at H
                     exact absurd H (by simp)
                   ·rw [if_neg c51] at H
                    exact absurd H (by simp)
                  ·rw [if_neg c50] at H
                   exact absurd H (by simp)
                 ·rw [if_neg c49] at H
                  exact absurd H (by simp)
                ·rw [if_neg c48] at H
                 exact absurd H (by simp)
              ·rw [if_neg c46] at H
               have c46b0 : decide (x16_3 < (((rd_T36 x193001_1 x15_2).f2).length : Int)) = false :=decide_eq_false c46
               clear c46
               have H' :=Aside0.mk H
               clear H
               have hnb61 :=NB192_207.out
               have hnc61 :=NB207_192.out
               have hcz62_0 : wr.cell? ⟨gb192,0,none⟩ = some (.string t187) :=(blk_cell BK192.out 0).trans rfl
               have hcz62_1 : wr.cell? ⟨gb192,1,none⟩ = some (.slice Ao32 x193001_1.length co32) :=(blk_cell BK192.out 1).trans rfl
               have hfz62_0 :=blk_frozen BK192.out 0
               have hfz62_1 :=blk_frozen BK192.out 1
               have p209 : 0 ≤ (x15_2 : Int) :=of_decide_eq_true (by first | (with_reducible assumption) | assumption)
               have q209 : x15_2 < (x193001_1.length : Int) :=of_decide_eq_true (by first | (with_reducible assumption) | assumption)
               obtain ⟨ad209,A209_2,c209_2,e209,hx209_0,hx209_1,hx209_2,hl209_2,hi209_2⟩ :=at_T36 (Kd.R_reads' HO_193001.out).2.2 x15_2 p209 q209
               cases e209
               obtain ⟨ce209,hce209,hMe209,hcc209⟩ :=Kd.R_get HO_193001.out z36 x15_2 p209 (by first | exact q209 | exact of_decide_eq_true (by first | (with_reducible assumption) | assumption) | (have e_ :=(Kd.R_reads' HO_193001.out).1;omega))
               obtain ⟨ve209_2,rfl,ge209_2⟩ :=k36_openM hMe209
               have hv209_2 :=hcc209 2 _ rfl
               rw [add_field _ _ 2 (by omega)] at hv209_2
               replace hv209_2 :=Option.some.inj (hv209_2.symm.trans hx209_2)
               rw [hv209_2] at ge209_2
               have HL209_2 :=Aside0.mk (show Kd.R k49 49 _ _ _ _ ((rd_T36 x193001_1 x15_2).f2) from ge209_2)
               clear hv209_2 ge209_2
               clear hcc209 hce209
               have HR209_2 :=Aside0.mk hi209_2
               have HC209_2 :=Aside0.mk hl209_2
               clear hi209_2 hl209_2
               replace p209 :=eq_true p209
               replace q209 :=eq_true q209
               go_wp2
               repeat (go_quiet (fail);try go_wp2)
               go_roundg k3
               case measure => have :=HK1.out;have :=HK2.out;have :=HK3.out;omega
               case rel => exact ⟨(x14_3),(wrap64 (x15_2 + 1)),(by first | rfl | (simp;done) | (simp [*];done)),(by first | rfl | (simp;done) | (simp [*];done)),H',⟨by have :=HK1.out;have :=HK2.out;have :=HK3.out;omega⟩,⟨by (with_reducible repeat (first | apply Kd.S_alloc | apply Kd.S_drewN | apply Kd.S_drew));exact HO_11.out⟩,⟨by (with_reducible repeat (first | apply Kd.R_alloc | apply Kd.R_drewN | apply Kd.R_drew));exact HO_193001.out⟩,⟨by (with_reducible repeat (first | refine blk_drewN ?_ _ | refine blk_drew ?_ | refine blk_alloc ?_ _));exact BK192.out⟩,⟨by (with_reducible repeat (first | refine blk_drewN ?_ _ | refine blk_drew ?_ | refine blk_alloc ?_ _));exact BK207.out⟩,⟨by repeat (first | (with_reducible first | exact HB.out | apply below_alloc | apply pw_below_drewN | apply below_drew1 | refine below_set ?_ GE192.out | refine below_set ?_ GE207.out) | exact HB.out)⟩⟩
             ·rw [if_neg c45] at H
              exact absurd H (by simp)
            ·rw [if_neg c44] at H
             exact absurd H (by simp)
         ·rw [if_neg c41] at H
          have c41b0 : decide (x15_2 < (x193001_1.length : Int)) = false :=decide_eq_false c41
          clear c41
          by_cases c63 : t206 = 0
          ·rw [if_pos c63] at H
           have c63b0 : (t206 == 0) = true :=beq_iff_eq.mpr c63
           have c63b1 : (t206 != 0) = false :=bne_eq_false_iff_eq.mpr c63
           clear c63
           by_cases c64 : x14_2 = (t200.length : Int)
           ·rw [if_pos c64] at H
            have c64b0 : (x14_2 == (t200.length : Int)) = true :=beq_iff_eq.mpr c64
            have c64b1 : (x14_2 != (t200.length : Int)) = false :=bne_eq_false_iff_eq.mpr c64
            clear c64
            obtain rfl :=Option.some.inj H
            have hnb65 :=NB192_207.out
            have hnc65 :=NB207_192.out
            have hcz66_0 : wr.cell? ⟨gb192,0,none⟩ = some (.string t187) :=(blk_cell BK192.out 0).trans rfl
            have hcz66_1 : wr.cell? ⟨gb192,1,none⟩ = some (.slice Ao32 x193001_1.length co32) :=(blk_cell BK192.out 1).trans rfl
            have hfz66_0 :=blk_frozen BK192.out 0
            have hfz66_1 :=blk_frozen BK192.out 1
            obtain ⟨Ao67,co67,eo67⟩ :=Kd.S_slice HO_11.out
            subst eo67
            have hcz68_0 : wr.cell? ⟨gb207,0,none⟩ = some (.int .i64 t203) :=(blk_cell BK207.out 0).trans rfl
            have hcz68_1 : wr.cell? ⟨gb207,1,none⟩ = some (.int .i64 t204) :=(blk_cell BK207.out 1).trans rfl
            have hcz68_2 : wr.cell? ⟨gb207,2,none⟩ = some (.bool t205) :=(blk_cell BK207.out 2).trans rfl
            have hfz68_0 :=blk_frozen BK207.out 0
            have hfz68_1 :=blk_frozen BK207.out 1
            have hfz68_2 :=blk_frozen BK207.out 2
            go_wp2
            repeat (go_quiet (fail);try go_wp2)
            go_ret
            exact ⟨by first | rfl | (simp [errW_none,errW_some] <;> rfl) | (simp [*,errW_none,errW_some] <;> rfl),by repeat (first | (with_reducible first | exact HB.out | apply below_alloc | apply pw_below_drewN | apply below_drew1 | refine below_set ?_ GE192.out | refine below_set ?_ GE207.out) | exact HB.out)⟩
           ·rw [if_neg c64] at H
            exact absurd H (by simp)
          ·rw [if_neg c63] at H
           exact absurd H (by simp)
      ·replace c30 :=Bool.eq_false_iff.mpr c30
       subst c30
       have H1 : (if t206 = 1 then (some ((t200.length : Int) == 0)) else (none)) = some r :=by rw [if_neg (show ¬ (false = true) by decide)] at H;exact H
       clear H
       have H :=H1
       clear H1
       by_cases c69 : t206 = 1
       ·rw [if_pos c69] at H
        have c69b0 : (t206 == 1) = true :=beq_iff_eq.mpr c69
        have c69b1 : (t206 != 1) = false :=bne_eq_false_iff_eq.mpr c69
        clear c69
        obtain rfl :=Option.some.inj H
        have hcz70_0 : wr.cell? ⟨gb192,0,none⟩ = some (.string t187) :=(blk_cell BK192.out 0).trans rfl
        have hcz70_1 : wr.cell? ⟨gb192,1,none⟩ = some (u193001) :=(blk_cell BK192.out 1).trans rfl
        have hfz70_0 :=blk_frozen BK192.out 0
        have hfz70_1 :=blk_frozen BK192.out 1
        obtain ⟨Ao71,co71,eo71⟩ :=Kd.R_slice HO_193001.out
        subst eo71
        obtain ⟨Ao72,co72,eo72⟩ :=Kd.R_slice HO_8.out
        subst eo72
        obtain ⟨Ao73,co73,eo73⟩ :=Kd.R_slice HO_9.out
        subst eo73
        go_wp2_with (first | (go_at_call 7;(with_reducible refine (plan_Events.calls k1 t187 _ _ x193001_1 _ _ x8_1 _ _ x9_1 (wrap64 (a1)) t200 t203 t204 t205 t206 _ ?side1 ?side2 ?side3 ?side4 ?side5 ?side6 A28.out).mono ?_);(case side1 => repeat (first | exact (Kd.R_reads' HO_193001.out).2.2 | (with_reducible refine Kd.C_alloc ?_ _) | (with_reducible refine Kd.C_drewN ?_ _) | (with_reducible refine Kd.C_drew ?_)));(case side2 => exact (Kd.R_reads' HO_193001.out).2.1);(case side3 => repeat (first | exact (Kd.R_reads' HO_8.out).2.2 | (with_reducible refine Kd.C_alloc ?_ _) | (with_reducible refine Kd.C_drewN ?_ _) | (with_reducible refine Kd.C_drew ?_)));(case side4 => exact (Kd.R_reads' HO_8.out).2.1);(case side5 => repeat (first | exact (Kd.R_reads' HO_9.out).2.2 | (with_reducible refine Kd.C_alloc ?_ _) | (with_reducible refine Kd.C_drewN ?_ _) | (with_reducible refine Kd.C_drew ?_)));(case side6 => exact (Kd.R_reads' HO_9.out).2.1);rintro e w74 ⟨v201,rfl,ho0,hb⟩;have n0_ :=Aside0.mk (Kd.R_below (by (with_reducible repeat (first | apply Kd.R_alloc | apply Kd.R_drewN | apply Kd.R_drew));exact HO_8.out) hb);have n1_ :=Aside0.mk (Kd.R_below (by (with_reducible repeat (first | apply Kd.R_alloc | apply Kd.R_drewN | apply Kd.R_drew));exact HO_9.out) hb);have n2_ :=Aside0.mk (Kd.R_below (by (with_reducible repeat (first | apply Kd.R_alloc | apply Kd.R_drewN | apply Kd.R_drew));exact HO_193001.out) hb);have n3_ :=Aside0.mk (Kd.S_lower ho0 (below_size (by repeat (first | (with_reducible first | exact HB.out | apply below_alloc | apply pw_below_drewN | apply below_drew1 | refine below_set ?_ GE192.out) | exact HB.out))));have n4_ :=Aside0.mk (blk_below (g :=gb192) (o :=.cells #[.string t187,.slice Ao71 x193001_1.length co71] 28 (0,0)) (by (with_reducible repeat (first | refine blk_drewN ?_ _ | refine blk_drew ?_ | refine blk_alloc ?_ _));exact BK192.out) hb);have n5_ :=Aside0.mk (below_step (by repeat (first | (with_reducible first | exact HB.out | apply below_alloc | apply pw_below_drewN | apply below_drew1 | refine below_set ?_ GE192.out) | exact HB.out)) hb);clear HO_8;clear HO_9;clear HO_193001;clear BK192;clear HB;have HO_8 :=n0_;have HO_9 :=n1_;have HO_193001 :=n2_;have HO202 :=n3_;have BK192 :=n4_;have HB :=n5_;clear n0_ n1_ n2_ n3_ n4_ n5_;(try clear hb);(try clear hb2);(try clear hk);(try clear hi);(try clear ho0)) | ((with_reducible refine gate_dst (N :=12) rfl ?_);(try (refine gate_guard (by rfl) ?_;dsimp only));refine box_event ?hg (N :=12) ?hd (cs :=#[.int .i64 0,.int .i64 0,.bool false]) (t :=41) ?hr ?_;(case hd => rfl);(case hg => rfl);(case hr => first | (go_simp;done) | (go_simp;rfl));intro gb207 hg w75 hbox hb;have n0_ :=Aside0.mk (Kd.R_below (by (with_reducible repeat (first | apply Kd.R_alloc | apply Kd.R_drewN | apply Kd.R_drew));exact HO_8.out) hb);have n1_ :=Aside0.mk (Kd.R_below (by (with_reducible repeat (first | apply Kd.R_alloc | apply Kd.R_drewN | apply Kd.R_drew));exact HO_9.out) hb);have n2_ :=Aside0.mk (Kd.R_below (by (with_reducible repeat (first | apply Kd.R_alloc | apply Kd.R_drewN | apply Kd.R_drew));exact HO_193001.out) hb);have n3_ :=Aside0.mk (Kd.S_below (by (with_reducible repeat (first | apply Kd.S_alloc | apply Kd.S_drewN | apply Kd.S_drew));exact HO202.out) hb);have n4_ :=Aside0.mk (blk_below (g :=gb192) (o :=.cells #[.string t187,.slice Ao71 x193001_1.length co71] 28 (0,0)) (by (with_reducible repeat (first | refine blk_drewN ?_ _ | refine blk_drew ?_ | refine blk_alloc ?_ _));exact BK192.out) hb);have n5_ :=Aside0.mk (below_step (by repeat (first | (with_reducible first | exact HB.out | apply below_alloc | apply pw_below_drewN | apply below_drew1 | refine below_set ?_ GE192.out) | exact HB.out)) hb);have n6_ :=Aside0.mk (hbox);have n7_ :=Aside0.mk ((by rw [hg];exact (below_size (by repeat (first | (with_reducible first | exact HB.out | apply below_alloc | apply pw_below_drewN | apply below_drew1 | refine below_set ?_ GE192.out) | exact HB.out))) : w.heap.size ≤ gb207));have n8_ :=Aside0.mk ((by rw [hg];exact (below_size (by repeat (first | (with_reducible first | exact HB.out | apply below_alloc | apply pw_below_drewN | apply below_drew1 | refine below_set ?_ GE192.out) | exact HB.out))) : w.heap.size ≤ gb207));have n9_ :=Aside0.mk ((by rw [hg];exact Nat.ne_of_lt (blk_lt (g :=gb192) (o :=.cells #[.string t187,.slice Ao71 x193001_1.length co71] 28 (0,0)) (by (with_reducible repeat (first | refine blk_drewN ?_ _ | refine blk_drew ?_ | refine blk_alloc ?_ _));exact BK192.out)) : gb192 ≠ gb207));have n10_ :=Aside0.mk ((by rw [hg];exact Nat.ne_of_gt (blk_lt (g :=gb192) (o :=.cells #[.string t187,.slice Ao71 x193001_1.length co71] 28 (0,0)) (by (with_reducible repeat (first | refine blk_drewN ?_ _ | refine blk_drew ?_ | refine blk_alloc ?_ _));exact BK192.out)) : gb207 ≠ gb192));clear HO_8;clear HO_9;clear HO_193001;clear HO202;clear BK192;clear HB;have HO_8 :=n0_;have HO_9 :=n1_;have HO_193001 :=n2_;have HO202 :=n3_;have BK192 :=n4_;have HB :=n5_;have BK207 :=n6_;have GW207 :=n7_;have GE207 :=n8_;have NB192_207 :=n9_;have NB207_192 :=n10_;clear n0_ n1_ n2_ n3_ n4_ n5_ n6_ n7_ n8_ n9_ n10_;clear hb hbox hg;have hnb76 :=NB207_192.out;have hnc76 :=NB192_207.out;have hcz77_0 : w75.cell? ⟨gb207,0,none⟩ = some (.int .i64 0) :=(blk_cell BK207.out 0).trans rfl;have hcz77_1 : w75.cell? ⟨gb207,1,none⟩ = some (.int .i64 0) :=(blk_cell BK207.out 1).trans rfl;have hcz77_2 : w75.cell? ⟨gb207,2,none⟩ = some (.bool false) :=(blk_cell BK207.out 2).trans rfl;have hfz77_0 :=blk_frozen BK207.out 0;have hfz77_1 :=blk_frozen BK207.out 1;have hfz77_2 :=blk_frozen BK207.out 2;have hcz78_0 : w75.cell? ⟨gb192,0,none⟩ = some (.string t187) :=(blk_cell BK192.out 0).trans rfl;have hcz78_1 : w75.cell? ⟨gb192,1,none⟩ = some (.slice Ao71 x193001_1.length co71) :=(blk_cell BK192.out 1).trans rfl;have hfz78_0 :=blk_frozen BK192.out 0;have hfz78_1 :=blk_frozen BK192.out 1) | (go_at_call 8;(with_reducible refine (plan_MayCommit.calls t187 _ _ x193001_1 false _ ?side1 ?side2 A29.out).mono ?_);(case side1 => refine (Kd.R_reads' (e :=36) (base :=w.heap.size) (ok :=fun k_ => True) (n :=x193001_1.length) (c :=co71) ?_).2.2;exact (by (with_reducible repeat (first | apply Kd.R_alloc | apply Kd.R_drewN | apply Kd.R_drew));exact (Kd.R_mono (Kd.R_far (p :=⟨gb207,2,none⟩) (Kd.R_far (p :=⟨gb207,1,none⟩) (Kd.R_far (p :=⟨gb207,0,none⟩) (Kd.R_types HO_193001.out BK207.out (by decide)) (fun _ hk => hk.2) (.int .i64 t203)) (fun _ hk => hk.2) (.int .i64 t204)) (fun _ hk => hk.2) (.bool t205)) (fun _ h_ => h_.1))));(case side2 => exact (Kd.R_reads' HO_193001.out).2.1);rintro e w79 ⟨rfl,hb⟩;have n0_ :=Aside0.mk (Kd.R_below (by (with_reducible repeat (first | apply Kd.R_alloc | apply Kd.R_drewN | apply Kd.R_drew));exact (Kd.R_mono (Kd.R_far (p :=⟨gb207,2,none⟩) (Kd.R_far (p :=⟨gb207,1,none⟩) (Kd.R_far (p :=⟨gb207,0,none⟩) (Kd.R_types HO_8.out BK207.out (by decide)) (fun _ hk => hk.2) (.int .i64 t203)) (fun _ hk => hk.2) (.int .i64 t204)) (fun _ hk => hk.2) (.bool t205)) (fun _ h_ => h_.1))) hb);have n1_ :=Aside0.mk (Kd.R_below (by (with_reducible repeat (first | apply Kd.R_alloc | apply Kd.R_drewN | apply Kd.R_drew));exact (Kd.R_mono (Kd.R_far (p :=⟨gb207,2,none⟩) (Kd.R_far (p :=⟨gb207,1,none⟩) (Kd.R_far (p :=⟨gb207,0,none⟩) (Kd.R_types HO_9.out BK207.out (by decide)) (fun _ hk => hk.2) (.int .i64 t203)) (fun _ hk => hk.2) (.int .i64 t204)) (fun _ hk => hk.2) (.bool t205)) (fun _ h_ => h_.1))) hb);have n2_ :=Aside0.mk (Kd.R_below (by (with_reducible repeat (first | apply Kd.R_alloc | apply Kd.R_drewN | apply Kd.R_drew));exact (Kd.R_mono (Kd.R_far (p :=⟨gb207,2,none⟩) (Kd.R_far (p :=⟨gb207,1,none⟩) (Kd.R_far (p :=⟨gb207,0,none⟩) (Kd.R_types HO_193001.out BK207.out (by decide)) (fun _ hk => hk.2) (.int .i64 t203)) (fun _ hk => hk.2) (.int .i64 t204)) (fun _ hk => hk.2) (.bool t205)) (fun _ h_ => h_.1))) hb);have n3_ :=Aside0.mk (Kd.S_below (by (with_reducible repeat (first | apply Kd.S_alloc | apply Kd.S_drewN | apply Kd.S_drew));exact (Kd.S_mono (Kd.S_far (p :=⟨gb207,2,none⟩) (Kd.S_far (p :=⟨gb207,1,none⟩) (Kd.S_far (p :=⟨gb207,0,none⟩) (Kd.S_types HO202.out BK207.out (by decide)) (fun _ hk => hk.2) (.int .i64 t203)) (fun _ hk => hk.2) (.int .i64 t204)) (fun _ hk => hk.2) (.bool t205)) (fun _ h_ => h_.1))) hb);have n4_ :=Aside0.mk (blk_below (g :=gb192) (o :=.cells #[.string t187,.slice Ao71 x193001_1.length co71] 28 (0,0)) (by (with_reducible repeat (first | refine blk_drewN ?_ _ | refine blk_drew ?_ | refine blk_alloc ?_ _));refine blk_far ?_ NB192_207.out _;(with_reducible repeat (first | refine blk_drewN ?_ _ | refine blk_drew ?_ | refine blk_alloc ?_ _));refine blk_far ?_ NB192_207.out _;(with_reducible repeat (first | refine blk_drewN ?_ _ | refine blk_drew ?_ | refine blk_alloc ?_ _));refine blk_far ?_ NB192_207.out _;(with_reducible repeat (first | refine blk_drewN ?_ _ | refine blk_drew ?_ | refine blk_alloc ?_ _));exact BK192.out) hb);have n5_ :=Aside0.mk (blk_below (g :=gb207) (o :=.cells #[.int .i64 t203,.int .i64 t204,.bool t205] 41 (0,0)) (by (with_reducible repeat (first | refine blk_drewN ?_ _ | refine blk_drew ?_ | refine blk_alloc ?_ _));refine blk_put (cs :=#[.int .i64 t203,.int .i64 t204,.bool false]) ?_ 2 _ rfl;(with_reducible repeat (first | refine blk_drewN ?_ _ | refine blk_drew ?_ | refine blk_alloc ?_ _));refine blk_put (cs :=#[.int .i64 t203,.int .i64 0,.bool false]) ?_ 1 _ rfl;(with_reducible repeat (first | refine blk_drewN ?_ _ | refine blk_drew ?_ | refine blk_alloc ?_ _));refine blk_put (cs :=#[.int .i64 0,.int .i64 0,.bool false]) ?_ 0 _ rfl;(with_reducible repeat (first | refine blk_drewN ?_ _ | refine blk_drew ?_ | refine blk_alloc ?_ _));exact BK207.out) hb);have n6_ :=Aside0.mk (below_step (by repeat (first | (with_reducible first | exact HB.out | apply below_alloc | apply pw_below_drewN | apply below_drew1 | refine below_set ?_ GE192.out | refine below_set ?_ GE207.out) | exact HB.out)) hb);clear HO_8;clear HO_9;clear HO_193001;clear HO202;clear BK192;clear BK207;clear HB;have HO_8 :=n0_;have HO_9 :=n1_;have HO_193001 :=n2_;have HO202 :=n3_;have BK192 :=n4_;have BK207 :=n5_;have HB :=n6_;clear n0_ n1_ n2_ n3_ n4_ n5_ n6_;(try clear hb);(try clear hb2);(try clear hk);(try clear hi);obtain ⟨Ao80,co80,eo80⟩ :=Kd.S_slice HO202.out;subst eo80))
        repeat (go_quiet (first | (go_at_call 7;(with_reducible refine (plan_Events.calls k1 t187 _ _ x193001_1 _ _ x8_1 _ _ x9_1 (wrap64 (a1)) t200 t203 t204 t205 t206 _ ?side1 ?side2 ?side3 ?side4 ?side5 ?side6 A28.out).mono ?_);(case side1 => repeat (first | exact (Kd.R_reads' HO_193001.out).2.2 | (with_reducible refine Kd.C_alloc ?_ _) | (with_reducible refine Kd.C_drewN ?_ _) | (with_reducible refine Kd.C_drew ?_)));(case side2 => exact (Kd.R_reads' HO_193001.out).2.1);(case side3 => repeat (first | exact (Kd.R_reads' HO_8.out).2.2 | (with_reducible refine Kd.C_alloc ?_ _) | (with_reducible refine Kd.C_drewN ?_ _) | (with_reducible refine Kd.C_drew ?_)));(case side4 => exact (Kd.R_reads' HO_8.out).2.1);(case side5 => repeat (first | exact (Kd.R_reads' HO_9.out).2.2 | (with_reducible refine Kd.C_alloc ?_ _) | (with_reducible refine Kd.C_drewN ?_ _) | (with_reducible refine Kd.C_drew ?_)));(case side6 => exact (Kd.R_reads' HO_9.out).2.1);rintro e w74 ⟨v201,rfl,ho0,hb⟩;have n0_ :=Aside0.mk (Kd.R_below (by (with_reducible repeat (first | apply Kd.R_alloc | apply Kd.R_drewN | apply Kd.R_drew));exact HO_8.out) hb);have n1_ :=Aside0.mk (Kd.R_below (by (with_reducible repeat (first | apply Kd.R_alloc | apply Kd.R_drewN | apply Kd.R_drew));exact HO_9.out) hb);have n2_ :=Aside0.mk (Kd.R_below (by (with_reducible repeat (first | apply Kd.R_alloc | apply Kd.R_drewN | apply Kd.R_drew));exact HO_193001.out) hb);have n3_ :=Aside0.mk (Kd.S_lower ho0 (below_size (by repeat (first | (with_reducible first | exact HB.out | apply below_alloc | apply pw_below_drewN | apply below_drew1 | refine below_set ?_ GE192.out) | exact HB.out))));have n4_ :=Aside0.mk (blk_below (g :=gb192) (o :=.cells #[.string t187,.slice Ao71 x193001_1.length co71] 28 (0,0)) (by (with_reducible repeat (first | refine blk_drewN ?_ _ | refine blk_drew ?_ | refine blk_alloc ?_ _));exact BK192.out) hb);have n5_ :=Aside0.mk (below_step (by repeat (first | (with_reducible first | exact HB.out | apply below_alloc | apply pw_below_drewN | apply below_drew1 | refine below_set ?_ GE192.out) | exact HB.out)) hb);clear HO_8;clear HO_9;clear HO_193001;clear BK192;clear HB;have HO_8 :=n0_;have HO_9 :=n1_;have HO_193001 :=n2_;have HO202 :=n3_;have BK192 :=n4_;have HB :=n5_;clear n0_ n1_ n2_ n3_ n4_ n5_;(try clear hb);(try clear hb2);(try clear hk);(try clear hi);(try clear ho0)) | ((with_reducible refine gate_dst (N :=12) rfl ?_);(try (refine gate_guard (by rfl) ?_;dsimp only));refine box_event ?hg (N :=12) ?hd (cs :=#[.int .i64 0,.int .i64 0,.bool false]) (t :=41) ?hr ?_;(case hd => rfl);(case hg => rfl);(case hr => first | (go_simp;done) | (go_simp;rfl));intro gb207 hg w75 hbox hb;have n0_ :=Aside0.mk (Kd.R_below (by (with_reducible repeat (first | apply Kd.R_alloc | apply Kd.R_drewN | apply Kd.R_drew));exact HO_8.out) hb);have n1_ :=Aside0.mk (Kd.R_below (by (with_reducible repeat (first | apply Kd.R_alloc | apply Kd.R_drewN | apply Kd.R_drew));exact HO_9.out) hb);have n2_ :=Aside0.mk (Kd.R_below (by (with_reducible repeat (first | apply Kd.R_alloc | apply Kd.R_drewN | apply Kd.R_drew));exact HO_193001.out) hb);have n3_ :=Aside0.mk (Kd.S_below (by (with_reducible repeat (first | apply Kd.S_alloc | apply Kd.S_drewN | apply Kd.S_drew));exact HO202.out) hb);have n4_ :=Aside0.mk (blk_below (g :=gb192) (o :=.cells #[.string t187,.slice Ao71 x193001_1.length co71] 28 (0,0)) (by (with_reducible repeat (first | refine blk_drewN ?_ _ | refine blk_drew ?_ | refine blk_alloc ?_ _));exact BK192.out) hb);have n5_ :=Aside0.mk (below_step (by repeat (first | (with_reducible first | exact HB.out | apply below_alloc | apply pw_below_drewN | apply below_drew1 | refine below_set ?_ GE192.out) | exact HB.out)) hb);have n6_ :=Aside0.mk (hbox);have n7_ :=Aside0.mk ((by rw [hg];exact (below_size (by repeat (first | (with_reducible first | exact HB.out | apply below_alloc | apply pw_below_drewN | apply below_drew1 | refine below_set ?_ GE192.out) | exact HB.out))) : w.heap.size ≤ gb207));have n8_ :=Aside0.mk ((by rw [hg];exact (below_size (by repeat (first | (with_reducible first | exact HB.out | apply below_alloc | apply pw_below_drewN | apply below_drew1 | refine below_set ?_ GE192.out) | exact HB.out))) : w.heap.size ≤ gb207));have n9_ :=Aside0.mk ((by rw [hg];exact Nat.ne_of_lt (blk_lt (g :=gb192) (o :=.cells #[.string t187,.slice Ao71 x193001_1.length co71] 28 (0,0)) (by (with_reducible repeat (first | refine blk_drewN ?_ _ | refine blk_drew ?_ | refine blk_alloc ?_ _));exact BK192.out)) : gb192 ≠ gb207));have n10_ :=Aside0.mk ((by rw [hg];exact Nat.ne_of_gt (blk_lt (g :=gb192) (o :=.cells #[.string t187,.slice Ao71 x193001_1.length co71] 28 (0,0)) (by (with_reducible repeat (first | refine blk_drewN ?_ _ | refine blk_drew ?_ | refine blk_alloc ?_ _));exact BK192.out)) : gb207 ≠ gb192));clear HO_8;clear HO_9;clear HO_193001;clear HO202;clear BK192;clear HB;have HO_8 :=n0_;have HO_9 :=n1_;have HO_193001 :=n2_;have HO202 :=n3_;have BK192 :=n4_;have HB :=n5_;have BK207 :=n6_;have GW207 :=n7_;have GE207 :=n8_;have NB192_207 :=n9_;have NB207_192 :=n10_;clear n0_ n1_ n2_ n3_ n4_ n5_ n6_ n7_ n8_ n9_ n10_;clear hb hbox hg;have hnb76 :=NB207_192.out;have hnc76 :=NB192_207.out;have hcz77_0 : w75.cell? ⟨gb207,0,none⟩ = some (.int .i64 0) :=(blk_cell BK207.out 0).trans rfl;have hcz77_1 : w75.cell? ⟨gb207,1,none⟩ = some (.int .i64 0) :=(blk_cell BK207.out 1).trans rfl;have hcz77_2 : w75.cell? ⟨gb207,2,none⟩ = some (.bool false) :=(blk_cell BK207.out 2).trans rfl;have hfz77_0 :=blk_frozen BK207.out 0;have hfz77_1 :=blk_frozen BK207.out 1;have hfz77_2 :=blk_frozen BK207.out 2;have hcz78_0 : w75.cell? ⟨gb192,0,none⟩ = some (.string t187) :=(blk_cell BK192.out 0).trans rfl;have hcz78_1 : w75.cell? ⟨gb192,1,none⟩ = some (.slice Ao71 x193001_1.length co71) :=(blk_cell BK192.out 1).trans rfl;have hfz78_0 :=blk_frozen BK192.out 0;have hfz78_1 :=blk_frozen BK192.out 1) | (go_at_call 8;(with_reducible refine (plan_MayCommit.calls t187 _ _ x193001_1 false _ ?side1 ?side2 A29.out).mono ?_);(case side1 => refine (Kd.R_reads' (e :=36) (base :=w.heap.size) (ok :=fun k_ => True) (n :=x193001_1.length) (c :=co71) ?_).2.2;exact (by (with_reducible repeat (first | apply Kd.R_alloc | apply Kd.R_drewN | apply Kd.R_drew));exact (Kd.R_mono (Kd.R_far (p :=⟨gb207,2,none⟩) (Kd.R_far (p :=⟨gb207,1,none⟩) (Kd.R_far (p :=⟨gb207,0,none⟩) (Kd.R_types HO_193001.out BK207.out (by decide)) (fun _ hk => hk.2) (.int .i64 t203)) (fun _ hk => hk.2) (.int .i64 t204)) (fun _ hk => hk.2) (.bool t205)) (fun _ h_ => h_.1))));(case side2 => exact (Kd.R_reads' HO_193001.out).2.1);rintro e w79 ⟨rfl,hb⟩;have n0_ :=Aside0.mk (Kd.R_below (by (with_reducible repeat (first | apply Kd.R_alloc | apply Kd.R_drewN | apply Kd.R_drew));exact (Kd.R_mono (Kd.R_far (p :=⟨gb207,2,none⟩) (Kd.R_far (p :=⟨gb207,1,none⟩) (Kd.R_far (p :=⟨gb207,0,none⟩) (Kd.R_types HO_8.out BK207.out (by decide)) (fun _ hk => hk.2) (.int .i64 t203)) (fun _ hk => hk.2) (.int .i64 t204)) (fun _ hk => hk.2) (.bool t205)) (fun _ h_ => h_.1))) hb);have n1_ :=Aside0.mk (Kd.R_below (by (with_reducible repeat (first | apply Kd.R_alloc | apply Kd.R_drewN | apply Kd.R_drew));exact (Kd.R_mono (Kd.R_far (p :=⟨gb207,2,none⟩) (Kd.R_far (p :=⟨gb207,1,none⟩) (Kd.R_far (p :=⟨gb207,0,none⟩) (Kd.R_types HO_9.out BK207.out (by decide)) (fun _ hk => hk.2) (.int .i64 t203)) (fun _ hk => hk.2) (.int .i64 t204)) (fun _ hk => hk.2) (.bool t205)) (fun _ h_ => h_.1))) hb);have n2_ :=Aside0.mk (Kd.R_below (by (with_reducible repeat (first | apply Kd.R_alloc | apply Kd.R_drewN | apply Kd.R_drew));exact (Kd.R_mono (Kd.R_far (p :=⟨gb207,2,none⟩) (Kd.R_far (p :=⟨gb207,1,none⟩) (Kd.R_far (p :=⟨gb207,0,none⟩) (Kd.R_types HO_193001.out BK207.out (by decide)) (fun _ hk => hk.2) (.int .i64 t203)) (fun _ hk => hk.2) (.int .i64 t204)) (fun _ hk => hk.2) (.bool t205)) (fun _ h_ => h_.1))) hb);have n3_ :=Aside0.mk (Kd.S_below (by (with_reducible repeat (first | apply Kd.S_alloc | apply Kd.S_drewN | apply Kd.S_drew));exact (Kd.S_mono (Kd.S_far (p :=⟨gb207,2,none⟩) (Kd.S_far (p :=⟨gb207,1,none⟩) (Kd.S_far (p :=⟨gb207,0,none⟩) (Kd.S_types HO202.out BK207.out (by decide)) (fun _ hk => hk.2) (.int .i64 t203)) (fun _ hk => hk.2) (.int .i64 t204)) (fun _ hk => hk.2) (.bool t205)) (fun _ h_ => h_.1))) hb);have n4_ :=Aside0.mk (blk_below (g :=gb192) (o :=.cells #[.string t187,.slice Ao71 x193001_1.length co71] 28 (0,0)) (by (with_reducible repeat (first | refine blk_drewN ?_ _ | refine blk_drew ?_ | refine blk_alloc ?_ _));refine blk_far ?_ NB192_207.out _;(with_reducible repeat (first | refine blk_drewN ?_ _ | refine blk_drew ?_ | refine blk_alloc ?_ _));refine blk_far ?_ NB192_207.out _;(with_reducible repeat (first | refine blk_drewN ?_ _ | refine blk_drew ?_ | refine blk_alloc ?_ _));refine blk_far ?_ NB192_207.out _;(with_reducible repeat (first | refine blk_drewN ?_ _ | refine blk_drew ?_ | refine blk_alloc ?_ _));exact BK192.out) hb);have n5_ :=Aside0.mk (blk_below (g :=gb207) (o :=.cells #[.int .i64 t203,.int .i64 t204,.bool t205] 41 (0,0)) (by (with_reducible repeat (first | refine blk_drewN ?_ _ | refine blk_drew ?_ | refine blk_alloc ?_ _));refine blk_put (cs :=#[.int .i64 t203,.int .i64 t204,.bool false]) ?_ 2 _ rfl;(with_reducible repeat (first | refine blk_drewN ?_ _ | refine blk_drew ?_ | refine blk_alloc ?_ _));refine blk_put (cs :=#[.int .i64 t203,.int .i64 0,.bool false]) ?_ 1 _ rfl;(with_reducible repeat (first | refine blk_drewN ?_ _ | refine blk_drew ?_ | refine blk_alloc ?_ _));refine blk_put (cs :=#[.int .i64 0,.int .i64 0,.bool false]) ?_ 0 _ rfl;(with_reducible repeat (first | refine blk_drewN ?_ _ | refine blk_drew ?_ | refine blk_alloc ?_ _));exact BK207.out) hb);have n6_ :=Aside0.mk (below_step (by repeat (first | (with_reducible first | exact HB.out | apply below_alloc | apply pw_below_drewN | apply below_drew1 | refine below_set ?_ GE192.out | refine below_set ?_ GE207.out) | exact HB.out)) hb);clear HO_8;clear HO_9;clear HO_193001;clear HO202;clear BK192;clear BK207;clear HB;have HO_8 :=n0_;have HO_9 :=n1_;have HO_193001 :=n2_;have HO202 :=n3_;have BK192 :=n4_;have BK207 :=n5_;have HB :=n6_;clear n0_ n1_ n2_ n3_ n4_ n5_ n6_;(try clear hb);(try clear hb2);(try clear hk);(try clear hi);obtain ⟨Ao80,co80,eo80⟩ :=Kd.S_slice HO202.out;subst eo80));try go_wp2_with (first | (go_at_call 7;(with_reducible refine (plan_Events.calls k1 t187 _ _ x193001_1 _ _ x8_1 _ _ x9_1 (wrap64 (a1)) t200 t203 t204 t205 t206 _ ?side1 ?side2 ?side3 ?side4 ?side5 ?side6 A28.out).mono ?_);(case side1 => repeat (first | exact (Kd.R_reads' HO_193001.out).2.2 | (with_reducible refine Kd.C_alloc ?_ _) | (with_reducible refine Kd.C_drewN ?_ _) | (with_reducible refine Kd.C_drew ?_)));(case side2 => exact (Kd.R_reads' HO_193001.out).2.1);(case side3 => repeat (first | exact (Kd.R_reads' HO_8.out).2.2 | (with_reducible refine Kd.C_alloc ?_ _) | (with_reducible refine Kd.C_drewN ?_ _) | (with_reducible refine Kd.C_drew ?_)));(case side4 => exact (Kd.R_reads' HO_8.out).2.1);(case side5 => repeat (first | exact (Kd.R_reads' HO_9.out).2.2 | (with_reducible refine Kd.C_alloc ?_ _) | (with_reducible refine Kd.C_drewN ?_ _) | (with_reducible refine Kd.C_drew ?_)));(case side6 => exact (Kd.R_reads' HO_9.out).2.1);rintro e w74 ⟨v201,rfl,ho0,hb⟩;have n0_ :=Aside0.mk (Kd.R_below (by (with_reducible repeat (first | apply Kd.R_alloc | apply Kd.R_drewN | apply Kd.R_drew));exact HO_8.out) hb);have n1_ :=Aside0.mk (Kd.R_below (by (with_reducible repeat (first | apply Kd.R_alloc | apply Kd.R_drewN | apply Kd.R_drew));exact HO_9.out) hb);have n2_ :=Aside0.mk (Kd.R_below (by (with_reducible repeat (first | apply Kd.R_alloc | apply Kd.R_drewN | apply Kd.R_drew));exact HO_193001.out) hb);have n3_ :=Aside0.mk (Kd.S_lower ho0 (below_size (by repeat (first | (with_reducible first | exact HB.out | apply below_alloc | apply pw_below_drewN | apply below_drew1 | refine below_set ?_ GE192.out) | exact HB.out))));have n4_ :=Aside0.mk (blk_below (g :=gb192) (o :=.cells #[.string t187,.slice Ao71 x193001_1.length co71] 28 (0,0)) (by (with_reducible repeat (first | refine blk_drewN ?_ _ | refine blk_drew ?_ | refine blk_alloc ?_ _));exact BK192.out) hb);have n5_ :=Aside0.mk (below_step (by repeat (first | (with_reducible first | exact HB.out | apply below_alloc | apply pw_below_drewN | apply below_drew1 | refine below_set ?_ GE192.out) | exact HB.out)) hb);clear HO_8;clear HO_9;clear HO_193001;clear BK192;clear HB;have HO_8 :=n0_;have HO_9 :=n1_;have HO_193001 :=n2_;have HO202 :=n3_;have BK192 :=n4_;have HB :=n5_;clear n0_ n1_ n2_ n3_ n4_ n5_;(try clear hb);(try clear hb2);(try clear hk);(try clear hi);(try clear ho0)) | ((with_reducible refine gate_dst (N :=12) rfl ?_);(try (refine gate_guard (by rfl) ?_;dsimp only));refine box_event ?hg (N :=12) ?hd (cs :=#[.int .i64 0,.int .i64 0,.bool false]) (t :=41) ?hr ?_;(case hd => rfl);(case hg => rfl);(case hr => first | (go_simp;done) | (go_simp;rfl));intro gb207 hg w75 hbox hb;have n0_ :=Aside0.mk (Kd.R_below (by (with_reducible repeat (first | apply Kd.R_alloc | apply Kd.R_drewN | apply Kd.R_drew));exact HO_8.out) hb);have n1_ :=Aside0.mk (Kd.R_below (by (with_reducible repeat (first | apply Kd.R_alloc | apply Kd.R_drewN | apply Kd.R_drew));exact HO_9.out) hb);have n2_ :=Aside0.mk (Kd.R_below (by (with_reducible repeat (first | apply Kd.R_alloc | apply Kd.R_drewN | apply Kd.R_drew));exact HO_193001.out) hb);have n3_ :=Aside0.mk (Kd.S_below (by (with_reducible repeat (first | apply Kd.S_alloc | apply Kd.S_drewN | apply Kd.S_drew));exact HO202.out) hb);have n4_ :=Aside0.mk (blk_below (g :=gb192) (o :=.cells #[.string t187,.slice Ao71 x193001_1.length co71] 28 (0,0)) (by (with_reducible repeat (first | refine blk_drewN ?_ _ | refine blk_drew ?_ | refine blk_alloc ?_ _));exact BK192.out) hb);have n5_ :=Aside0.mk (below_step (by repeat (first | (with_reducible first | exact HB.out | apply below_alloc | apply pw_below_drewN | apply below_drew1 | refine below_set ?_ GE192.out) | exact HB.out)) hb);have n6_ :=Aside0.mk (hbox);have n7_ :=Aside0.mk ((by rw [hg];exact (below_size (by repeat (first | (with_reducible first | exact HB.out | apply below_alloc | apply pw_below_drewN | apply below_drew1 | refine below_set ?_ GE192.out) | exact HB.out))) : w.heap.size ≤ gb207));have n8_ :=Aside0.mk ((by rw [hg];exact (below_size (by repeat (first | (with_reducible first | exact HB.out | apply below_alloc | apply pw_below_drewN | apply below_drew1 | refine below_set ?_ GE192.out) | exact HB.out))) : w.heap.size ≤ gb207));have n9_ :=Aside0.mk ((by rw [hg];exact Nat.ne_of_lt (blk_lt (g :=gb192) (o :=.cells #[.string t187,.slice Ao71 x193001_1.length co71] 28 (0,0)) (by (with_reducible repeat (first | refine blk_drewN ?_ _ | refine blk_drew ?_ | refine blk_alloc ?_ _));exact BK192.out)) : gb192 ≠ gb207));have n10_ :=Aside0.mk ((by rw [hg];exact Nat.ne_of_gt (blk_lt (g :=gb192) (o :=.cells #[.string t187,.slice Ao71 x193001_1.length co71] 28 (0,0)) (by (with_reducible repeat (first | refine blk_drewN ?_ _ | refine blk_drew ?_ | refine blk_alloc ?_ _));exact BK192.out)) : gb207 ≠ gb192));clear HO_8;clear HO_9;clear HO_193001;clear HO202;clear BK192;clear HB;have HO_8 :=n0_;have HO_9 :=n1_;have HO_193001 :=n2_;have HO202 :=n3_;have BK192 :=n4_;have HB :=n5_;have BK207 :=n6_;have GW207 :=n7_;have GE207 :=n8_;have NB192_207 :=n9_;have NB207_192 :=n10_;clear n0_ n1_ n2_ n3_ n4_ n5_ n6_ n7_ n8_ n9_ n10_;clear hb hbox hg;have hnb76 :=NB207_192.out;have hnc76 :=NB192_207.out;have hcz77_0 : w75.cell? ⟨gb207,0,none⟩ = some (.int .i64 0) :=(blk_cell BK207.out 0).trans rfl;have hcz77_1 : w75.cell? ⟨gb207,1,none⟩ = some (.int .i64 0) :=(blk_cell BK207.out 1).trans rfl;have hcz77_2 : w75.cell? ⟨gb207,2,none⟩ = some (.bool false) :=(blk_cell BK207.out 2).trans rfl;have hfz77_0 :=blk_frozen BK207.out 0;have hfz77_1 :=blk_frozen BK207.out 1;have hfz77_2 :=blk_frozen BK207.out 2;have hcz78_0 : w75.cell? ⟨gb192,0,none⟩ = some (.string t187) :=(blk_cell BK192.out 0).trans rfl;have hcz78_1 : w75.cell? ⟨gb192,1,none⟩ = some (.slice Ao71 x193001_1.length co71) :=(blk_cell BK192.out 1).trans rfl;have hfz78_0 :=blk_frozen BK192.out 0;have hfz78_1 :=blk_frozen BK192.out 1) | (go_at_call 8;(with_reducible refine (plan_MayCommit.calls t187 _ _ x193001_1 false _ ?side1 ?side2 A29.out).mono ?_);(case side1 => refine (Kd.R_reads' (e :=36) (base :=w.heap.size) (ok :=fun k_ => True) (n :=x193001_1.length) (c :=co71) ?_).2.2;exact (by (with_reducible repeat (first | apply Kd.R_alloc | apply Kd.R_drewN | apply Kd.R_drew));exact (Kd.R_mono (Kd.R_far (p :=⟨gb207,2,none⟩) (Kd.R_far (p :=⟨gb207,1,none⟩) (Kd.R_far (p :=⟨gb207,0,none⟩) (Kd.R_types HO_193001.out BK207.out (by decide)) (fun _ hk => hk.2) (.int .i64 t203)) (fun _ hk => hk.2) (.int .i64 t204)) (fun _ hk => hk.2) (.bool t205)) (fun _ h_ => h_.1))));(case side2 => exact (Kd.R_reads' HO_193001.out).2.1);rintro e w79 ⟨rfl,hb⟩;have n0_ :=Aside0.mk (Kd.R_below (by (with_reducible repeat (first | apply Kd.R_alloc | apply Kd.R_drewN | apply Kd.R_drew));exact (Kd.R_mono (Kd.R_far (p :=⟨gb207,2,none⟩) (Kd.R_far (p :=⟨gb207,1,none⟩) (Kd.R_far (p :=⟨gb207,0,none⟩) (Kd.R_types HO_8.out BK207.out (by decide)) (fun _ hk => hk.2) (.int .i64 t203)) (fun _ hk => hk.2) (.int .i64 t204)) (fun _ hk => hk.2) (.bool t205)) (fun _ h_ => h_.1))) hb);have n1_ :=Aside0.mk (Kd.R_below (by (with_reducible repeat (first | apply Kd.R_alloc | apply Kd.R_drewN | apply Kd.R_drew));exact (Kd.R_mono (Kd.R_far (p :=⟨gb207,2,none⟩) (Kd.R_far (p :=⟨gb207,1,none⟩) (Kd.R_far (p :=⟨gb207,0,none⟩) (Kd.R_types HO_9.out BK207.out (by decide)) (fun _ hk => hk.2) (.int .i64 t203)) (fun _ hk => hk.2) (.int .i64 t204)) (fun _ hk => hk.2) (.bool t205)) (fun _ h_ => h_.1))) hb);have n2_ :=Aside0.mk (Kd.R_below (by (with_reducible repeat (first | apply Kd.R_alloc | apply Kd.R_drewN | apply Kd.R_drew));exact (Kd.R_mono (Kd.R_far (p :=⟨gb207,2,none⟩) (Kd.R_far (p :=⟨gb207,1,none⟩) (Kd.R_far (p :=⟨gb207,0,none⟩) (Kd.R_types HO_193001.out BK207.out (by decide)) (fun _ hk => hk.2) (.int .i64 t203)) (fun _ hk => hk.2) (.int .i64 t204)) (fun _ hk => hk.2) (.bool t205)) (fun _ h_ => h_.1))) hb);have n3_ :=Aside0.mk (Kd.S_below (by (with_reducible repeat (first | apply Kd.S_alloc | apply Kd.S_drewN | apply Kd.S_drew));exact (Kd.S_mono (Kd.S_far (p :=⟨gb207,2,none⟩) (Kd.S_far (p :=⟨gb207,1,none⟩) (Kd.S_far (p :=⟨gb207,0,none⟩) (Kd.S_types HO202.out BK207.out (by decide)) (fun _ hk => hk.2) (.int .i64 t203)) (fun _ hk => hk.2) (.int .i64 t204)) (fun _ hk => hk.2) (.bool t205)) (fun _ h_ => h_.1))) hb);have n4_ :=Aside0.mk (blk_below (g :=gb192) (o :=.cells #[.string t187,.slice Ao71 x193001_1.length co71] 28 (0,0)) (by (with_reducible repeat (first | refine blk_drewN ?_ _ | refine blk_drew ?_ | refine blk_alloc ?_ _));refine blk_far ?_ NB192_207.out _;(with_reducible repeat (first | refine blk_drewN ?_ _ | refine blk_drew ?_ | refine blk_alloc ?_ _));refine blk_far ?_ NB192_207.out _;(with_reducible repeat (first | refine blk_drewN ?_ _ | refine blk_drew ?_ | refine blk_alloc ?_ _));refine blk_far ?_ NB192_207.out _;(with_reducible repeat (first | refine blk_drewN ?_ _ | refine blk_drew ?_ | refine blk_alloc ?_ _));exact BK192.out) hb);have n5_ :=Aside0.mk (blk_below (g :=gb207) (o :=.cells #[.int .i64 t203,.int .i64 t204,.bool t205] 41 (0,0)) (by (with_reducible repeat (first | refine blk_drewN ?_ _ | refine blk_drew ?_ | refine blk_alloc ?_ _));refine blk_put (cs :=#[.int .i64 t203,.int .i64 t204,.bool false]) ?_ 2 _ rfl;(with_reducible repeat (first | refine blk_drewN ?_ _ | refine blk_drew ?_ | refine blk_alloc ?_ _));refine blk_put (cs :=#[.int .i64 t203,.int .i64 0,.bool false]) ?_ 1 _ rfl;(with_reducible repeat (first | refine blk_drewN ?_ _ | refine blk_drew ?_ | refine blk_alloc ?_ _));refine blk_put (cs :=#[.int .i64 0,.int .i64 0,.bool false]) ?_ 0 _ rfl;(with_reducible repeat (first | refine blk_drewN ?_ _ | refine blk_drew ?_ | refine blk_alloc ?_ _));exact BK207.out) hb);have n6_ :=Aside0.mk (below_step (by repeat (first | (with_reducible first | exact HB.out | apply below_alloc | apply pw_below_drewN | apply below_drew1 | refine below_set ?_ GE192.out | refine below_set ?_ GE207.out) | exact HB.out)) hb);clear HO_8;clear HO_9;clear HO_193001;clear HO202;clear BK192;clear BK207;clear HB;have HO_8 :=n0_;have HO_9 :=n1_;have HO_193001 :=n2_;have HO202 :=n3_;have BK192 :=n4_;have BK207 :=n5_;have HB :=n6_;clear n0_ n1_ n2_ n3_ n4_ n5_ n6_;(try clear hb);(try clear hb2);(try clear hk);(try clear hi);obtain ⟨Ao80,co80,eo80⟩ :=Kd.S_slice HO202.out;subst eo80)))
        go_ret
        exact ⟨by first | rfl | (simp [errW_none,errW_some] <;> rfl) | (simp [*,errW_none,errW_some] <;> rfl),by repeat (first | (with_reducible first | exact HB.out | apply below_alloc | apply pw_below_drewN | apply below_drew1 | refine below_set ?_ GE192.out | refine below_set ?_ GE207.out) | exact HB.out)⟩
       ·rw [if_neg c69] at H
        exact absurd H (by simp)
 ·replace c5 :=Bool.eq_false_iff.mpr c5
  subst c5
  have H1 : (none) = some r :=by rw [if_neg (show ¬ (false = true) by decide)] at H;exact H
  clear H
  have H :=H1
  clear H1
  exact absurd H (by simp)
/-- THE ONE PURE STATEMENT of pandectlaw17_PlanRises: yours. -/
def pandectlaw17_PlanRises.Pure : Prop :=∀ (l0 : List Int) (a1 : Int) (a2 : Int),l0.length ≤ maxLen → l0.length * 1 ≤ 140737488351232 → (∀ x ∈ l0,(Lit.int .u8 x).wf = true) → (Lit.int .u32 a1).wf = true → (Lit.int .u16 a2).wf = true → ∃ k,pandectlaw17_PlanRises.f k l0 a1 a2 = some true
theorem pandectlaw17_PlanRises.walk (P : pandectlaw17_PlanRises.Pure) (a0 : Option Addr) (len0 cap0 : Nat) (z0 : List Int) (a1 : Int) (a2 : Int) (w : World) (w0 : (a0 = none ∧ len0 = 0 ∧ cap0 = 0 ∧ z0 = []) ∨ ∃ x,a0 = some x ∧ len0 ≤ cap0 ∧ cap0 ≤ maxLen ∧ z0.length = cap0 ∧ (∀ i,i < z0.length → w.cell? (x.add i) = some (.int .u8 (z0.getD i 0))) ∧ ∀ n ∈ z0,(Lit.int .u8 n).wf = true) (y0 : len0 * 1 ≤ 140737488351232) (w1 : (Lit.int .u32 a1).wf = true) (w2 : (Lit.int .u16 a2).wf = true) :
  Calls Try.prog 3 #[.slice a0 len0 cap0,.int .u32 a1,.int .u16 a2] w fun e w' => e = .returned (.bool true) ∧ Below w.heap.size w w' :=by
 obtain ⟨l0,rfl,hr0,hm0,hw0,hc0⟩ :=ReadsInt.ofRowC w0
 obtain ⟨k,h⟩ :=P l0 a1 a2 hm0 y0 hw0 w1 w2
 refine (pandectlaw17_PlanRises.calls k _ _ l0 a1 a2 true w (Kd.C_of_reads (d :=(0 : Int)) (h1 :=fun _ => rfl) hr0) hc0 h).mono ?_
 rintro e w' ⟨rfl,hd⟩
 exact ⟨rfl,hd⟩
end Go.Proofs.Ytfelkchmeiijfaa.P2
