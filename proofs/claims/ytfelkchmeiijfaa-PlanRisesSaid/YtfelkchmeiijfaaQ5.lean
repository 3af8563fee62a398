-- Written for this claim by a program, out of the translation.
import Derived.Test.YtfelkchmeiijfaaQ0
import Derived.Test.YtfelkchmeiijfaaQ4
namespace Go.Proofs.Ytfelkchmeiijfaa.P2
open Go.RowKit Go.Proofs.YtfelkchmeiijfaaW.PrintWords Go.Proofs.YtfelkchmeiijfaaW.PrintLast Go.Proofs.YtfelkchmeiijfaaW.PrintMore
attribute [local go_sem] max2_int min2_int max_two min_two max_three min_three max_four min_four
set_option linter.unusedVariables false
set_option linter.unusedSimpArgs false
/-! ### plan_Events: function 7 -/
mutual
def plan_Events.j0 : Nat → List (S38) → List Bool → Int → Bool → ByteArray → List (S36) → Option ((List (S47)) × Int × Int × Bool × Int)
 | 0,_,_,_,_,_,_ => none
 | k + 1,x1,x2,x3,x35,x165000,x165001 => if x35 = true then (some (([] : List (S47)),0,0,false,1)) else (plan_Events.l0 k x1 x2 x3 ([] : List (S47)) x165001 (x165001.length : Int) 0)
def plan_Events.l0 : Nat → List (S38) → List Bool → Int → List (S47) → List (S36) → Int → Int → Option ((List (S47)) × Int × Int × Bool × Int)
 | 0,_,_,_,_,_,_,_ => none
 | k + 1,x1,x2,x3,x11,x38,x39,x40 => if x40 < x39 then (if 0 ≤ x40 then (if x40 < (x38.length : Int) then (if x40 < (x1.length : Int) then (if (rd_T38 x1 x40).f2 = true then (some (([] : List (S47)),0,0,false,7)) else (if x40 < (x2.length : Int) then ((plan_wrong.f ((rd_T36 x38 x40).f1) ((rd_T38 x1 x40).f0) ((rd_T38 x1 x40).f1) ((rd_T38 x1 x40).f2) (rdOf false x2 x40)).bind fun t172 => (if t172 = true then (some (([] : List (S47)),0,0,false,6)) else (if rdOf false x2 x40 = true then (plan_Events.j2 k x1 x2 x3 x11 ((rd_T38 x1 x40).f0) x38 x39 x40 ((rd_T36 x38 x40).f0) ((rd_T36 x38 x40).f1) ((rd_T36 x38 x40).f2)) else (plan_Events.j2 k x1 x2 x3 x11 0 x38 x39 x40 ((rd_T36 x38 x40).f0) ((rd_T36 x38 x40).f1) ((rd_T36 x38 x40).f2))))) else (none))) else (none)) else (none)) else (none)) else (if x3 > (wrap64 (9223372036854775807 - (x11.length : Int))) then (some (([] : List (S47)),0,0,false,9)) else (some (x11,x3,(x11.length : Int),false,0)))
def plan_Events.j2 : Nat → List (S38) → List Bool → Int → List (S47) → Int → List (S36) → Int → Int → ByteArray → Int → List (S49) → Option ((List (S47)) × Int × Int × Bool × Int)
 | 0,_,_,_,_,_,_,_,_,_,_,_ => none
 | k + 1,x1,x2,x3,x11,x14,x38,x39,x40,x169000,x169001,x169002 => plan_Events.l1 k x1 x2 x3 x11 x14 x38 x39 x40 x169002 (x169002.length : Int) 0 x169000 x169001 x169002
def plan_Events.l1 : Nat → List (S38) → List Bool → Int → List (S47) → Int → List (S36) → Int → Int → List (S49) → Int → Int → ByteArray → Int → List (S49) → Option ((List (S47)) × Int × Int × Bool × Int)
 | 0,_,_,_,_,_,_,_,_,_,_,_,_,_,_ => none
 | k + 1,x1,x2,x3,x11,x14,x38,x39,x40,x75,x76,x77,x169000,x169001,x169002 => if x77 < x76 then (if 0 ≤ x77 then (if x77 < (x75.length : Int) then ((slices_Clone_byte_byte.f ((rd_T49 x75 x77).f1)).bind fun t177 => (if x11.length < 1954687338268 then (plan_Events.l1 k x1 x2 x3 (x11 ++ [(⟨wrap64 (x3 + (x11.length : Int)),x169000,x14,(rd_T49 x75 x77).f0,t177⟩ : S47)]) (wrap64 (x14 + 1)) x38 x39 x40 x75 x76 (wrap64 (x77 + 1)) x169000 x169001 x169002) else (none))) else (none)) else (none)) else (plan_Events.l0 k x1 x2 x3 x11 x38 x39 (wrap64 (x40 + 1)))
end
def plan_Events.f (k : Nat) (a0_0 : ByteArray) (l0_1 : List (S36)) (l1 : List (S38)) (l2 : List Bool) (a3 : Int) : Option ((List (S47)) × Int × Int × Bool × Int) :=(plan_MayCommit.f a0_0 l0_1).bind fun t166 => (if t166 = true then (if (l1.length : Int) = (l0_1.length : Int) then (plan_Events.j0 k l1 l2 a3 ((l2.length : Int) != (l0_1.length : Int)) a0_0 l0_1) else (plan_Events.j0 k l1 l2 a3 true a0_0 l0_1)) else (plan_Events.j0 k l1 l2 a3 true a0_0 l0_1))
theorem plan_Events.mono_l : ∀ k,(∀ y0 y1 y2 y3 y4 y5,LeO (plan_Events.j0 k y0 y1 y2 y3 y4 y5) (plan_Events.j0 (k + 1) y0 y1 y2 y3 y4 y5)) ∧ (∀ y0 y1 y2 y3 y4 y5 y6,LeO (plan_Events.l0 k y0 y1 y2 y3 y4 y5 y6) (plan_Events.l0 (k + 1) y0 y1 y2 y3 y4 y5 y6)) ∧ (∀ y0 y1 y2 y3 y4 y5 y6 y7 y8 y9 y10,LeO (plan_Events.j2 k y0 y1 y2 y3 y4 y5 y6 y7 y8 y9 y10) (plan_Events.j2 (k + 1) y0 y1 y2 y3 y4 y5 y6 y7 y8 y9 y10)) ∧ (∀ y0 y1 y2 y3 y4 y5 y6 y7 y8 y9 y10 y11 y12 y13,LeO (plan_Events.l1 k y0 y1 y2 y3 y4 y5 y6 y7 y8 y9 y10 y11 y12 y13) (plan_Events.l1 (k + 1) y0 y1 y2 y3 y4 y5 y6 y7 y8 y9 y10 y11 y12 y13))
 | 0 => ⟨fun _ _ _ _ _ _ r h => by simp [plan_Events.j0] at h,fun _ _ _ _ _ _ _ r h => by simp [plan_Events.l0] at h,fun _ _ _ _ _ _ _ _ _ _ _ r h => by simp [plan_Events.j2] at h,fun _ _ _ _ _ _ _ _ _ _ _ _ _ _ r h => by simp [plan_Events.l1] at h⟩
 | k + 1 => by
  obtain ⟨ih0,ih1,ih2,ih3⟩ :=plan_Events.mono_l k
  refine ⟨?_,?_,?_,?_⟩
  ·intro y0 y1 y2 y3 y4 y5
   unfold plan_Events.j0
   repeat' first
   | (with_reducible exact ih0 _ _ _ _ _ _)
   | (with_reducible exact ih1 _ _ _ _ _ _ _)
   | (with_reducible exact ih2 _ _ _ _ _ _ _ _ _ _ _)
   | (with_reducible exact ih3 _ _ _ _ _ _ _ _ _ _ _ _ _ _)
   | (with_reducible exact LeO.refl _)
   | (with_reducible exact LeO.none _)
   | (with_reducible refine LeO.ite ?_ ?_)
   | (with_reducible refine LeO.bind ?_ (fun _ => ?_))
   | exact ih0 _ _ _ _ _ _
   | exact ih1 _ _ _ _ _ _ _
   | exact ih2 _ _ _ _ _ _ _ _ _ _ _
   | exact ih3 _ _ _ _ _ _ _ _ _ _ _ _ _ _
   | exact LeO.none _
   | refine LeO.ite ?_ ?_
   | refine LeO.bind ?_ (fun _ => ?_)
  ·intro y0 y1 y2 y3 y4 y5 y6
   unfold plan_Events.l0
   repeat' first
   | (with_reducible exact ih0 _ _ _ _ _ _)
   | (with_reducible exact ih1 _ _ _ _ _ _ _)
   | (with_reducible exact ih2 _ _ _ _ _ _ _ _ _ _ _)
   | (with_reducible exact ih3 _ _ _ _ _ _ _ _ _ _ _ _ _ _)
   | (with_reducible exact LeO.refl _)
   | (with_reducible exact LeO.none _)
   | (with_reducible refine LeO.ite ?_ ?_)
   | (with_reducible refine LeO.bind ?_ (fun _ => ?_))
   | exact ih0 _ _ _ _ _ _
   | exact ih1 _ _ _ _ _ _ _
   | exact ih2 _ _ _ _ _ _ _ _ _ _ _
   | exact ih3 _ _ _ _ _ _ _ _ _ _ _ _ _ _
   | exact LeO.none _
   | refine LeO.ite ?_ ?_
   | refine LeO.bind ?_ (fun _ => ?_)
  ·intro y0 y1 y2 y3 y4 y5 y6 y7 y8 y9 y10
   unfold plan_Events.j2
   repeat' first
   | (with_reducible exact ih0 _ _ _ _ _ _)
   | (with_reducible exact ih1 _ _ _ _ _ _ _)
   | (with_reducible exact ih2 _ _ _ _ _ _ _ _ _ _ _)
   | (with_reducible exact ih3 _ _ _ _ _ _ _ _ _ _ _ _ _ _)
   | (with_reducible exact LeO.refl _)
   | (with_reducible exact LeO.none _)
   | (with_reducible refine LeO.ite ?_ ?_)
   | (with_reducible refine LeO.bind ?_ (fun _ => ?_))
   | exact ih0 _ _ _ _ _ _
   | exact ih1 _ _ _ _ _ _ _
   | exact ih2 _ _ _ _ _ _ _ _ _ _ _
   | exact ih3 _ _ _ _ _ _ _ _ _ _ _ _ _ _
   | exact LeO.none _
   | refine LeO.ite ?_ ?_
   | refine LeO.bind ?_ (fun _ => ?_)
  ·intro y0 y1 y2 y3 y4 y5 y6 y7 y8 y9 y10 y11 y12 y13
   unfold plan_Events.l1
   repeat' first
   | (with_reducible exact ih0 _ _ _ _ _ _)
   | (with_reducible exact ih1 _ _ _ _ _ _ _)
   | (with_reducible exact ih2 _ _ _ _ _ _ _ _ _ _ _)
   | (with_reducible exact ih3 _ _ _ _ _ _ _ _ _ _ _ _ _ _)
   | (with_reducible exact LeO.refl _)
   | (with_reducible exact LeO.none _)
   | (with_reducible refine LeO.ite ?_ ?_)
   | (with_reducible refine LeO.bind ?_ (fun _ => ?_))
   | exact ih0 _ _ _ _ _ _
   | exact ih1 _ _ _ _ _ _ _
   | exact ih2 _ _ _ _ _ _ _ _ _ _ _
   | exact ih3 _ _ _ _ _ _ _ _ _ _ _ _ _ _
   | exact LeO.none _
   | refine LeO.ite ?_ ?_
   | refine LeO.bind ?_ (fun _ => ?_)
theorem plan_Events.mono : ∀ a0 a1 a2 a3 a4 k,LeO (plan_Events.f k a0 a1 a2 a3 a4) (plan_Events.f (k + 1) a0 a1 a2 a3 a4) :=by
 intro a0 a1 a2 a3 a4 k
 obtain ⟨ih0,ih1,ih2,ih3⟩ :=plan_Events.mono_l k
 unfold plan_Events.f
 repeat' first
   | (with_reducible exact ih0 _ _ _ _ _ _)
   | (with_reducible exact ih1 _ _ _ _ _ _ _)
   | (with_reducible exact ih2 _ _ _ _ _ _ _ _ _ _ _)
   | (with_reducible exact ih3 _ _ _ _ _ _ _ _ _ _ _ _ _ _)
   | (with_reducible exact LeO.refl _)
   | (with_reducible exact LeO.none _)
   | (with_reducible refine LeO.ite ?_ ?_)
   | (with_reducible refine LeO.bind ?_ (fun _ => ?_))
   | exact ih0 _ _ _ _ _ _
   | exact ih1 _ _ _ _ _ _ _
   | exact ih2 _ _ _ _ _ _ _ _ _ _ _
   | exact ih3 _ _ _ _ _ _ _ _ _ _ _ _ _ _
   | exact LeO.none _
   | refine LeO.ite ?_ ?_
   | refine LeO.bind ?_ (fun _ => ?_)
def plan_Events.T9 : Bool × List (List Nat × List Nat) :=(true,[([],[]),([0],[0]),([],[]),([],[]),([2,3],[2,3]),([4],[4]),([],[]),([],[]),([6,7],[6,7]),([8],[8]),([1,5,9],[1,5,9]),([10,10],[10])])
def plan_Events.B9 : List Nat :=[0,1,0,0,12,28,0,0,192,448,1023,2047]
theorem plan_Events.tab9 : rtab .any (opsOf Try.f7 9) = plan_Events.T9 :=by kernel_rfl
theorem plan_Events.bits9 : waitsOk plan_Events.T9.2 plan_Events.B9 = true :=by kernel_rfl
def plan_Events.T17 : Bool × List (List Nat × List Nat) :=(true,[([],[]),([],[]),([],[]),([2],[2]),([1,3],[1,3]),([],[]),([5],[5]),([],[]),([],[]),([8],[8]),([],[]),([10],[10]),([11],[11]),([4,6,7,9,12],[4,6,7,9,12]),([13],[13]),([0,14,12],[0,14]),([15,15,0,1,2,3,4,5,6,7,8,9,10,11,12,13,14,15],[0,2,15])])
def plan_Events.B17 : List Nat :=[0,0,0,4,14,0,32,0,0,256,0,1024,3072,8190,16382,32767,65535]
theorem plan_Events.tab17 : rtab .any (opsOf Try.f7 17) = plan_Events.T17 :=by kernel_rfl
theorem plan_Events.bits17 : waitsOk plan_Events.T17.2 plan_Events.B17 = true :=by kernel_rfl
set_option maxHeartbeats 8000000 in
set_option maxRecDepth 100000 in
theorem plan_Events.calls (k : Nat) (a0_0 : ByteArray) (A0_1 : Option Addr) (c0_1 : Nat) (l0_1 : List (S36)) (A1 : Option Addr) (c1 : Nat) (l1 : List (S38)) (A2 : Option Addr) (c2 : Nat) (l2 : List Bool) (a3 : Int) (r1 : List (S47)) (r2 : Int) (r3 : Int) (r4 : Bool) (r5 : Int) (w : World) (hr0_1 : Kd.C k36 w A0_1 l0_1.length l0_1) (hc0_1 : l0_1.length ≤ c0_1) (hr1 : Kd.C k38 w A1 l1.length l1) (hc1 : l1.length ≤ c1) (hr2 : Kd.C Kd.bool w A2 l2.length l2) (hc2 : l2.length ≤ c2) (h : plan_Events.f k a0_0 l0_1 l1 l2 a3 = some (r1,r2,r3,r4,r5)) :
  Calls Try.prog 7 #[.agg #[.string a0_0,.slice A0_1 l0_1.length c0_1],.slice A1 l1.length c1,.slice A2 l2.length c2,.int .i64 a3] w fun e w' => ∃ v0_ : Value,e = .returned (.tuple #[v0_,.agg #[.int .i64 r2,.int .i64 r3,.bool r4],.int .i64 r5]) ∧ Kd.S k47 47 w' w.heap.size (fun _ => True) v0_ r1 ∧ Below w.heap.size w w' :=by
 have hu28 :=Try.underlying28
 have hu41 :=Try.underlying41
 have hu36 :=Try.underlying36
 have hu38 :=Try.underlying38
 have hu49 :=Try.underlying49
 have hu47 :=Try.underlying47
 have HR0_1 :=Aside0.mk hr0_1
 have HC0_1 :=Aside0.mk hc0_1
 clear hr0_1 hc0_1
 have HR1 :=Aside0.mk hr1
 have HC1 :=Aside0.mk hc1
 clear hr1 hc1
 have HR2 :=Aside0.mk hr2
 have HC2 :=Aside0.mk hc2
 clear hr2 hc2
 have HB :=Aside0.mk (Below.refl w.heap.size w)
 have H : ((plan_MayCommit.f a0_0 l0_1).bind fun t166 => (if t166 = true then (if (l1.length : Int) = (l0_1.length : Int) then (plan_Events.j0 k l1 l2 a3 ((l2.length : Int) != (l0_1.length : Int)) a0_0 l0_1) else (plan_Events.j0 k l1 l2 a3 true a0_0 l0_1)) else (plan_Events.j0 k l1 l2 a3 true a0_0 l0_1))) = some (r1,r2,r3,r4,r5) :=h
 clear h
 have HC5 :=Aside0.mk H
 clear H
 go_enter Try.func7,Try.ntmps7
 go_upto_region 1 with (first | ((with_reducible refine gate_dst (N :=4) rfl ?_);(try (refine gate_guard (by rfl) ?_;dsimp only));refine box_event ?hg (N :=4) ?hd (cs :=#[.string a0_0,.slice A0_1 l0_1.length c0_1]) (t :=28) ?hr ?_;(case hd => rfl);(case hg => rfl);(case hr => first | (go_simp;done) | (go_simp;rfl));intro gb164 hg w6 hbox hb;have n0_ :=Aside0.mk (below_step (by repeat (first | (with_reducible first | exact HB.out | apply below_alloc | apply pw_below_drewN | apply below_drew1) | exact HB.out)) hb);have n1_ :=Aside0.mk (hbox);have n2_ :=Aside0.mk ((by rw [hg];exact (below_size (by repeat (first | (with_reducible first | exact HB.out | apply below_alloc | apply pw_below_drewN | apply below_drew1) | exact HB.out))) : w.heap.size ≤ gb164));have n3_ :=Aside0.mk ((by rw [hg];exact (below_size (by repeat (first | (with_reducible first | exact HB.out | apply below_alloc | apply pw_below_drewN | apply below_drew1) | exact HB.out))) : w.heap.size ≤ gb164));clear HB;have HB :=n0_;have BK164 :=n1_;have GW164 :=n2_;have GE164 :=n3_;clear n0_ n1_ n2_ n3_;clear hb hbox hg) | ((with_reducible refine gate_dst (N :=9) rfl ?_);(try (refine gate_guard (by rfl) ?_;dsimp only));refine box_event ?hg (N :=9) ?hd (cs :=#[.int .i64 0,.int .i64 0,.bool false]) (t :=41) ?hr ?_;(case hd => rfl);(case hg => rfl);(case hr => first | (go_simp;done) | (go_simp;rfl));intro gb165 hg w7 hbox hb;have n0_ :=Aside0.mk (blk_below (g :=gb164) (o :=.cells #[.string a0_0,.slice A0_1 l0_1.length c0_1] 28 (0,0)) (by (with_reducible repeat (first | refine blk_drewN ?_ _ | refine blk_drew ?_ | refine blk_alloc ?_ _));exact BK164.out) hb);have n1_ :=Aside0.mk (below_step (by repeat (first | (with_reducible first | exact HB.out | apply below_alloc | apply pw_below_drewN | apply below_drew1 | refine below_set ?_ GE164.out) | exact HB.out)) hb);have n2_ :=Aside0.mk (hbox);have n3_ :=Aside0.mk ((by rw [hg];exact (below_size (by repeat (first | (with_reducible first | exact HB.out | apply below_alloc | apply pw_below_drewN | apply below_drew1 | refine below_set ?_ GE164.out) | exact HB.out))) : w.heap.size ≤ gb165));have n4_ :=Aside0.mk ((by rw [hg];exact (below_size (by repeat (first | (with_reducible first | exact HB.out | apply below_alloc | apply pw_below_drewN | apply below_drew1 | refine below_set ?_ GE164.out) | exact HB.out))) : w.heap.size ≤ gb165));have n5_ :=Aside0.mk ((by rw [hg];exact Nat.ne_of_lt (blk_lt (g :=gb164) (o :=.cells #[.string a0_0,.slice A0_1 l0_1.length c0_1] 28 (0,0)) (by (with_reducible repeat (first | refine blk_drewN ?_ _ | refine blk_drew ?_ | refine blk_alloc ?_ _));exact BK164.out)) : gb164 ≠ gb165));have n6_ :=Aside0.mk ((by rw [hg];exact Nat.ne_of_gt (blk_lt (g :=gb164) (o :=.cells #[.string a0_0,.slice A0_1 l0_1.length c0_1] 28 (0,0)) (by (with_reducible repeat (first | refine blk_drewN ?_ _ | refine blk_drew ?_ | refine blk_alloc ?_ _));exact BK164.out)) : gb165 ≠ gb164));clear BK164;clear HB;have BK164 :=n0_;have HB :=n1_;have BK165 :=n2_;have GW165 :=n3_;have GE165 :=n4_;have NB164_165 :=n5_;have NB165_164 :=n6_;clear n0_ n1_ n2_ n3_ n4_ n5_ n6_;clear hb hbox hg))
 (try simp only [Act.put,List.setIfInBounds_toArray,List.set_cons_zero,List.set_cons_succ])
 go_cut [35] (fun v35 wc => ∃ (kq : Nat) (x35_4 : Bool),v35 = .bool x35_4 ∧ Aside0 (plan_Events.j0 kq l1 l2 a3 x35_4 a0_0 l0_1 = some (r1,r2,r3,r4,r5)) ∧ Aside0 (kq ≤ k) ∧ Aside0 (wc.heap[gb164]? = some (.cells #[.string a0_0,(.slice A0_1 l0_1.length c0_1)] 28 (0,0))) ∧ Aside0 (wc.heap[gb165]? = some (.cells #[.int .i64 0,.int .i64 0,.bool false] 41 (0,0))) ∧ Aside0 (Below w.heap.size w wc))
 case first =>
  have H :=HC5.out
  clear HC5
  replace H :=Option.bind_eq_some_iff.mp H
  obtain ⟨t166,A80,H⟩ :=H
  replace H : (if t166 = true then (if (l1.length : Int) = (l0_1.length : Int) then (plan_Events.j0 k l1 l2 a3 ((l2.length : Int) != (l0_1.length : Int)) a0_0 l0_1) else (plan_Events.j0 k l1 l2 a3 true a0_0 l0_1)) else (plan_Events.j0 k l1 l2 a3 true a0_0 l0_1)) = some (r1,r2,r3,r4,r5) :=H
  have A8 :=Aside0.mk A80
  clear A80
  by_cases c9 : t166 = true
  ·subst c9
   have H1 : (if (l1.length : Int) = (l0_1.length : Int) then (plan_Events.j0 k l1 l2 a3 ((l2.length : Int) != (l0_1.length : Int)) a0_0 l0_1) else (plan_Events.j0 k l1 l2 a3 true a0_0 l0_1)) = some (r1,r2,r3,r4,r5) :=by rw [if_pos rfl] at H;exact H
   clear H
   have H :=H1
   clear H1
   by_cases c10 : (l1.length : Int) = (l0_1.length : Int)
   ·rw [if_pos c10] at H
    have c10b0 : ((l1.length : Int) == (l0_1.length : Int)) = true :=beq_iff_eq.mpr c10
    have c10b1 : ((l1.length : Int) != (l0_1.length : Int)) = false :=bne_eq_false_iff_eq.mpr c10
    have c10b2 : (l1.length == l0_1.length) = true :=by first | simpa using c10 | (simp at c10 ⊢;omega)
    clear c10
    (first | rw [c10b0] | (simp only [i64_w,i32_w];rw [c10b0]) | skip)
    have H' :=Aside0.mk H
    clear H
    have hnb11 :=NB164_165.out
    have hnc11 :=NB165_164.out
    have hcz12_0 : w7.cell? ⟨gb164,0,none⟩ = some (.string a0_0) :=(blk_cell BK164.out 0).trans rfl
    have hcz12_1 : w7.cell? ⟨gb164,1,none⟩ = some (.slice A0_1 l0_1.length c0_1) :=(blk_cell BK164.out 1).trans rfl
    have hfz12_0 :=blk_frozen BK164.out 0
    have hfz12_1 :=blk_frozen BK164.out 1
    go_wp2_with (first | ((with_reducible refine gate_callee (f :=8) rfl ?_);refine goesL_ (some 18) rfl rfl Try.func8 (by kernel_rfl) rfl #[.agg #[.string a0_0,.slice A0_1 l0_1.length c0_1]] rfl (by (try simp only [List.map_toArray,List.map_cons,List.map_nil]);first | done | rfl | (simp only [List.length_drop,List.length_take];rfl)) ?_;(with_reducible refine (plan_MayCommit.calls a0_0 _ _ l0_1 true _ ?side1 ?side2 A8.out).mono ?_);(case side1 => repeat (first | exact (Kd.C_below HR0_1.out HB.out) | (with_reducible refine Kd.C_alloc ?_ _) | (with_reducible refine Kd.C_drewN ?_ _) | (with_reducible refine Kd.C_drew ?_)));(case side2 => exact HC0_1.out);rintro e w13 ⟨rfl,hb⟩;refine ⟨_,rfl,?_⟩;have n0_ :=Aside0.mk (blk_below (g :=gb164) (o :=.cells #[.string a0_0,.slice A0_1 l0_1.length c0_1] 28 (0,0)) (by (with_reducible repeat (first | refine blk_drewN ?_ _ | refine blk_drew ?_ | refine blk_alloc ?_ _));exact BK164.out) hb);have n1_ :=Aside0.mk (blk_below (g :=gb165) (o :=.cells #[.int .i64 0,.int .i64 0,.bool false] 41 (0,0)) (by (with_reducible repeat (first | refine blk_drewN ?_ _ | refine blk_drew ?_ | refine blk_alloc ?_ _));exact BK165.out) hb);have n2_ :=Aside0.mk (below_step (by repeat (first | (with_reducible first | exact HB.out | apply below_alloc | apply pw_below_drewN | apply below_drew1 | refine below_set ?_ GE164.out | refine below_set ?_ GE165.out) | exact HB.out)) hb);clear BK164;clear BK165;clear HB;have BK164 :=n0_;have BK165 :=n1_;have HB :=n2_;clear n0_ n1_ n2_;(try clear hb);(try clear hb2);(try clear hk);(try clear hi);have hcz14_0 : w13.cell? ⟨gb164,0,none⟩ = some (.string a0_0) :=(blk_cell BK164.out 0).trans rfl;have hcz14_1 : w13.cell? ⟨gb164,1,none⟩ = some (.slice A0_1 l0_1.length c0_1) :=(blk_cell BK164.out 1).trans rfl;have hfz14_0 :=blk_frozen BK164.out 0;have hfz14_1 :=blk_frozen BK164.out 1))
    go_meet
    case rel => exact ⟨_,(((l2.length : Int) != (l0_1.length : Int))),(by first | rfl | (simp;done) | (simp [*];done)),H',⟨by first | omega | exact Nat.le_refl _⟩,⟨by (with_reducible repeat (first | refine blk_drewN ?_ _ | refine blk_drew ?_ | refine blk_alloc ?_ _));exact BK164.out⟩,⟨by (with_reducible repeat (first | refine blk_drewN ?_ _ | refine blk_drew ?_ | refine blk_alloc ?_ _));exact BK165.out⟩,⟨by repeat (first | (with_reducible first | exact HB.out | apply below_alloc | apply pw_below_drewN | apply below_drew1 | refine below_set ?_ GE164.out | refine below_set ?_ GE165.out) | exact HB.out)⟩⟩
   ·rw [if_neg c10] at H
    have c10b0 : ((l1.length : Int) == (l0_1.length : Int)) = false :=beq_eq_false_iff_ne.mpr c10
    have c10b1 : ((l1.length : Int) != (l0_1.length : Int)) = true :=bne_iff_ne.mpr c10
    have c10b2 : (l1.length == l0_1.length) = false :=by first | simpa using c10 | (simp at c10 ⊢;omega)
    (first | rw [c10b0] | (simp only [i64_w,i32_w];rw [c10b0]) | skip)
    have H' :=Aside0.mk H
    clear H
    have hnb15 :=NB164_165.out
    have hnc15 :=NB165_164.out
    have hcz16_0 : w7.cell? ⟨gb164,0,none⟩ = some (.string a0_0) :=(blk_cell BK164.out 0).trans rfl
    have hcz16_1 : w7.cell? ⟨gb164,1,none⟩ = some (.slice A0_1 l0_1.length c0_1) :=(blk_cell BK164.out 1).trans rfl
    have hfz16_0 :=blk_frozen BK164.out 0
    have hfz16_1 :=blk_frozen BK164.out 1
    go_wp2_with (first | ((with_reducible refine gate_callee (f :=8) rfl ?_);refine goesL_ (some 18) rfl rfl Try.func8 (by kernel_rfl) rfl #[.agg #[.string a0_0,.slice A0_1 l0_1.length c0_1]] rfl (by (try simp only [List.map_toArray,List.map_cons,List.map_nil]);first | done | rfl | (simp only [List.length_drop,List.length_take];rfl)) ?_;(with_reducible refine (plan_MayCommit.calls a0_0 _ _ l0_1 true _ ?side1 ?side2 A8.out).mono ?_);(case side1 => repeat (first | exact (Kd.C_below HR0_1.out HB.out) | (with_reducible refine Kd.C_alloc ?_ _) | (with_reducible refine Kd.C_drewN ?_ _) | (with_reducible refine Kd.C_drew ?_)));(case side2 => exact HC0_1.out);rintro e w17 ⟨rfl,hb⟩;refine ⟨_,rfl,?_⟩;have n0_ :=Aside0.mk (blk_below (g :=gb164) (o :=.cells #[.string a0_0,.slice A0_1 l0_1.length c0_1] 28 (0,0)) (by (with_reducible repeat (first | refine blk_drewN ?_ _ | refine blk_drew ?_ | refine blk_alloc ?_ _));exact BK164.out) hb);have n1_ :=Aside0.mk (blk_below (g :=gb165) (o :=.cells #[.int .i64 0,.int .i64 0,.bool false] 41 (0,0)) (by (with_reducible repeat (first | refine blk_drewN ?_ _ | refine blk_drew ?_ | refine blk_alloc ?_ _));exact BK165.out) hb);have n2_ :=Aside0.mk (below_step (by repeat (first | (with_reducible first | exact HB.out | apply below_alloc | apply pw_below_drewN | apply below_drew1 | refine below_set ?_ GE164.out | refine below_set ?_ GE165.out) | exact HB.out)) hb);clear BK164;clear BK165;clear HB;have BK164 :=n0_;have BK165 :=n1_;have HB :=n2_;clear n0_ n1_ n2_;(try clear hb);(try clear hb2);(try clear hk);(try clear hi);have hcz18_0 : w17.cell? ⟨gb164,0,none⟩ = some (.string a0_0) :=(blk_cell BK164.out 0).trans rfl;have hcz18_1 : w17.cell? ⟨gb164,1,none⟩ = some (.slice A0_1 l0_1.length c0_1) :=(blk_cell BK164.out 1).trans rfl;have hfz18_0 :=blk_frozen BK164.out 0;have hfz18_1 :=blk_frozen BK164.out 1))
    go_meet
    case rel => exact ⟨_,(true),(by first | rfl | (simp;done) | (simp [*];done)),H',⟨by first | omega | exact Nat.le_refl _⟩,⟨by (with_reducible repeat (first | refine blk_drewN ?_ _ | refine blk_drew ?_ | refine blk_alloc ?_ _));exact BK164.out⟩,⟨by (with_reducible repeat (first | refine blk_drewN ?_ _ | refine blk_drew ?_ | refine blk_alloc ?_ _));exact BK165.out⟩,⟨by repeat (first | (with_reducible first | exact HB.out | apply below_alloc | apply pw_below_drewN | apply below_drew1 | refine below_set ?_ GE164.out | refine below_set ?_ GE165.out) | exact HB.out)⟩⟩
  ·replace c9 :=Bool.eq_false_iff.mpr c9
   subst c9
   have H1 : (plan_Events.j0 k l1 l2 a3 true a0_0 l0_1) = some (r1,r2,r3,r4,r5) :=by rw [if_neg (show ¬ (false = true) by decide)] at H;exact H
   clear H
   have H :=H1
   clear H1
   have H' :=Aside0.mk H
   clear H
   have hnb19 :=NB164_165.out
   have hnc19 :=NB165_164.out
   have hcz20_0 : w7.cell? ⟨gb164,0,none⟩ = some (.string a0_0) :=(blk_cell BK164.out 0).trans rfl
   have hcz20_1 : w7.cell? ⟨gb164,1,none⟩ = some (.slice A0_1 l0_1.length c0_1) :=(blk_cell BK164.out 1).trans rfl
   have hfz20_0 :=blk_frozen BK164.out 0
   have hfz20_1 :=blk_frozen BK164.out 1
   go_wp2_with (first | ((with_reducible refine gate_callee (f :=8) rfl ?_);refine goesL_ (some 18) rfl rfl Try.func8 (by kernel_rfl) rfl #[.agg #[.string a0_0,.slice A0_1 l0_1.length c0_1]] rfl (by (try simp only [List.map_toArray,List.map_cons,List.map_nil]);first | done | rfl | (simp only [List.length_drop,List.length_take];rfl)) ?_;(with_reducible refine (plan_MayCommit.calls a0_0 _ _ l0_1 false _ ?side1 ?side2 A8.out).mono ?_);(case side1 => repeat (first | exact (Kd.C_below HR0_1.out HB.out) | (with_reducible refine Kd.C_alloc ?_ _) | (with_reducible refine Kd.C_drewN ?_ _) | (with_reducible refine Kd.C_drew ?_)));(case side2 => exact HC0_1.out);rintro e w21 ⟨rfl,hb⟩;refine ⟨_,rfl,?_⟩;have n0_ :=Aside0.mk (blk_below (g :=gb164) (o :=.cells #[.string a0_0,.slice A0_1 l0_1.length c0_1] 28 (0,0)) (by (with_reducible repeat (first | refine blk_drewN ?_ _ | refine blk_drew ?_ | refine blk_alloc ?_ _));exact BK164.out) hb);have n1_ :=Aside0.mk (blk_below (g :=gb165) (o :=.cells #[.int .i64 0,.int .i64 0,.bool false] 41 (0,0)) (by (with_reducible repeat (first | refine blk_drewN ?_ _ | refine blk_drew ?_ | refine blk_alloc ?_ _));exact BK165.out) hb);have n2_ :=Aside0.mk (below_step (by repeat (first | (with_reducible first | exact HB.out | apply below_alloc | apply pw_below_drewN | apply below_drew1 | refine below_set ?_ GE164.out | refine below_set ?_ GE165.out) | exact HB.out)) hb);clear BK164;clear BK165;clear HB;have BK164 :=n0_;have BK165 :=n1_;have HB :=n2_;clear n0_ n1_ n2_;(try clear hb);(try clear hb2);(try clear hk);(try clear hi)))
   go_meet
   case rel => exact ⟨_,(true),(by first | rfl | (simp;done) | (simp [*];done)),H',⟨by first | omega | exact Nat.le_refl _⟩,⟨by (with_reducible repeat (first | refine blk_drewN ?_ _ | refine blk_drew ?_ | refine blk_alloc ?_ _));exact BK164.out⟩,⟨by (with_reducible repeat (first | refine blk_drewN ?_ _ | refine blk_drew ?_ | refine blk_alloc ?_ _));exact BK165.out⟩,⟨by repeat (first | (with_reducible first | exact HB.out | apply below_alloc | apply pw_below_drewN | apply below_drew1 | refine below_set ?_ GE164.out | refine below_set ?_ GE165.out) | exact HB.out)⟩⟩
 case rest =>
  clear HC5
  try clear c1
  try clear c2
  try clear p2
  try clear c7
  try clear c8
  try clear c9
  try clear c10
  try clear c10b0
  try clear c10b1
  try clear c10b2
  try clear c11
  try clear c15
  try clear c19
  try clear hcz12_0
  try clear hcz12_1
  try clear hcz14_0
  try clear hcz14_1
  try clear hcz16_0
  try clear hcz16_1
  try clear hcz18_0
  try clear hcz18_1
  try clear hcz20_0
  try clear hcz20_1
  try clear hfz12_0
  try clear hfz12_1
  try clear hfz14_0
  try clear hfz14_1
  try clear hfz16_0
  try clear hfz16_1
  try clear hfz18_0
  try clear hfz18_1
  try clear hfz20_0
  try clear hfz20_1
  obtain ⟨kq,x35_4,rfl,HA,HJ4,BK164,BK165,HB⟩ :=hcut
  cases kq with
  | zero => exact absurd HA.out (by simp [plan_Events.j0])
  | succ kj4 =>
   have H :=HA.out
   clear HA
   simp only [plan_Events.j0] at H
   by_cases c22 : x35_4 = true
   ·subst c22
    have H1 : (some (([] : List (S47)),0,0,false,1)) = some (r1,r2,r3,r4,r5) :=by rw [if_pos rfl] at H;exact H
    clear H
    have H :=H1
    clear H1
    simp only [Option.some.injEq,Prod.mk.injEq] at H
    obtain ⟨rfl,rfl,rfl,rfl,rfl⟩ :=H
    have hnb23 :=NB165_164.out
    have hnc23 :=NB164_165.out
    have hcz24_0 : wc.cell? ⟨gb165,0,none⟩ = some (.int .i64 0) :=(blk_cell BK165.out 0).trans rfl
    have hcz24_1 : wc.cell? ⟨gb165,1,none⟩ = some (.int .i64 0) :=(blk_cell BK165.out 1).trans rfl
    have hcz24_2 : wc.cell? ⟨gb165,2,none⟩ = some (.bool false) :=(blk_cell BK165.out 2).trans rfl
    have hfz24_0 :=blk_frozen BK165.out 0
    have hfz24_1 :=blk_frozen BK165.out 1
    have hfz24_2 :=blk_frozen BK165.out 2
    go_wp2
    refine bodyPost_ret (results_list (rs :=[.tmp 8,.cell 9 41,.tmp 10]) rfl (by simp) (.tmp (.cell gb165 41 #[.int .i64 0,.int .i64 0,.bool false] (0,0) _ rfl (by (with_reducible repeat (first | refine blk_drewN ?_ _ | refine blk_drew ?_ | refine blk_alloc ?_ _));refine blk_put (cs :=#[.int .i64 0,.int .i64 0,.bool false]) ?_ 2 _ rfl;(with_reducible repeat (first | refine blk_drewN ?_ _ | refine blk_drew ?_ | refine blk_alloc ?_ _));refine blk_put (cs :=#[.int .i64 0,.int .i64 0,.bool false]) ?_ 1 _ rfl;(with_reducible repeat (first | refine blk_drewN ?_ _ | refine blk_drew ?_ | refine blk_alloc ?_ _));refine blk_put (cs :=#[.int .i64 0,.int .i64 0,.bool false]) ?_ 0 _ rfl;(with_reducible repeat (first | refine blk_drewN ?_ _ | refine blk_drew ?_ | refine blk_alloc ?_ _));exact BK165.out) Try.underlying41 rfl (by kernel_rfl) (.tmp .nil)))) rfl ?_
    exact ⟨_,by first | rfl | (simp [errW_none,errW_some] <;> rfl) | (simp [*,errW_none,errW_some] <;> rfl),by first | exact Kd.S_nil _ _ _ _ _ | exact Kd.N_nil _ _ _ _ _ | exact Kd.V_nil _ _ _ _ _ | exact Kd.Q_nil _ _ _ _ _ | exact Kd.R_nil _ _ _ _ _,by repeat (first | (with_reducible first | exact HB.out | apply below_alloc | apply pw_below_drewN | apply below_drew1 | refine below_set ?_ GE164.out | refine below_set ?_ GE165.out) | exact HB.out)⟩
   ·replace c22 :=Bool.eq_false_iff.mpr c22
    subst c22
    have H1 : (plan_Events.l0 kj4 l1 l2 a3 ([] : List (S47)) l0_1 (l0_1.length : Int) 0) = some (r1,r2,r3,r4,r5) :=by rw [if_neg (show ¬ (false = true) by decide)] at H;exact H
    clear H
    have H :=H1
    clear H1
    have H' :=Aside0.mk H
    clear H
    have hnb25 :=NB164_165.out
    have hnc25 :=NB165_164.out
    have hcz26_0 : wc.cell? ⟨gb164,0,none⟩ = some (.string a0_0) :=(blk_cell BK164.out 0).trans rfl
    have hcz26_1 : wc.cell? ⟨gb164,1,none⟩ = some (.slice A0_1 l0_1.length c0_1) :=(blk_cell BK164.out 1).trans rfl
    have hfz26_0 :=blk_frozen BK164.out 0
    have hfz26_1 :=blk_frozen BK164.out 1
    go_wp2
    go_loopg [11,40] kj4 (fun kq v11 v40 w' => ∃ (x11_2 : List (S47)) (x40_2 : Int) (x166000_2 : Int) (x166001_2 : Int) (x166002_2 : Bool),v40 = .int .i64 x40_2 ∧ Aside0 (plan_Events.l0 kq l1 l2 a3 x11_2 l0_1 (l0_1.length : Int) x40_2 = some (r1,r2,r3,r4,r5)) ∧ Aside0 (kq ≤ kj4) ∧ Aside0 (Kd.S k47 47 w' w.heap.size (fun _ => True) v11 x11_2) ∧ Aside0 (w'.heap[gb164]? = some (.cells #[.string a0_0,(.slice A0_1 l0_1.length c0_1)] 28 (0,0))) ∧ Aside0 (w'.heap[gb165]? = some (.cells #[.int .i64 x166000_2,.int .i64 x166001_2,.bool x166002_2] 41 (0,0))) ∧ Aside0 (Below w.heap.size w w'))
    case atStart => exact ⟨(([] : List (S47))),(0),(0),(0),(false),(by first | rfl | (simp;done) | (simp [*];done)),H',⟨Nat.le_refl _⟩,⟨by first | exact Kd.S_nil _ _ _ _ _ | exact Kd.N_nil _ _ _ _ _ | exact Kd.V_nil _ _ _ _ _ | exact Kd.Q_nil _ _ _ _ _ | exact Kd.R_nil _ _ _ _ _⟩,⟨by (with_reducible repeat (first | refine blk_drewN ?_ _ | refine blk_drew ?_ | refine blk_alloc ?_ _));exact BK164.out⟩,⟨by (with_reducible repeat (first | refine blk_drewN ?_ _ | refine blk_drew ?_ | refine blk_alloc ?_ _));exact BK165.out⟩,⟨by repeat (first | (with_reducible first | exact HB.out | apply below_alloc | apply pw_below_drewN | apply below_drew1 | refine below_set ?_ GE164.out | refine below_set ?_ GE165.out) | exact HB.out)⟩⟩
    case round =>
     clear H'
     try clear c1
     try clear c2
     try clear p2
     try clear c7
     try clear c8
     try clear c9
     try clear c10
     try clear c10b0
     try clear c10b1
     try clear c10b2
     try clear c11
     try clear c15
     try clear c19
     try clear c22
     try clear c23
     try clear c25
     try clear hcz12_0
     try clear hcz12_1
     try clear hcz14_0
     try clear hcz14_1
     try clear hcz16_0
     try clear hcz16_1
     try clear hcz18_0
     try clear hcz18_1
     try clear hcz20_0
     try clear hcz20_1
     try clear hcz24_0
     try clear hcz24_1
     try clear hcz24_2
     try clear hcz26_0
     try clear hcz26_1
     try clear hfz12_0
     try clear hfz12_1
     try clear hfz14_0
     try clear hfz14_1
     try clear hfz16_0
     try clear hfz16_1
     try clear hfz18_0
     try clear hfz18_1
     try clear hfz20_0
     try clear hfz20_1
     try clear hfz24_0
     try clear hfz24_1
     try clear hfz24_2
     try clear hfz26_0
     try clear hfz26_1
     try clear p2
     obtain ⟨x11_2,x40_2,x166000_2,x166001_2,x166002_2,rfl,HA,HK2,HO_11,BK164,BK165,HB⟩ :=hrel
     cases gk with
     | zero => exact absurd HA.out (by simp [plan_Events.l0])
     | succ k2 =>
      have H :=HA.out
      clear HA
      simp only [plan_Events.l0] at H
      by_cases c27 : x40_2 < (l0_1.length : Int)
      ·rw [if_pos c27] at H
       have c27b0 : decide (x40_2 < (l0_1.length : Int)) = true :=decide_eq_true c27
       clear c27
       by_cases c28 : 0 ≤ x40_2
       ·rw [if_pos c28] at H
        have c28b0 : decide (0 ≤ x40_2) = true :=decide_eq_true c28
        clear c28
        by_cases c29 : x40_2 < (l0_1.length : Int)
        ·rw [if_pos c29] at H
         have c29b0 : decide (x40_2 < (l0_1.length : Int)) = true :=decide_eq_true c29
         clear c29
         by_cases c30 : x40_2 < (l1.length : Int)
         ·rw [if_pos c30] at H
          have c30b0 : decide (x40_2 < (l1.length : Int)) = true :=decide_eq_true c30
          clear c30
          obtain ⟨bq31,hbq31⟩ : ∃ b_ : Bool,b_ = ((rd_T38 l1 x40_2).f2) :=⟨_,rfl⟩
          replace H : (if bq31 = true then (some (([] : List (S47)),0,0,false,7)) else (if x40_2 < (l2.length : Int) then ((plan_wrong.f ((rd_T36 l0_1 x40_2).f1) ((rd_T38 l1 x40_2).f0) ((rd_T38 l1 x40_2).f1) (bq31) (rdOf false l2 x40_2)).bind fun t172 => (if t172 = true then (some (([] : List (S47)),0,0,false,6)) else (if rdOf false l2 x40_2 = true then (plan_Events.j2 k2 l1 l2 a3 x11_2 ((rd_T38 l1 x40_2).f0) l0_1 (l0_1.length : Int) x40_2 ((rd_T36 l0_1 x40_2).f0) ((rd_T36 l0_1 x40_2).f1) ((rd_T36 l0_1 x40_2).f2)) else (plan_Events.j2 k2 l1 l2 a3 x11_2 0 l0_1 (l0_1.length : Int) x40_2 ((rd_T36 l0_1 x40_2).f0) ((rd_T36 l0_1 x40_2).f1) ((rd_T36 l0_1 x40_2).f2))))) else (none))) = some (r1,r2,r3,r4,r5) :=by rw [← hbq31] at H;exact H
          have Nbq31 :=Aside0.mk hbq31
          clear hbq31
          by_cases c32 : bq31 = true
          ·subst c32
           have H1 : (some (([] : List (S47)),0,0,false,7)) = some (r1,r2,r3,r4,r5) :=by rw [if_pos rfl] at H;exact H
           clear H
           have H :=H1
           clear H1
           simp only [Option.some.injEq,Prod.mk.injEq] at H
           obtain ⟨rfl,rfl,rfl,rfl,rfl⟩ :=H
           have p167 : 0 ≤ (x40_2 : Int) :=of_decide_eq_true (by first | (with_reducible assumption) | assumption)
           have q167 : x40_2 < (l0_1.length : Int) :=of_decide_eq_true (by first | (with_reducible assumption) | assumption)
           obtain ⟨ad167,A167_2,c167_2,e167,hx167_0,hx167_1,hx167_2,hl167_2,hi167_2⟩ :=at_T36 HR0_1.out x40_2 p167 q167
           cases e167
           replace hx167_0 :=(HB.out.cell (World.block_lt_of_cell? w _ hx167_0)).trans hx167_0
           replace hx167_1 :=(HB.out.cell (World.block_lt_of_cell? w _ hx167_1)).trans hx167_1
           replace hx167_2 :=(HB.out.cell (World.block_lt_of_cell? w _ hx167_2)).trans hx167_2
           have HR167_2 :=Aside0.mk hi167_2
           have HC167_2 :=Aside0.mk hl167_2
           clear hi167_2 hl167_2
           replace p167 :=eq_true p167
           replace q167 :=eq_true q167
           go_wp2_with (first | ((with_reducible refine gate_dst (N :=13) rfl ?_);(try (refine gate_guard (by rfl) ?_;dsimp only));refine box_event ?hg (N :=13) ?hd (cs :=#[.string (⟨#[]⟩ : ByteArray),.int .i64 0,.slice none 0 0]) (t :=36) ?hr ?_;(case hd => rfl);(case hg => rfl);(case hr => first | (go_simp;done) | (go_simp;rfl));intro gb168 hg w33 hbox hb;have n0_ :=Aside0.mk (Kd.S_below (by (with_reducible repeat (first | apply Kd.S_alloc | apply Kd.S_drewN | apply Kd.S_drew));exact HO_11.out) hb);have n1_ :=Aside0.mk (blk_below (g :=gb164) (o :=.cells #[.string a0_0,.slice (some ad167) l0_1.length c0_1] 28 (0,0)) (by (with_reducible repeat (first | refine blk_drewN ?_ _ | refine blk_drew ?_ | refine blk_alloc ?_ _));exact BK164.out) hb);have n2_ :=Aside0.mk (blk_below (g :=gb165) (o :=.cells #[.int .i64 x166000_2,.int .i64 x166001_2,.bool x166002_2] 41 (0,0)) (by (with_reducible repeat (first | refine blk_drewN ?_ _ | refine blk_drew ?_ | refine blk_alloc ?_ _));exact BK165.out) hb);have n3_ :=Aside0.mk (below_step (by repeat (first | (with_reducible first | exact HB.out | apply below_alloc | apply pw_below_drewN | apply below_drew1 | refine below_set ?_ GE164.out | refine below_set ?_ GE165.out) | exact HB.out)) hb);have n4_ :=Aside0.mk (hbox);have n5_ :=Aside0.mk ((by rw [hg];exact (below_size (by repeat (first | (with_reducible first | exact HB.out | apply below_alloc | apply pw_below_drewN | apply below_drew1 | refine below_set ?_ GE164.out | refine below_set ?_ GE165.out) | exact HB.out))) : w.heap.size ≤ gb168));have n6_ :=Aside0.mk ((by rw [hg];exact (below_size (by repeat (first | (with_reducible first | exact HB.out | apply below_alloc | apply pw_below_drewN | apply below_drew1 | refine below_set ?_ GE164.out | refine below_set ?_ GE165.out) | exact HB.out))) : w.heap.size ≤ gb168));have n7_ :=Aside0.mk ((by rw [hg];exact Nat.ne_of_lt (blk_lt (g :=gb164) (o :=.cells #[.string a0_0,.slice (some ad167) l0_1.length c0_1] 28 (0,0)) (by (with_reducible repeat (first | refine blk_drewN ?_ _ | refine blk_drew ?_ | refine blk_alloc ?_ _));exact BK164.out)) : gb164 ≠ gb168));have n8_ :=Aside0.mk ((by rw [hg];exact Nat.ne_of_gt (blk_lt (g :=gb164) (o :=.cells #[.string a0_0,.slice (some ad167) l0_1.length c0_1] 28 (0,0)) (by (with_reducible repeat (first | refine blk_drewN ?_ _ | refine blk_drew ?_ | refine blk_alloc ?_ _));exact BK164.out)) : gb168 ≠ gb164));have n9_ :=Aside0.mk ((by rw [hg];exact Nat.ne_of_lt (blk_lt (g :=gb165) (o :=.cells #[.int .i64 x166000_2,.int .i64 x166001_2,.bool x166002_2] 41 (0,0)) (by (with_reducible repeat (first | refine blk_drewN ?_ _ | refine blk_drew ?_ | refine blk_alloc ?_ _));exact BK165.out)) : gb165 ≠ gb168));have n10_ :=Aside0.mk ((by rw [hg];exact Nat.ne_of_gt (blk_lt (g :=gb165) (o :=.cells #[.int .i64 x166000_2,.int .i64 x166001_2,.bool x166002_2] 41 (0,0)) (by (with_reducible repeat (first | refine blk_drewN ?_ _ | refine blk_drew ?_ | refine blk_alloc ?_ _));exact BK165.out)) : gb168 ≠ gb165));clear HO_11;clear BK164;clear BK165;clear HB;have HO_11 :=n0_;have BK164 :=n1_;have BK165 :=n2_;have HB :=n3_;have BK168 :=n4_;have GW168 :=n5_;have GE168 :=n6_;have NB164_168 :=n7_;have NB168_164 :=n8_;have NB165_168 :=n9_;have NB168_165 :=n10_;clear n0_ n1_ n2_ n3_ n4_ n5_ n6_ n7_ n8_ n9_ n10_;clear hb hbox hg;have hnb34 :=NB168_164.out;have hnc34 :=NB164_168.out;have hnb35 :=NB168_165.out;have hnc35 :=NB165_168.out;have hcz36_0 : w33.cell? ⟨gb168,0,none⟩ = some (.string (⟨#[]⟩ : ByteArray)) :=(blk_cell BK168.out 0).trans rfl;have hcz36_1 : w33.cell? ⟨gb168,1,none⟩ = some (.int .i64 0) :=(blk_cell BK168.out 1).trans rfl;have hcz36_2 : w33.cell? ⟨gb168,2,none⟩ = some (.slice none 0 0) :=(blk_cell BK168.out 2).trans rfl;have hfz36_0 :=blk_frozen BK168.out 0;have hfz36_1 :=blk_frozen BK168.out 1;have hfz36_2 :=blk_frozen BK168.out 2;have p169 : 0 ≤ (x40_2 : Int) :=of_decide_eq_true (by first | (with_reducible assumption) | assumption);have q169 : x40_2 < (l1.length : Int) :=of_decide_eq_true (by first | (with_reducible assumption) | assumption);obtain ⟨ad169,e169,hx169_0,hx169_1,hx169_2⟩ :=at_T38 HR1.out x40_2 p169 q169;(try rw [← Nbq31.out] at hx169_2);cases e169;have hn169_0 : ad169.block ≠ gb168 :=Nat.ne_of_lt (Nat.lt_of_lt_of_le (by have :=World.block_lt_of_cell? _ _ hx169_0;first | rwa [add_block] at this | exact this) GW168.out);have hn169_1 : ad169.block ≠ gb168 :=Nat.ne_of_lt (Nat.lt_of_lt_of_le (by have :=World.block_lt_of_cell? _ _ hx169_0;first | rwa [add_block] at this | exact this) GW168.out);have hn169_2 : ad169.block ≠ gb168 :=Nat.ne_of_lt (Nat.lt_of_lt_of_le (by have :=World.block_lt_of_cell? _ _ hx169_0;first | rwa [add_block] at this | exact this) GW168.out);replace hx169_0 :=(HB.out.cell (World.block_lt_of_cell? w _ hx169_0)).trans hx169_0;replace hx169_1 :=(HB.out.cell (World.block_lt_of_cell? w _ hx169_1)).trans hx169_1;replace hx169_2 :=(HB.out.cell (World.block_lt_of_cell? w _ hx169_2)).trans hx169_2;replace hx169_0 :=(cell_far (p :=⟨gb168,0,none⟩) (by first | (rw [add_block];exact hn169_0) | (show (Addr.add _ _).block ≠ _;rw [add_block];exact hn169_0) | exact hn169_0) (.string ((rd_T36 l0_1 x40_2).f0))).trans hx169_0;replace hx169_1 :=(cell_far (p :=⟨gb168,0,none⟩) (by first | (rw [add_block];exact hn169_0) | (show (Addr.add _ _).block ≠ _;rw [add_block];exact hn169_0) | exact hn169_0) (.string ((rd_T36 l0_1 x40_2).f0))).trans hx169_1;replace hx169_2 :=(cell_far (p :=⟨gb168,0,none⟩) (by first | (rw [add_block];exact hn169_0) | (show (Addr.add _ _).block ≠ _;rw [add_block];exact hn169_0) | exact hn169_0) (.string ((rd_T36 l0_1 x40_2).f0))).trans hx169_2;replace hx169_0 :=(cell_far (p :=⟨gb168,1,none⟩) (by first | (rw [add_block];exact hn169_1) | (show (Addr.add _ _).block ≠ _;rw [add_block];exact hn169_1) | exact hn169_1) (.int .i64 ((rd_T36 l0_1 x40_2).f1))).trans hx169_0;replace hx169_1 :=(cell_far (p :=⟨gb168,1,none⟩) (by first | (rw [add_block];exact hn169_1) | (show (Addr.add _ _).block ≠ _;rw [add_block];exact hn169_1) | exact hn169_1) (.int .i64 ((rd_T36 l0_1 x40_2).f1))).trans hx169_1;replace hx169_2 :=(cell_far (p :=⟨gb168,1,none⟩) (by first | (rw [add_block];exact hn169_1) | (show (Addr.add _ _).block ≠ _;rw [add_block];exact hn169_1) | exact hn169_1) (.int .i64 ((rd_T36 l0_1 x40_2).f1))).trans hx169_2;replace hx169_0 :=(cell_far (p :=⟨gb168,2,none⟩) (by first | (rw [add_block];exact hn169_2) | (show (Addr.add _ _).block ≠ _;rw [add_block];exact hn169_2) | exact hn169_2) (.slice A167_2 ((rd_T36 l0_1 x40_2).f2).length c167_2)).trans hx169_0;replace hx169_1 :=(cell_far (p :=⟨gb168,2,none⟩) (by first | (rw [add_block];exact hn169_2) | (show (Addr.add _ _).block ≠ _;rw [add_block];exact hn169_2) | exact hn169_2) (.slice A167_2 ((rd_T36 l0_1 x40_2).f2).length c167_2)).trans hx169_1;replace hx169_2 :=(cell_far (p :=⟨gb168,2,none⟩) (by first | (rw [add_block];exact hn169_2) | (show (Addr.add _ _).block ≠ _;rw [add_block];exact hn169_2) | exact hn169_2) (.slice A167_2 ((rd_T36 l0_1 x40_2).f2).length c167_2)).trans hx169_2;clear hn169_0;clear hn169_1;clear hn169_2;replace p169 :=eq_true p169;replace q169 :=eq_true q169;have hnb37 :=NB165_164.out;have hnc37 :=NB164_165.out;have hcz38_0 : w33.cell? ⟨gb165,0,none⟩ = some (.int .i64 x166000_2) :=(blk_cell BK165.out 0).trans rfl;have hcz38_1 : w33.cell? ⟨gb165,1,none⟩ = some (.int .i64 x166001_2) :=(blk_cell BK165.out 1).trans rfl;have hcz38_2 : w33.cell? ⟨gb165,2,none⟩ = some (.bool x166002_2) :=(blk_cell BK165.out 2).trans rfl;have hfz38_0 :=blk_frozen BK165.out 0;have hfz38_1 :=blk_frozen BK165.out 1;have hfz38_2 :=blk_frozen BK165.out 2))
           refine bodyPost_ret (results_list (rs :=[.tmp 8,.cell 9 41,.tmp 10]) rfl (by simp) (.tmp (.cell gb165 41 #[.int .i64 0,.int .i64 0,.bool false] (0,0) _ rfl (by (with_reducible repeat (first | refine blk_drewN ?_ _ | refine blk_drew ?_ | refine blk_alloc ?_ _));refine blk_put (cs :=#[.int .i64 0,.int .i64 0,.bool x166002_2]) ?_ 2 _ rfl;(with_reducible repeat (first | refine blk_drewN ?_ _ | refine blk_drew ?_ | refine blk_alloc ?_ _));refine blk_put (cs :=#[.int .i64 0,.int .i64 x166001_2,.bool x166002_2]) ?_ 1 _ rfl;(with_reducible repeat (first | refine blk_drewN ?_ _ | refine blk_drew ?_ | refine blk_alloc ?_ _));refine blk_put (cs :=#[.int .i64 x166000_2,.int .i64 x166001_2,.bool x166002_2]) ?_ 0 _ rfl;(with_reducible repeat (first | refine blk_drewN ?_ _ | refine blk_drew ?_ | refine blk_alloc ?_ _));refine blk_far ?_ NB165_168.out _;(with_reducible repeat (first | refine blk_drewN ?_ _ | refine blk_drew ?_ | refine blk_alloc ?_ _));refine blk_far ?_ NB165_168.out _;(with_reducible repeat (first | refine blk_drewN ?_ _ | refine blk_drew ?_ | refine blk_alloc ?_ _));refine blk_far ?_ NB165_168.out _;(with_reducible repeat (first | refine blk_drewN ?_ _ | refine blk_drew ?_ | refine blk_alloc ?_ _));exact BK165.out) Try.underlying41 rfl (by kernel_rfl) (.tmp .nil)))) rfl ?_
           exact ⟨_,by first | rfl | (simp [errW_none,errW_some] <;> rfl) | (simp [*,errW_none,errW_some] <;> rfl),by first | exact Kd.S_nil _ _ _ _ _ | exact Kd.N_nil _ _ _ _ _ | exact Kd.V_nil _ _ _ _ _ | exact Kd.Q_nil _ _ _ _ _ | exact Kd.R_nil _ _ _ _ _,by repeat (first | (with_reducible first | exact HB.out | apply below_alloc | apply pw_below_drewN | apply below_drew1 | refine below_set ?_ GE164.out | refine below_set ?_ GE165.out | refine below_set ?_ GE168.out) | exact HB.out)⟩
          ·replace c32 :=Bool.eq_false_iff.mpr c32
           subst c32
           have H1 : (if x40_2 < (l2.length : Int) then ((plan_wrong.f ((rd_T36 l0_1 x40_2).f1) ((rd_T38 l1 x40_2).f0) ((rd_T38 l1 x40_2).f1) (false) (rdOf false l2 x40_2)).bind fun t172 => (if t172 = true then (some (([] : List (S47)),0,0,false,6)) else (if rdOf false l2 x40_2 = true then (plan_Events.j2 k2 l1 l2 a3 x11_2 ((rd_T38 l1 x40_2).f0) l0_1 (l0_1.length : Int) x40_2 ((rd_T36 l0_1 x40_2).f0) ((rd_T36 l0_1 x40_2).f1) ((rd_T36 l0_1 x40_2).f2)) else (plan_Events.j2 k2 l1 l2 a3 x11_2 0 l0_1 (l0_1.length : Int) x40_2 ((rd_T36 l0_1 x40_2).f0) ((rd_T36 l0_1 x40_2).f1) ((rd_T36 l0_1 x40_2).f2))))) else (none)) = some (r1,r2,r3,r4,r5) :=by rw [if_neg (show ¬ (false = true) by decide)] at H;exact H
           clear H
           have H :=H1
           clear H1
           by_cases c39 : x40_2 < (l2.length : Int)
           ·rw [if_pos c39] at H
            have c39b0 : decide (x40_2 < (l2.length : Int)) = true :=decide_eq_true c39
            clear c39
            replace H :=Option.bind_eq_some_iff.mp H
            obtain ⟨t172,A400,H⟩ :=H
            replace H : (if t172 = true then (some (([] : List (S47)),0,0,false,6)) else (if rdOf false l2 x40_2 = true then (plan_Events.j2 k2 l1 l2 a3 x11_2 ((rd_T38 l1 x40_2).f0) l0_1 (l0_1.length : Int) x40_2 ((rd_T36 l0_1 x40_2).f0) ((rd_T36 l0_1 x40_2).f1) ((rd_T36 l0_1 x40_2).f2)) else (plan_Events.j2 k2 l1 l2 a3 x11_2 0 l0_1 (l0_1.length : Int) x40_2 ((rd_T36 l0_1 x40_2).f0) ((rd_T36 l0_1 x40_2).f1) ((rd_T36 l0_1 x40_2).f2)))) = some (r1,r2,r3,r4,r5) :=H
            have A40 :=Aside0.mk A400
            clear A400
            by_cases c41 : t172 = true
            ·subst c41
             have H1 : (some (([] : List (S47)),0,0,false,6)) = some (r1,r2,r3,r4,r5) :=by rw [if_pos rfl] at H;exact H
             clear H
             have H :=H1
             clear H1
             simp only [Option.some.injEq,Prod.mk.injEq] at H
             obtain ⟨rfl,rfl,rfl,rfl,rfl⟩ :=H
             have p167 : 0 ≤ (x40_2 : Int) :=of_decide_eq_true (by first | (with_reducible assumption) | assumption)
             have q167 : x40_2 < (l0_1.length : Int) :=of_decide_eq_true (by first | (with_reducible assumption) | assumption)
             obtain ⟨ad167,A167_2,c167_2,e167,hx167_0,hx167_1,hx167_2,hl167_2,hi167_2⟩ :=at_T36 HR0_1.out x40_2 p167 q167
             cases e167
             replace hx167_0 :=(HB.out.cell (World.block_lt_of_cell? w _ hx167_0)).trans hx167_0
             replace hx167_1 :=(HB.out.cell (World.block_lt_of_cell? w _ hx167_1)).trans hx167_1
             replace hx167_2 :=(HB.out.cell (World.block_lt_of_cell? w _ hx167_2)).trans hx167_2
             have HR167_2 :=Aside0.mk hi167_2
             have HC167_2 :=Aside0.mk hl167_2
             clear hi167_2 hl167_2
             replace p167 :=eq_true p167
             replace q167 :=eq_true q167
             try go_wp2_with (first | ((with_reducible refine gate_dst (N :=13) rfl ?_);(try (refine gate_guard (by rfl) ?_;dsimp only));refine box_event ?hg (N :=13) ?hd (cs :=#[.string (⟨#[]⟩ : ByteArray),.int .i64 0,.slice none 0 0]) (t :=36) ?hr ?_;(case hd => rfl);(case hg => rfl);(case hr => first | (go_simp;done) | (go_simp;rfl));intro gb168 hg w42 hbox hb;have n0_ :=Aside0.mk (Kd.S_below (by (with_reducible repeat (first | apply Kd.S_alloc | apply Kd.S_drewN | apply Kd.S_drew));exact HO_11.out) hb);have n1_ :=Aside0.mk (blk_below (g :=gb164) (o :=.cells #[.string a0_0,.slice (some ad167) l0_1.length c0_1] 28 (0,0)) (by (with_reducible repeat (first | refine blk_drewN ?_ _ | refine blk_drew ?_ | refine blk_alloc ?_ _));exact BK164.out) hb);have n2_ :=Aside0.mk (blk_below (g :=gb165) (o :=.cells #[.int .i64 x166000_2,.int .i64 x166001_2,.bool x166002_2] 41 (0,0)) (by (with_reducible repeat (first | refine blk_drewN ?_ _ | refine blk_drew ?_ | refine blk_alloc ?_ _));exact BK165.out) hb);have n3_ :=Aside0.mk (below_step (by repeat (first | (with_reducible first | exact HB.out | apply below_alloc | apply pw_below_drewN | apply below_drew1 | refine below_set ?_ GE164.out | refine below_set ?_ GE165.out) | exact HB.out)) hb);have n4_ :=Aside0.mk (hbox);have n5_ :=Aside0.mk ((by rw [hg];exact (below_size (by repeat (first | (with_reducible first | exact HB.out | apply below_alloc | apply pw_below_drewN | apply below_drew1 | refine below_set ?_ GE164.out | refine below_set ?_ GE165.out) | exact HB.out))) : w.heap.size ≤ gb168));have n6_ :=Aside0.mk ((by rw [hg];exact (below_size (by repeat (first | (with_reducible first | exact HB.out | apply below_alloc | apply pw_below_drewN | apply below_drew1 | refine below_set ?_ GE164.out | refine below_set ?_ GE165.out) | exact HB.out))) : w.heap.size ≤ gb168));have n7_ :=Aside0.mk ((by rw [hg];exact Nat.ne_of_lt (blk_lt (g :=gb164) (o :=.cells #[.string a0_0,.slice (some ad167) l0_1.length c0_1] 28 (0,0)) (by (with_reducible repeat (first | refine blk_drewN ?_ _ | refine blk_drew ?_ | refine blk_alloc ?_ _));exact BK164.out)) : gb164 ≠ gb168));have n8_ :=Aside0.mk ((by rw [hg];exact Nat.ne_of_gt (blk_lt (g :=gb164) (o :=.cells #[.string a0_0,.slice (some ad167) l0_1.length c0_1] 28 (0,0)) (by (with_reducible repeat (first | refine blk_drewN ?_ _ | refine blk_drew ?_ | refine blk_alloc ?_ _));exact BK164.out)) : gb168 ≠ gb164));have n9_ :=Aside0.mk ((by rw [hg];exact Nat.ne_of_lt (blk_lt (g :=gb165) (o :=.cells #[.int .i64 x166000_2,.int .i64 x166001_2,.bool x166002_2] 41 (0,0)) (by (with_reducible repeat (first | refine blk_drewN ?_ _ | refine blk_drew ?_ | refine blk_alloc ?_ _));exact BK165.out)) : gb165 ≠ gb168));have n10_ :=Aside0.mk ((by rw [hg];exact Nat.ne_of_gt (blk_lt (g :=gb165) (o :=.cells #[.int .i64 x166000_2,.int .i64 x166001_2,.bool x166002_2] 41 (0,0)) (by (with_reducible repeat (first | refine blk_drewN ?_ _ | refine blk_drew ?_ | refine blk_alloc ?_ _));exact BK165.out)) : gb168 ≠ gb165));clear HO_11;clear BK164;clear BK165;clear HB;have HO_11 :=n0_;have BK164 :=n1_;have BK165 :=n2_;have HB :=n3_;have BK168 :=n4_;have GW168 :=n5_;have GE168 :=n6_;have NB164_168 :=n7_;have NB168_164 :=n8_;have NB165_168 :=n9_;have NB168_165 :=n10_;clear n0_ n1_ n2_ n3_ n4_ n5_ n6_ n7_ n8_ n9_ n10_;clear hb hbox hg;have hnb43 :=NB168_164.out;have hnc43 :=NB164_168.out;have hnb44 :=NB168_165.out;have hnc44 :=NB165_168.out;have hcz45_0 : w42.cell? ⟨gb168,0,none⟩ = some (.string (⟨#[]⟩ : ByteArray)) :=(blk_cell BK168.out 0).trans rfl;have hcz45_1 : w42.cell? ⟨gb168,1,none⟩ = some (.int .i64 0) :=(blk_cell BK168.out 1).trans rfl;have hcz45_2 : w42.cell? ⟨gb168,2,none⟩ = some (.slice none 0 0) :=(blk_cell BK168.out 2).trans rfl;have hfz45_0 :=blk_frozen BK168.out 0;have hfz45_1 :=blk_frozen BK168.out 1;have hfz45_2 :=blk_frozen BK168.out 2;have p169 : 0 ≤ (x40_2 : Int) :=of_decide_eq_true (by first | (with_reducible assumption) | assumption);have q169 : x40_2 < (l1.length : Int) :=of_decide_eq_true (by first | (with_reducible assumption) | assumption);obtain ⟨ad169,e169,hx169_0,hx169_1,hx169_2⟩ :=at_T38 HR1.out x40_2 p169 q169;(try rw [← Nbq31.out] at hx169_2);cases e169;have hn169_0 : ad169.block ≠ gb168 :=Nat.ne_of_lt (Nat.lt_of_lt_of_le (by have :=World.block_lt_of_cell? _ _ hx169_0;first | rwa [add_block] at this | exact this) GW168.out);have hn169_1 : ad169.block ≠ gb168 :=Nat.ne_of_lt (Nat.lt_of_lt_of_le (by have :=World.block_lt_of_cell? _ _ hx169_0;first | rwa [add_block] at this | exact this) GW168.out);have hn169_2 : ad169.block ≠ gb168 :=Nat.ne_of_lt (Nat.lt_of_lt_of_le (by have :=World.block_lt_of_cell? _ _ hx169_0;first | rwa [add_block] at this | exact this) GW168.out);replace hx169_0 :=(HB.out.cell (World.block_lt_of_cell? w _ hx169_0)).trans hx169_0;replace hx169_1 :=(HB.out.cell (World.block_lt_of_cell? w _ hx169_1)).trans hx169_1;replace hx169_2 :=(HB.out.cell (World.block_lt_of_cell? w _ hx169_2)).trans hx169_2;replace hx169_0 :=(cell_far (p :=⟨gb168,0,none⟩) (by first | (rw [add_block];exact hn169_0) | (show (Addr.add _ _).block ≠ _;rw [add_block];exact hn169_0) | exact hn169_0) (.string ((rd_T36 l0_1 x40_2).f0))).trans hx169_0;replace hx169_1 :=(cell_far (p :=⟨gb168,0,none⟩) (by first | (rw [add_block];exact hn169_0) | (show (Addr.add _ _).block ≠ _;rw [add_block];exact hn169_0) | exact hn169_0) (.string ((rd_T36 l0_1 x40_2).f0))).trans hx169_1;replace hx169_2 :=(cell_far (p :=⟨gb168,0,none⟩) (by first | (rw [add_block];exact hn169_0) | (show (Addr.add _ _).block ≠ _;rw [add_block];exact hn169_0) | exact hn169_0) (.string ((rd_T36 l0_1 x40_2).f0))).trans hx169_2;replace hx169_0 :=(cell_far (p :=⟨gb168,1,none⟩) (by first | (rw [add_block];exact hn169_1) | (show (Addr.add _ _).block ≠ _;rw [add_block];exact hn169_1) | exact hn169_1) (.int .i64 ((rd_T36 l0_1 x40_2).f1))).trans hx169_0;replace hx169_1 :=(cell_far (p :=⟨gb168,1,none⟩) (by first | (rw [add_block];exact hn169_1) | (show (Addr.add _ _).block ≠ _;rw [add_block];exact hn169_1) | exact hn169_1) (.int .i64 ((rd_T36 l0_1 x40_2).f1))).trans hx169_1;replace hx169_2 :=(cell_far (p :=⟨gb168,1,none⟩) (by first | (rw [add_block];exact hn169_1) | (show (Addr.add _ _).block ≠ _;rw [add_block];exact hn169_1) | exact hn169_1) (.int .i64 ((rd_T36 l0_1 x40_2).f1))).trans hx169_2;replace hx169_0 :=(cell_far (p :=⟨gb168,2,none⟩) (by first | (rw [add_block];exact hn169_2) | (show (Addr.add _ _).block ≠ _;rw [add_block];exact hn169_2) | exact hn169_2) (.slice A167_2 ((rd_T36 l0_1 x40_2).f2).length c167_2)).trans hx169_0;replace hx169_1 :=(cell_far (p :=⟨gb168,2,none⟩) (by first | (rw [add_block];exact hn169_2) | (show (Addr.add _ _).block ≠ _;rw [add_block];exact hn169_2) | exact hn169_2) (.slice A167_2 ((rd_T36 l0_1 x40_2).f2).length c167_2)).trans hx169_1;replace hx169_2 :=(cell_far (p :=⟨gb168,2,none⟩) (by first | (rw [add_block];exact hn169_2) | (show (Addr.add _ _).block ≠ _;rw [add_block];exact hn169_2) | exact hn169_2) (.slice A167_2 ((rd_T36 l0_1 x40_2).f2).length c167_2)).trans hx169_2;clear hn169_0;clear hn169_1;clear hn169_2;replace p169 :=eq_true p169;replace q169 :=eq_true q169))
             have n0_ : Aside0 (Kd.S k47 47 (((w42.setCell ⟨gb168,0,none⟩ (.string ((rd_T36 l0_1 x40_2).f0))).setCell ⟨gb168,1,none⟩ (.int .i64 ((rd_T36 l0_1 x40_2).f1))).setCell ⟨gb168,2,none⟩ (.slice A167_2 ((rd_T36 l0_1 x40_2).f2).length c167_2)) w.heap.size (fun _ => True) u11 x11_2) :=⟨by (with_reducible repeat (first | apply Kd.S_alloc | apply Kd.S_drewN | apply Kd.S_drew));exact Kd.S_mono (Kd.S_far (p :=⟨gb168,2,none⟩) (Kd.S_far (p :=⟨gb168,1,none⟩) (Kd.S_far (p :=⟨gb168,0,none⟩) (Kd.S_types HO_11.out BK168.out (by decide)) (fun _ hk => hk.2) (.string ((rd_T36 l0_1 x40_2).f0))) (fun _ hk => hk.2) (.int .i64 ((rd_T36 l0_1 x40_2).f1))) (fun _ hk => hk.2) (.slice A167_2 ((rd_T36 l0_1 x40_2).f2).length c167_2)) (fun _ hk => trivial)⟩
             have n1_ : Aside0 ((((w42.setCell ⟨gb168,0,none⟩ (.string ((rd_T36 l0_1 x40_2).f0))).setCell ⟨gb168,1,none⟩ (.int .i64 ((rd_T36 l0_1 x40_2).f1))).setCell ⟨gb168,2,none⟩ (.slice A167_2 ((rd_T36 l0_1 x40_2).f2).length c167_2)).heap[gb164]? = some (.cells #[.string a0_0,.slice (some ad167) l0_1.length c0_1] 28 (0,0))) :=⟨by (with_reducible repeat (first | refine blk_drewN ?_ _ | refine blk_drew ?_ | refine blk_alloc ?_ _));refine blk_far ?_ NB164_168.out _;(with_reducible repeat (first | refine blk_drewN ?_ _ | refine blk_drew ?_ | refine blk_alloc ?_ _));refine blk_far ?_ NB164_168.out _;(with_reducible repeat (first | refine blk_drewN ?_ _ | refine blk_drew ?_ | refine blk_alloc ?_ _));refine blk_far ?_ NB164_168.out _;(with_reducible repeat (first | refine blk_drewN ?_ _ | refine blk_drew ?_ | refine blk_alloc ?_ _));exact BK164.out⟩
             have n2_ : Aside0 ((((w42.setCell ⟨gb168,0,none⟩ (.string ((rd_T36 l0_1 x40_2).f0))).setCell ⟨gb168,1,none⟩ (.int .i64 ((rd_T36 l0_1 x40_2).f1))).setCell ⟨gb168,2,none⟩ (.slice A167_2 ((rd_T36 l0_1 x40_2).f2).length c167_2)).heap[gb165]? = some (.cells #[.int .i64 x166000_2,.int .i64 x166001_2,.bool x166002_2] 41 (0,0))) :=⟨by (with_reducible repeat (first | refine blk_drewN ?_ _ | refine blk_drew ?_ | refine blk_alloc ?_ _));refine blk_far ?_ NB165_168.out _;(with_reducible repeat (first | refine blk_drewN ?_ _ | refine blk_drew ?_ | refine blk_alloc ?_ _));refine blk_far ?_ NB165_168.out _;(with_reducible repeat (first | refine blk_drewN ?_ _ | refine blk_drew ?_ | refine blk_alloc ?_ _));refine blk_far ?_ NB165_168.out _;(with_reducible repeat (first | refine blk_drewN ?_ _ | refine blk_drew ?_ | refine blk_alloc ?_ _));exact BK165.out⟩
             have n3_ : Aside0 ((((w42.setCell ⟨gb168,0,none⟩ (.string ((rd_T36 l0_1 x40_2).f0))).setCell ⟨gb168,1,none⟩ (.int .i64 ((rd_T36 l0_1 x40_2).f1))).setCell ⟨gb168,2,none⟩ (.slice A167_2 ((rd_T36 l0_1 x40_2).f2).length c167_2)).heap[gb168]? = some (.cells #[.string ((rd_T36 l0_1 x40_2).f0),.int .i64 ((rd_T36 l0_1 x40_2).f1),.slice A167_2 ((rd_T36 l0_1 x40_2).f2).length c167_2] 36 (0,0))) :=⟨by (with_reducible repeat (first | refine blk_drewN ?_ _ | refine blk_drew ?_ | refine blk_alloc ?_ _));refine blk_put (cs :=#[.string ((rd_T36 l0_1 x40_2).f0),.int .i64 ((rd_T36 l0_1 x40_2).f1),.slice none 0 0]) ?_ 2 _ rfl;(with_reducible repeat (first | refine blk_drewN ?_ _ | refine blk_drew ?_ | refine blk_alloc ?_ _));refine blk_put (cs :=#[.string ((rd_T36 l0_1 x40_2).f0),.int .i64 0,.slice none 0 0]) ?_ 1 _ rfl;(with_reducible repeat (first | refine blk_drewN ?_ _ | refine blk_drew ?_ | refine blk_alloc ?_ _));refine blk_put (cs :=#[.string (⟨#[]⟩ : ByteArray),.int .i64 0,.slice none 0 0]) ?_ 0 _ rfl;(with_reducible repeat (first | refine blk_drewN ?_ _ | refine blk_drew ?_ | refine blk_alloc ?_ _));exact BK168.out⟩
             have n4_ : Aside0 (Below w.heap.size w (((w42.setCell ⟨gb168,0,none⟩ (.string ((rd_T36 l0_1 x40_2).f0))).setCell ⟨gb168,1,none⟩ (.int .i64 ((rd_T36 l0_1 x40_2).f1))).setCell ⟨gb168,2,none⟩ (.slice A167_2 ((rd_T36 l0_1 x40_2).f2).length c167_2))) :=⟨by repeat (first | (with_reducible first | exact HB.out | apply below_alloc | apply pw_below_drewN | apply below_drew1 | refine below_set ?_ GE164.out | refine below_set ?_ GE165.out | refine below_set ?_ GE168.out) | exact HB.out)⟩
             (try clear HO_11)
             (try clear BK164)
             (try clear BK165)
             (try clear BK168)
             (try clear HB)
             generalize (((w42.setCell ⟨gb168,0,none⟩ (.string ((rd_T36 l0_1 x40_2).f0))).setCell ⟨gb168,1,none⟩ (.int .i64 ((rd_T36 l0_1 x40_2).f1))).setCell ⟨gb168,2,none⟩ (.slice A167_2 ((rd_T36 l0_1 x40_2).f2).length c167_2)) = w46 at n0_ n1_ n2_ n3_ n4_ ⊢
             have HO_11 :=n0_
             have BK164 :=n1_
             have BK165 :=n2_
             have BK168 :=n3_
             have HB :=n4_
             clear n0_ n1_ n2_ n3_ n4_
             have n0_ :=Aside0.mk (Kd.S_drew HO_11.out)
             have n1_ :=Aside0.mk (blk_drew BK164.out)
             have n2_ :=Aside0.mk (blk_drew BK165.out)
             have n3_ :=Aside0.mk (blk_drew BK168.out)
             have n4_ :=Aside0.mk (below_drew1 HB.out)
             clear HO_11
             clear BK164
             clear BK165
             clear BK168
             clear HB
             have HO_11 :=n0_
             have BK164 :=n1_
             have BK165 :=n2_
             have BK168 :=n3_
             have HB :=n4_
             clear n0_ n1_ n2_ n3_ n4_
             have p170 : 0 ≤ (x40_2 : Int) :=of_decide_eq_true (by first | (with_reducible assumption) | assumption)
             have q170 : x40_2 < (l1.length : Int) :=of_decide_eq_true (by first | (with_reducible assumption) | assumption)
             obtain ⟨ad170,e170,hx170_0,hx170_1,hx170_2⟩ :=at_T38 HR1.out x40_2 p170 q170
             have hw170_2 :=hx170_2
             have hw170_1 :=hx170_1
             have hw170_0 :=hx170_0
             (try rw [← Nbq31.out] at hx170_2)
             obtain rfl : ad169 = ad170 :=(by injection e170)
             replace hx170_0 :=(HB.out.cell (World.block_lt_of_cell? w _ hx170_0)).trans hx170_0
             replace hx170_1 :=(HB.out.cell (World.block_lt_of_cell? w _ hx170_1)).trans hx170_1
             replace hx170_2 :=(HB.out.cell (World.block_lt_of_cell? w _ hx170_2)).trans hx170_2
             replace p170 :=eq_true p170
             replace q170 :=eq_true q170
             have p171 : 0 ≤ (x40_2 : Int) :=of_decide_eq_true (by first | (with_reducible assumption) | assumption)
             have q171 : x40_2 < (l2.length : Int) :=of_decide_eq_true (by first | (with_reducible assumption) | assumption)
             obtain ⟨ad171,e171,hx171_0⟩ :=Kd.at_bool HR2.out x40_2 p171 q171
             have hw171_0 :=hx171_0
             (try rw [← Nbq31.out] at hx171_0)
             cases e171
             replace hx171_0 :=(HB.out.cell (World.block_lt_of_cell? w _ hx171_0)).trans hx171_0
             replace p171 :=eq_true p171
             replace q171 :=eq_true q171
             refine start_ (n :=12) (S :=fun w' => w'.cell? ⟨gb168,0,none⟩ = some (.string ((rd_T36 l0_1 x40_2).f0)) ∧ w'.cell? ⟨gb168,1,none⟩ = some (.int .i64 ((rd_T36 l0_1 x40_2).f1)) ∧ w'.cell? ⟨gb168,2,none⟩ = some (.slice A167_2 ((rd_T36 l0_1 x40_2).f2).length c167_2) ∧ w'.cell? (ad169.add ((x40_2).toNat * 3)) = some (.int .i64 ((rd_T38 l1 x40_2).f0)) ∧ w'.cell? ⟨(ad169.add ((x40_2).toNat * 3)).block,(ad169.add ((x40_2).toNat * 3)).off + 1,none⟩ = some (.int .i64 ((rd_T38 l1 x40_2).f1)) ∧ w'.cell? ⟨(ad169.add ((x40_2).toNat * 3)).block,(ad169.add ((x40_2).toNat * 3)).off + 2,none⟩ = some (.bool (false)) ∧ w'.cell? (ad171.add (x40_2).toNat) = some (.bool (rdOf false l2 x40_2))) (ds :=[]) #[false,false,false,false,false,false,false,false,false,false,false,false] (by kernel_rfl) rfl rfl ⟨(blk_cell BK168.out 0).trans rfl,(blk_cell BK168.out 1).trans rfl,(blk_cell BK168.out 2).trans rfl,((HB.out.cell (World.block_lt_of_cell? w _ hw170_0)).trans hw170_0),((HB.out.cell (World.block_lt_of_cell? w _ hw170_1)).trans hw170_1),((HB.out.cell (World.block_lt_of_cell? w _ hw170_2)).trans (by first | exact hw170_2 | (have z_ :=hw170_2;rw [← Nbq31.out] at z_;exact z_))),((HB.out.cell (World.block_lt_of_cell? w _ hw171_0)).trans hw171_0)⟩ (fun hHeld => ?_);refine with_tabW plan_Events.tab9 plan_Events.bits9 (fun HT_ HW_ => ?_)
             generalize w46.drew = w47 at HO_11 BK164 BK165 BK168 HB hx170_0 hx170_1 hx170_2 hx171_0 hHeld ⊢
             refine pure_ (i :=0) (N :=some 53) (v :=?_) (a' :=?_) #[true,false,false,false,false,false,false,false,false,false,false,false] rfl rfl (any_of HT_.out (by kernel_rfl)) (fun _ _ _ h => h) (Or.inl ⟨by rfl,?_⟩) ?_ ?_
             rotate_left
             ·intro w'
              go_simp
              with_reducible rfl
             rotate_left
             ·simp only [Act.put,List.setIfInBounds_toArray,List.set_cons_zero,List.set_cons_succ,i64_w,i32_w]
              rfl
             refine pure_ (i :=2) (N :=some 55) (v :=?_) (a' :=?_) #[true,false,true,false,false,false,false,false,false,false,false,false] rfl rfl (any_of HT_.out (by kernel_rfl)) (fun _ _ _ h => h) (Or.inl ⟨by rfl,?_⟩) ?_ ?_
             rotate_left
             ·intro w'
              go_simp
              with_reducible rfl
             rotate_left
             ·simp only [Act.put,List.setIfInBounds_toArray,List.set_cons_zero,List.set_cons_succ,i64_w,i32_w]
              rfl
             refine pure_ (i :=3) (N :=some 56) (v :=?_) (a' :=?_) #[true,false,true,true,false,false,false,false,false,false,false,false] rfl rfl (any_of HT_.out (by kernel_rfl)) (fun _ _ _ h => h) (Or.inl ⟨by rfl,?_⟩) ?_ ?_
             rotate_left
             ·intro w'
              go_simp
              with_reducible rfl
             rotate_left
             ·simp only [Act.put,List.setIfInBounds_toArray,List.set_cons_zero,List.set_cons_succ,i64_w,i32_w]
              rfl
             refine pure_ (i :=4) (N :=some 57) (v :=?_) (a' :=?_) #[true,false,true,true,true,false,false,false,false,false,false,false] rfl rfl (any_of HT_.out (by kernel_rfl)) (fun _ _ _ h => h) (Or.inl ⟨by rfl,?_⟩) ?_ ?_
             rotate_left
             ·intro w'
              go_simp
              with_reducible rfl
             rotate_left
             ·simp only [Act.put,List.setIfInBounds_toArray,List.set_cons_zero,List.set_cons_succ,i64_w,i32_w]
              rfl
             refine pure_ (i :=6) (N :=some 59) (v :=?_) (a' :=?_) #[true,false,true,true,true,false,true,false,false,false,false,false] rfl rfl (any_of HT_.out (by kernel_rfl)) (fun _ _ _ h => h) (Or.inl ⟨by rfl,?_⟩) ?_ ?_
             rotate_left
             ·intro w'
              go_simp
              with_reducible rfl
             rotate_left
             ·simp only [Act.put,List.setIfInBounds_toArray,List.set_cons_zero,List.set_cons_succ,i64_w,i32_w]
              rfl
             refine pure_ (i :=7) (N :=some 60) (v :=?_) (a' :=?_) #[true,false,true,true,true,false,true,true,false,false,false,false] rfl rfl (any_of HT_.out (by kernel_rfl)) (fun _ _ _ h => h) (Or.inl ⟨by rfl,?_⟩) ?_ ?_
             rotate_left
             ·intro w'
              go_simp
              with_reducible rfl
             rotate_left
             ·simp only [Act.put,List.setIfInBounds_toArray,List.set_cons_zero,List.set_cons_succ,i64_w,i32_w]
              rfl
             refine pure_ (i :=8) (N :=some 61) (v :=?_) (a' :=?_) #[true,false,true,true,true,false,true,true,true,false,false,false] rfl rfl (any_of HT_.out (by kernel_rfl)) (fun _ _ _ h => h) (Or.inl ⟨by rfl,?_⟩) ?_ ?_
             rotate_left
             ·intro w'
              go_simp
              with_reducible rfl
             rotate_left
             ·simp only [Act.put,List.setIfInBounds_toArray,List.set_cons_zero,List.set_cons_succ,i64_w,i32_w]
              rfl
             refine take_ (i :=1) (N :=some 54) (v :=?_) (a' :=?_) #[true,true,true,true,true,false,true,true,true,false,false,false] rfl rfl (take_ofW HT_.out HW_.out (by kernel_rfl)) (fun _ _ _ h => h) (Or.inl ⟨by rfl,?_⟩) hHeld ?_ ?_
             rotate_left
             ·rintro w' ⟨s0,s1,s2,s3,s4,s5,s6⟩
              go_simp
              with_reducible rfl
             rotate_left
             ·simp only [Act.put,List.setIfInBounds_toArray,List.set_cons_zero,List.set_cons_succ,i64_w,i32_w]
              rfl
             refine take_ (i :=5) (N :=some 58) (v :=?_) (a' :=?_) #[true,true,true,true,true,true,true,true,true,false,false,false] rfl rfl (take_ofW HT_.out HW_.out (by kernel_rfl)) (fun _ _ _ h => h) (Or.inl ⟨by rfl,?_⟩) hHeld ?_ ?_
             rotate_left
             ·rintro w' ⟨s0,s1,s2,s3,s4,s5,s6⟩
              go_simp
              with_reducible rfl
             rotate_left
             ·simp only [Act.put,List.setIfInBounds_toArray,List.set_cons_zero,List.set_cons_succ,i64_w,i32_w]
              rfl
             refine take_ (i :=9) (N :=some 62) (v :=?_) (a' :=?_) #[true,true,true,true,true,true,true,true,true,true,false,false] rfl rfl (take_ofW HT_.out HW_.out (by kernel_rfl)) (fun _ _ _ h => h) (Or.inl ⟨by rfl,?_⟩) hHeld ?_ ?_
             rotate_left
             ·rintro w' ⟨s0,s1,s2,s3,s4,s5,s6⟩
              go_simp
              with_reducible rfl
             rotate_left
             ·simp only [Act.put,List.setIfInBounds_toArray,List.set_cons_zero,List.set_cons_succ,i64_w,i32_w]
              rfl
             refine one_ (i :=10) (N :=some 63) #[true,true,true,true,true,true,true,true,true,true,true,false] rfl rfl (one_of HT_.out (by kernel_rfl)) (by decide) (fun K hK => ?_)
             refine goes_ Try.func14 (by kernel_rfl) rfl #[.int .i64 ((rd_T36 l0_1 x40_2).f1),.agg #[.int .i64 ((rd_T38 l1 x40_2).f0),.int .i64 ((rd_T38 l1 x40_2).f1),.bool false],.bool (rdOf false l2 x40_2)] (by rfl) rfl rfl (by (try simp only [List.map_toArray,List.map_cons,List.map_nil]);first | done | rfl | (simp only [List.length_drop,List.length_take];rfl)) ?_
             with_reducible refine (plan_wrong.calls ((rd_T36 l0_1 x40_2).f1) ((rd_T38 l1 x40_2).f0) ((rd_T38 l1 x40_2).f1) false (rdOf false l2 x40_2) true _ A40.out).mono ?_
             rintro e w48 ⟨rfl,hb⟩
             refine ⟨_,rfl,?_⟩
             have n0_ :=Aside0.mk (Kd.S_below (by (with_reducible repeat (first | apply Kd.S_alloc | apply Kd.S_drewN | apply Kd.S_drew));exact HO_11.out) hb)
             have n1_ :=Aside0.mk (blk_below (g :=gb164) (o :=.cells #[.string a0_0,.slice (some ad167) l0_1.length c0_1] 28 (0,0)) (by (with_reducible repeat (first | refine blk_drewN ?_ _ | refine blk_drew ?_ | refine blk_alloc ?_ _));exact BK164.out) hb)
             have n2_ :=Aside0.mk (blk_below (g :=gb165) (o :=.cells #[.int .i64 x166000_2,.int .i64 x166001_2,.bool x166002_2] 41 (0,0)) (by (with_reducible repeat (first | refine blk_drewN ?_ _ | refine blk_drew ?_ | refine blk_alloc ?_ _));exact BK165.out) hb)
             have n3_ :=Aside0.mk (blk_below (g :=gb168) (o :=.cells #[.string ((rd_T36 l0_1 x40_2).f0),.int .i64 ((rd_T36 l0_1 x40_2).f1),.slice A167_2 ((rd_T36 l0_1 x40_2).f2).length c167_2] 36 (0,0)) (by (with_reducible repeat (first | refine blk_drewN ?_ _ | refine blk_drew ?_ | refine blk_alloc ?_ _));exact BK168.out) hb)
             have n4_ :=Aside0.mk (below_step (by repeat (first | (with_reducible first | exact HB.out | apply below_alloc | apply pw_below_drewN | apply below_drew1 | refine below_set ?_ GE164.out | refine below_set ?_ GE165.out | refine below_set ?_ GE168.out) | exact HB.out)) hb)
             clear HO_11
             clear BK164
             clear BK165
             clear BK168
             clear HB
             have HO_11 :=n0_
             have BK164 :=n1_
             have BK165 :=n2_
             have BK168 :=n3_
             have HB :=n4_
             clear n0_ n1_ n2_ n3_ n4_
             (try clear hb)
             (try clear hb2)
             (try clear hk)
             (try clear hi)
             refine hK.out _ _ ⟨(blk_cell BK168.out 0).trans rfl,(blk_cell BK168.out 1).trans rfl,(blk_cell BK168.out 2).trans rfl,((HB.out.cell (World.block_lt_of_cell? w _ hw170_0)).trans hw170_0),((HB.out.cell (World.block_lt_of_cell? w _ hw170_1)).trans hw170_1),((HB.out.cell (World.block_lt_of_cell? w _ hw170_2)).trans (by first | exact hw170_2 | (have z_ :=hw170_2;rw [← Nbq31.out] at z_;exact z_))),((HB.out.cell (World.block_lt_of_cell? w _ hw171_0)).trans hw171_0)⟩ (fun hHeld => ?_)
             clear hK K
             refine norm_ (a' :=?_) ?_ ?_
             rotate_left
             ·show Act.put _ (some 63) _ = _
              simp only [Act.put,List.setIfInBounds_toArray,List.set_cons_zero,List.set_cons_succ,i64_w,i32_w]
              rfl
             refine pure_ (i :=11) (N :=some 52) (v :=?_) (a' :=?_) #[true,true,true,true,true,true,true,true,true,true,true,true] rfl rfl (any_of HT_.out (by kernel_rfl)) (fun _ _ _ h => h) (Or.inl ⟨by rfl,?_⟩) ?_ ?_
             rotate_left
             ·intro w'
              go_simp
              with_reducible rfl
             rotate_left
             ·simp only [Act.put,List.setIfInBounds_toArray,List.set_cons_zero,List.set_cons_succ,i64_w,i32_w]
              rfl
             refine done_ (done_of HT_.out (by kernel_rfl)) ?_
             have hnb49 :=NB165_164.out
             have hnc49 :=NB164_165.out
             have hcz50_0 : w48.cell? ⟨gb165,0,none⟩ = some (.int .i64 x166000_2) :=(blk_cell BK165.out 0).trans rfl
             have hcz50_1 : w48.cell? ⟨gb165,1,none⟩ = some (.int .i64 x166001_2) :=(blk_cell BK165.out 1).trans rfl
             have hcz50_2 : w48.cell? ⟨gb165,2,none⟩ = some (.bool x166002_2) :=(blk_cell BK165.out 2).trans rfl
             have hfz50_0 :=blk_frozen BK165.out 0
             have hfz50_1 :=blk_frozen BK165.out 1
             have hfz50_2 :=blk_frozen BK165.out 2
             try go_wp2
             refine bodyPost_ret (results_list (rs :=[.tmp 8,.cell 9 41,.tmp 10]) rfl (by simp) (.tmp (.cell gb165 41 #[.int .i64 0,.int .i64 0,.bool false] (0,0) _ rfl (by (with_reducible repeat (first | refine blk_drewN ?_ _ | refine blk_drew ?_ | refine blk_alloc ?_ _));refine blk_put (cs :=#[.int .i64 0,.int .i64 0,.bool x166002_2]) ?_ 2 _ rfl;(with_reducible repeat (first | refine blk_drewN ?_ _ | refine blk_drew ?_ | refine blk_alloc ?_ _));refine blk_put (cs :=#[.int .i64 0,.int .i64 x166001_2,.bool x166002_2]) ?_ 1 _ rfl;(with_reducible repeat (first | refine blk_drewN ?_ _ | refine blk_drew ?_ | refine blk_alloc ?_ _));refine blk_put (cs :=#[.int .i64 x166000_2,.int .i64 x166001_2,.bool x166002_2]) ?_ 0 _ rfl;(with_reducible repeat (first | refine blk_drewN ?_ _ | refine blk_drew ?_ | refine blk_alloc ?_ _));exact BK165.out) Try.underlying41 rfl (by kernel_rfl) (.tmp .nil)))) rfl ?_
             exact ⟨_,by first | rfl | (simp [errW_none,errW_some] <;> rfl) | (simp [*,errW_none,errW_some] <;> rfl),by first | exact Kd.S_nil _ _ _ _ _ | exact Kd.N_nil _ _ _ _ _ | exact Kd.V_nil _ _ _ _ _ | exact Kd.Q_nil _ _ _ _ _ | exact Kd.R_nil _ _ _ _ _,by repeat (first | (with_reducible first | exact HB.out | apply below_alloc | apply pw_below_drewN | apply below_drew1 | refine below_set ?_ GE164.out | refine below_set ?_ GE165.out | refine below_set ?_ GE168.out) | exact HB.out)⟩
            ·replace c41 :=Bool.eq_false_iff.mpr c41
             subst c41
             have H1 : (if rdOf false l2 x40_2 = true then (plan_Events.j2 k2 l1 l2 a3 x11_2 ((rd_T38 l1 x40_2).f0) l0_1 (l0_1.length : Int) x40_2 ((rd_T36 l0_1 x40_2).f0) ((rd_T36 l0_1 x40_2).f1) ((rd_T36 l0_1 x40_2).f2)) else (plan_Events.j2 k2 l1 l2 a3 x11_2 0 l0_1 (l0_1.length : Int) x40_2 ((rd_T36 l0_1 x40_2).f0) ((rd_T36 l0_1 x40_2).f1) ((rd_T36 l0_1 x40_2).f2))) = some (r1,r2,r3,r4,r5) :=by rw [if_neg (show ¬ (false = true) by decide)] at H;exact H
             clear H
             have H :=H1
             clear H1
             have HC51 :=Aside0.mk H
             clear H
             have p167 : 0 ≤ (x40_2 : Int) :=of_decide_eq_true (by first | (with_reducible assumption) | assumption)
             have q167 : x40_2 < (l0_1.length : Int) :=of_decide_eq_true (by first | (with_reducible assumption) | assumption)
             obtain ⟨ad167,A167_2,c167_2,e167,hx167_0,hx167_1,hx167_2,hl167_2,hi167_2⟩ :=at_T36 HR0_1.out x40_2 p167 q167
             cases e167
             replace hx167_0 :=(HB.out.cell (World.block_lt_of_cell? w _ hx167_0)).trans hx167_0
             replace hx167_1 :=(HB.out.cell (World.block_lt_of_cell? w _ hx167_1)).trans hx167_1
             replace hx167_2 :=(HB.out.cell (World.block_lt_of_cell? w _ hx167_2)).trans hx167_2
             have HR167_2 :=Aside0.mk hi167_2
             have HC167_2 :=Aside0.mk hl167_2
             clear hi167_2 hl167_2
             replace p167 :=eq_true p167
             replace q167 :=eq_true q167
             try go_wp2_with (first | ((with_reducible refine gate_dst (N :=13) rfl ?_);(try (refine gate_guard (by rfl) ?_;dsimp only));refine box_event ?hg (N :=13) ?hd (cs :=#[.string (⟨#[]⟩ : ByteArray),.int .i64 0,.slice none 0 0]) (t :=36) ?hr ?_;(case hd => rfl);(case hg => rfl);(case hr => first | (go_simp;done) | (go_simp;rfl));intro gb168 hg w52 hbox hb;have n0_ :=Aside0.mk (Kd.S_below (by (with_reducible repeat (first | apply Kd.S_alloc | apply Kd.S_drewN | apply Kd.S_drew));exact HO_11.out) hb);have n1_ :=Aside0.mk (blk_below (g :=gb164) (o :=.cells #[.string a0_0,.slice (some ad167) l0_1.length c0_1] 28 (0,0)) (by (with_reducible repeat (first | refine blk_drewN ?_ _ | refine blk_drew ?_ | refine blk_alloc ?_ _));exact BK164.out) hb);have n2_ :=Aside0.mk (blk_below (g :=gb165) (o :=.cells #[.int .i64 x166000_2,.int .i64 x166001_2,.bool x166002_2] 41 (0,0)) (by (with_reducible repeat (first | refine blk_drewN ?_ _ | refine blk_drew ?_ | refine blk_alloc ?_ _));exact BK165.out) hb);have n3_ :=Aside0.mk (below_step (by repeat (first | (with_reducible first | exact HB.out | apply below_alloc | apply pw_below_drewN | apply below_drew1 | refine below_set ?_ GE164.out | refine below_set ?_ GE165.out) | exact HB.out)) hb);have n4_ :=Aside0.mk (hbox);have n5_ :=Aside0.mk ((by rw [hg];exact (below_size (by repeat (first | (with_reducible first | exact HB.out | apply below_alloc | apply pw_below_drewN | apply below_drew1 | refine below_set ?_ GE164.out | refine below_set ?_ GE165.out) | exact HB.out))) : w.heap.size ≤ gb168));have n6_ :=Aside0.mk ((by rw [hg];exact (below_size (by repeat (first | (with_reducible first | exact HB.out | apply below_alloc | apply pw_below_drewN | apply below_drew1 | refine below_set ?_ GE164.out | refine below_set ?_ GE165.out) | exact HB.out))) : w.heap.size ≤ gb168));have n7_ :=Aside0.mk ((by rw [hg];exact Nat.ne_of_lt (blk_lt (g :=gb164) (o :=.cells #[.string a0_0,.slice (some ad167) l0_1.length c0_1] 28 (0,0)) (by (with_reducible repeat (first | refine blk_drewN ?_ _ | refine blk_drew ?_ | refine blk_alloc ?_ _));exact BK164.out)) : gb164 ≠ gb168));have n8_ :=Aside0.mk ((by rw [hg];exact Nat.ne_of_gt (blk_lt (g :=gb164) (o :=.cells #[.string a0_0,.slice (some ad167) l0_1.length c0_1] 28 (0,0)) (by (with_reducible repeat (first | refine blk_drewN ?_ _ | refine blk_drew ?_ | refine blk_alloc ?_ _));exact BK164.out)) : gb168 ≠ gb164));have n9_ :=Aside0.mk ((by rw [hg];exact Nat.ne_of_lt (blk_lt (g :=gb165) (o :=.cells #[.int .i64 x166000_2,.int .i64 x166001_2,.bool x166002_2] 41 (0,0)) (by (with_reducible repeat (first | refine blk_drewN ?_ _ | refine blk_drew ?_ | refine blk_alloc ?_ _));exact BK165.out)) : gb165 ≠ gb168));have n10_ :=Aside0.mk ((by rw [hg];exact Nat.ne_of_gt (blk_lt (g :=gb165) (o :=.cells #[.int .i64 x166000_2,.int .i64 x166001_2,.bool x166002_2] 41 (0,0)) (by (with_reducible repeat (first | refine blk_drewN ?_ _ | refine blk_drew ?_ | refine blk_alloc ?_ _));exact BK165.out)) : gb168 ≠ gb165));clear HO_11;clear BK164;clear BK165;clear HB;have HO_11 :=n0_;have BK164 :=n1_;have BK165 :=n2_;have HB :=n3_;have BK168 :=n4_;have GW168 :=n5_;have GE168 :=n6_;have NB164_168 :=n7_;have NB168_164 :=n8_;have NB165_168 :=n9_;have NB168_165 :=n10_;clear n0_ n1_ n2_ n3_ n4_ n5_ n6_ n7_ n8_ n9_ n10_;clear hb hbox hg;have hnb53 :=NB168_164.out;have hnc53 :=NB164_168.out;have hnb54 :=NB168_165.out;have hnc54 :=NB165_168.out;have hcz55_0 : w52.cell? ⟨gb168,0,none⟩ = some (.string (⟨#[]⟩ : ByteArray)) :=(blk_cell BK168.out 0).trans rfl;have hcz55_1 : w52.cell? ⟨gb168,1,none⟩ = some (.int .i64 0) :=(blk_cell BK168.out 1).trans rfl;have hcz55_2 : w52.cell? ⟨gb168,2,none⟩ = some (.slice none 0 0) :=(blk_cell BK168.out 2).trans rfl;have hfz55_0 :=blk_frozen BK168.out 0;have hfz55_1 :=blk_frozen BK168.out 1;have hfz55_2 :=blk_frozen BK168.out 2;have p169 : 0 ≤ (x40_2 : Int) :=of_decide_eq_true (by first | (with_reducible assumption) | assumption);have q169 : x40_2 < (l1.length : Int) :=of_decide_eq_true (by first | (with_reducible assumption) | assumption);obtain ⟨ad169,e169,hx169_0,hx169_1,hx169_2⟩ :=at_T38 HR1.out x40_2 p169 q169;(try rw [← Nbq31.out] at hx169_2);cases e169;have hn169_0 : ad169.block ≠ gb168 :=Nat.ne_of_lt (Nat.lt_of_lt_of_le (by have :=World.block_lt_of_cell? _ _ hx169_0;first | rwa [add_block] at this | exact this) GW168.out);have hn169_1 : ad169.block ≠ gb168 :=Nat.ne_of_lt (Nat.lt_of_lt_of_le (by have :=World.block_lt_of_cell? _ _ hx169_0;first | rwa [add_block] at this | exact this) GW168.out);have hn169_2 : ad169.block ≠ gb168 :=Nat.ne_of_lt (Nat.lt_of_lt_of_le (by have :=World.block_lt_of_cell? _ _ hx169_0;first | rwa [add_block] at this | exact this) GW168.out);replace hx169_0 :=(HB.out.cell (World.block_lt_of_cell? w _ hx169_0)).trans hx169_0;replace hx169_1 :=(HB.out.cell (World.block_lt_of_cell? w _ hx169_1)).trans hx169_1;replace hx169_2 :=(HB.out.cell (World.block_lt_of_cell? w _ hx169_2)).trans hx169_2;replace hx169_0 :=(cell_far (p :=⟨gb168,0,none⟩) (by first | (rw [add_block];exact hn169_0) | (show (Addr.add _ _).block ≠ _;rw [add_block];exact hn169_0) | exact hn169_0) (.string ((rd_T36 l0_1 x40_2).f0))).trans hx169_0;replace hx169_1 :=(cell_far (p :=⟨gb168,0,none⟩) (by first | (rw [add_block];exact hn169_0) | (show (Addr.add _ _).block ≠ _;rw [add_block];exact hn169_0) | exact hn169_0) (.string ((rd_T36 l0_1 x40_2).f0))).trans hx169_1;replace hx169_2 :=(cell_far (p :=⟨gb168,0,none⟩) (by first | (rw [add_block];exact hn169_0) | (show (Addr.add _ _).block ≠ _;rw [add_block];exact hn169_0) | exact hn169_0) (.string ((rd_T36 l0_1 x40_2).f0))).trans hx169_2;replace hx169_0 :=(cell_far (p :=⟨gb168,1,none⟩) (by first | (rw [add_block];exact hn169_1) | (show (Addr.add _ _).block ≠ _;rw [add_block];exact hn169_1) | exact hn169_1) (.int .i64 ((rd_T36 l0_1 x40_2).f1))).trans hx169_0;replace hx169_1 :=(cell_far (p :=⟨gb168,1,none⟩) (by first | (rw [add_block];exact hn169_1) | (show (Addr.add _ _).block ≠ _;rw [add_block];exact hn169_1) | exact hn169_1) (.int .i64 ((rd_T36 l0_1 x40_2).f1))).trans hx169_1;replace hx169_2 :=(cell_far (p :=⟨gb168,1,none⟩) (by first | (rw [add_block];exact hn169_1) | (show (Addr.add _ _).block ≠ _;rw [add_block];exact hn169_1) | exact hn169_1) (.int .i64 ((rd_T36 l0_1 x40_2).f1))).trans hx169_2;replace hx169_0 :=(cell_far (p :=⟨gb168,2,none⟩) (by first | (rw [add_block];exact hn169_2) | (show (Addr.add _ _).block ≠ _;rw [add_block];exact hn169_2) | exact hn169_2) (.slice A167_2 ((rd_T36 l0_1 x40_2).f2).length c167_2)).trans hx169_0;replace hx169_1 :=(cell_far (p :=⟨gb168,2,none⟩) (by first | (rw [add_block];exact hn169_2) | (show (Addr.add _ _).block ≠ _;rw [add_block];exact hn169_2) | exact hn169_2) (.slice A167_2 ((rd_T36 l0_1 x40_2).f2).length c167_2)).trans hx169_1;replace hx169_2 :=(cell_far (p :=⟨gb168,2,none⟩) (by first | (rw [add_block];exact hn169_2) | (show (Addr.add _ _).block ≠ _;rw [add_block];exact hn169_2) | exact hn169_2) (.slice A167_2 ((rd_T36 l0_1 x40_2).f2).length c167_2)).trans hx169_2;clear hn169_0;clear hn169_1;clear hn169_2;replace p169 :=eq_true p169;replace q169 :=eq_true q169))
             have n0_ : Aside0 (Kd.S k47 47 (((w52.setCell ⟨gb168,0,none⟩ (.string ((rd_T36 l0_1 x40_2).f0))).setCell ⟨gb168,1,none⟩ (.int .i64 ((rd_T36 l0_1 x40_2).f1))).setCell ⟨gb168,2,none⟩ (.slice A167_2 ((rd_T36 l0_1 x40_2).f2).length c167_2)) w.heap.size (fun _ => True) u11 x11_2) :=⟨by (with_reducible repeat (first | apply Kd.S_alloc | apply Kd.S_drewN | apply Kd.S_drew));exact Kd.S_mono (Kd.S_far (p :=⟨gb168,2,none⟩) (Kd.S_far (p :=⟨gb168,1,none⟩) (Kd.S_far (p :=⟨gb168,0,none⟩) (Kd.S_types HO_11.out BK168.out (by decide)) (fun _ hk => hk.2) (.string ((rd_T36 l0_1 x40_2).f0))) (fun _ hk => hk.2) (.int .i64 ((rd_T36 l0_1 x40_2).f1))) (fun _ hk => hk.2) (.slice A167_2 ((rd_T36 l0_1 x40_2).f2).length c167_2)) (fun _ hk => trivial)⟩
             have n1_ : Aside0 ((((w52.setCell ⟨gb168,0,none⟩ (.string ((rd_T36 l0_1 x40_2).f0))).setCell ⟨gb168,1,none⟩ (.int .i64 ((rd_T36 l0_1 x40_2).f1))).setCell ⟨gb168,2,none⟩ (.slice A167_2 ((rd_T36 l0_1 x40_2).f2).length c167_2)).heap[gb164]? = some (.cells #[.string a0_0,.slice (some ad167) l0_1.length c0_1] 28 (0,0))) :=⟨by (with_reducible repeat (first | refine blk_drewN ?_ _ | refine blk_drew ?_ | refine blk_alloc ?_ _));refine blk_far ?_ NB164_168.out _;(with_reducible repeat (first | refine blk_drewN ?_ _ | refine blk_drew ?_ | refine blk_alloc ?_ _));refine blk_far ?_ NB164_168.out _;(with_reducible repeat (first | refine blk_drewN ?_ _ | refine blk_drew ?_ | refine blk_alloc ?_ _));refine blk_far ?_ NB164_168.out _;(with_reducible repeat (first | refine blk_drewN ?_ _ | refine blk_drew ?_ | refine blk_alloc ?_ _));exact BK164.out⟩
             have n2_ : Aside0 ((((w52.setCell ⟨gb168,0,none⟩ (.string ((rd_T36 l0_1 x40_2).f0))).setCell ⟨gb168,1,none⟩ (.int .i64 ((rd_T36 l0_1 x40_2).f1))).setCell ⟨gb168,2,none⟩ (.slice A167_2 ((rd_T36 l0_1 x40_2).f2).length c167_2)).heap[gb165]? = some (.cells #[.int .i64 x166000_2,.int .i64 x166001_2,.bool x166002_2] 41 (0,0))) :=⟨by (with_reducible repeat (first | refine blk_drewN ?_ _ | refine blk_drew ?_ | refine blk_alloc ?_ _));refine blk_far ?_ NB165_168.out _;(with_reducible repeat (first | refine blk_drewN ?_ _ | refine blk_drew ?_ | refine blk_alloc ?_ _));refine blk_far ?_ NB165_168.out _;(with_reducible repeat (first | refine blk_drewN ?_ _ | refine blk_drew ?_ | refine blk_alloc ?_ _));refine blk_far ?_ NB165_168.out _;(with_reducible repeat (first | refine blk_drewN ?_ _ | refine blk_drew ?_ | refine blk_alloc ?_ _));exact BK165.out⟩
             have n3_ : Aside0 ((((w52.setCell ⟨gb168,0,none⟩ (.string ((rd_T36 l0_1 x40_2).f0))).setCell ⟨gb168,1,none⟩ (.int .i64 ((rd_T36 l0_1 x40_2).f1))).setCell ⟨gb168,2,none⟩ (.slice A167_2 ((rd_T36 l0_1 x40_2).f2).length c167_2)).heap[gb168]? = some (.cells #[.string ((rd_T36 l0_1 x40_2).f0),.int .i64 ((rd_T36 l0_1 x40_2).f1),.slice A167_2 ((rd_T36 l0_1 x40_2).f2).length c167_2] 36 (0,0))) :=⟨by (with_reducible repeat (first | refine blk_drewN ?_ _ | refine blk_drew ?_ | refine blk_alloc ?_ _));refine blk_put (cs :=#[.string ((rd_T36 l0_1 x40_2).f0),.int .i64 ((rd_T36 l0_1 x40_2).f1),.slice none 0 0]) ?_ 2 _ rfl;(with_reducible repeat (first | refine blk_drewN ?_ _ | refine blk_drew ?_ | refine blk_alloc ?_ _));refine blk_put (cs :=#[.string ((rd_T36 l0_1 x40_2).f0),.int .i64 0,.slice none 0 0]) ?_ 1 _ rfl;(with_reducible repeat (first | refine blk_drewN ?_ _ | refine blk_drew ?_ | refine blk_alloc ?_ _));refine blk_put (cs :=#[.string (⟨#[]⟩ : ByteArray),.int .i64 0,.slice none 0 0]) ?_ 0 _ rfl;(with_reducible repeat (first | refine blk_drewN ?_ _ | refine blk_drew ?_ | refine blk_alloc ?_ _));exact BK168.out⟩
             have n4_ : Aside0 (Below w.heap.size w (((w52.setCell ⟨gb168,0,none⟩ (.string ((rd_T36 l0_1 x40_2).f0))).setCell ⟨gb168,1,none⟩ (.int .i64 ((rd_T36 l0_1 x40_2).f1))).setCell ⟨gb168,2,none⟩ (.slice A167_2 ((rd_T36 l0_1 x40_2).f2).length c167_2))) :=⟨by repeat (first | (with_reducible first | exact HB.out | apply below_alloc | apply pw_below_drewN | apply below_drew1 | refine below_set ?_ GE164.out | refine below_set ?_ GE165.out | refine below_set ?_ GE168.out) | exact HB.out)⟩
             (try clear HO_11)
             (try clear BK164)
             (try clear BK165)
             (try clear BK168)
             (try clear HB)
             generalize (((w52.setCell ⟨gb168,0,none⟩ (.string ((rd_T36 l0_1 x40_2).f0))).setCell ⟨gb168,1,none⟩ (.int .i64 ((rd_T36 l0_1 x40_2).f1))).setCell ⟨gb168,2,none⟩ (.slice A167_2 ((rd_T36 l0_1 x40_2).f2).length c167_2)) = w56 at n0_ n1_ n2_ n3_ n4_ ⊢
             have HO_11 :=n0_
             have BK164 :=n1_
             have BK165 :=n2_
             have BK168 :=n3_
             have HB :=n4_
             clear n0_ n1_ n2_ n3_ n4_
             have n0_ :=Aside0.mk (Kd.S_drew HO_11.out)
             have n1_ :=Aside0.mk (blk_drew BK164.out)
             have n2_ :=Aside0.mk (blk_drew BK165.out)
             have n3_ :=Aside0.mk (blk_drew BK168.out)
             have n4_ :=Aside0.mk (below_drew1 HB.out)
             clear HO_11
             clear BK164
             clear BK165
             clear BK168
             clear HB
             have HO_11 :=n0_
             have BK164 :=n1_
             have BK165 :=n2_
             have BK168 :=n3_
             have HB :=n4_
             clear n0_ n1_ n2_ n3_ n4_
             have p170 : 0 ≤ (x40_2 : Int) :=of_decide_eq_true (by first | (with_reducible assumption) | assumption)
             have q170 : x40_2 < (l1.length : Int) :=of_decide_eq_true (by first | (with_reducible assumption) | assumption)
             obtain ⟨ad170,e170,hx170_0,hx170_1,hx170_2⟩ :=at_T38 HR1.out x40_2 p170 q170
             have hw170_2 :=hx170_2
             have hw170_1 :=hx170_1
             have hw170_0 :=hx170_0
             (try rw [← Nbq31.out] at hx170_2)
             obtain rfl : ad169 = ad170 :=(by injection e170)
             replace hx170_0 :=(HB.out.cell (World.block_lt_of_cell? w _ hx170_0)).trans hx170_0
             replace hx170_1 :=(HB.out.cell (World.block_lt_of_cell? w _ hx170_1)).trans hx170_1
             replace hx170_2 :=(HB.out.cell (World.block_lt_of_cell? w _ hx170_2)).trans hx170_2
             replace p170 :=eq_true p170
             replace q170 :=eq_true q170
             have p171 : 0 ≤ (x40_2 : Int) :=of_decide_eq_true (by first | (with_reducible assumption) | assumption)
             have q171 : x40_2 < (l2.length : Int) :=of_decide_eq_true (by first | (with_reducible assumption) | assumption)
             obtain ⟨ad171,e171,hx171_0⟩ :=Kd.at_bool HR2.out x40_2 p171 q171
             have hw171_0 :=hx171_0
             (try rw [← Nbq31.out] at hx171_0)
             cases e171
             replace hx171_0 :=(HB.out.cell (World.block_lt_of_cell? w _ hx171_0)).trans hx171_0
             replace p171 :=eq_true p171
             replace q171 :=eq_true q171
             refine start_ (n :=12) (S :=fun w' => w'.cell? ⟨gb168,0,none⟩ = some (.string ((rd_T36 l0_1 x40_2).f0)) ∧ w'.cell? ⟨gb168,1,none⟩ = some (.int .i64 ((rd_T36 l0_1 x40_2).f1)) ∧ w'.cell? ⟨gb168,2,none⟩ = some (.slice A167_2 ((rd_T36 l0_1 x40_2).f2).length c167_2) ∧ w'.cell? (ad169.add ((x40_2).toNat * 3)) = some (.int .i64 ((rd_T38 l1 x40_2).f0)) ∧ w'.cell? ⟨(ad169.add ((x40_2).toNat * 3)).block,(ad169.add ((x40_2).toNat * 3)).off + 1,none⟩ = some (.int .i64 ((rd_T38 l1 x40_2).f1)) ∧ w'.cell? ⟨(ad169.add ((x40_2).toNat * 3)).block,(ad169.add ((x40_2).toNat * 3)).off + 2,none⟩ = some (.bool (false)) ∧ w'.cell? (ad171.add (x40_2).toNat) = some (.bool (rdOf false l2 x40_2))) (ds :=[]) #[false,false,false,false,false,false,false,false,false,false,false,false] (by kernel_rfl) rfl rfl ⟨(blk_cell BK168.out 0).trans rfl,(blk_cell BK168.out 1).trans rfl,(blk_cell BK168.out 2).trans rfl,((HB.out.cell (World.block_lt_of_cell? w _ hw170_0)).trans hw170_0),((HB.out.cell (World.block_lt_of_cell? w _ hw170_1)).trans hw170_1),((HB.out.cell (World.block_lt_of_cell? w _ hw170_2)).trans (by first | exact hw170_2 | (have z_ :=hw170_2;rw [← Nbq31.out] at z_;exact z_))),((HB.out.cell (World.block_lt_of_cell? w _ hw171_0)).trans hw171_0)⟩ (fun hHeld => ?_);refine with_tabW plan_Events.tab9 plan_Events.bits9 (fun HT_ HW_ => ?_)
             generalize w56.drew = w57 at HO_11 BK164 BK165 BK168 HB hx170_0 hx170_1 hx170_2 hx171_0 hHeld ⊢
             refine pure_ (i :=0) (N :=some 53) (v :=?_) (a' :=?_) #[true,false,false,false,false,false,false,false,false,false,false,false] rfl rfl (any_of HT_.out (by kernel_rfl)) (fun _ _ _ h => h) (Or.inl ⟨by rfl,?_⟩) ?_ ?_
             rotate_left
             ·intro w'
              go_simp
              with_reducible rfl
             rotate_left
             ·simp only [Act.put,List.setIfInBounds_toArray,List.set_cons_zero,List.set_cons_succ,i64_w,i32_w]
              rfl
             refine pure_ (i :=2) (N :=some 55) (v :=?_) (a' :=?_) #[true,false,true,false,false,false,false,false,false,false,false,false] rfl rfl (any_of HT_.out (by kernel_rfl)) (fun _ _ _ h => h) (Or.inl ⟨by rfl,?_⟩) ?_ ?_
             rotate_left
             ·intro w'
              go_simp
              with_reducible rfl
             rotate_left
             ·simp only [Act.put,List.setIfInBounds_toArray,List.set_cons_zero,List.set_cons_succ,i64_w,i32_w]
              rfl
             refine pure_ (i :=3) (N :=some 56) (v :=?_) (a' :=?_) #[true,false,true,true,false,false,false,false,false,false,false,false] rfl rfl (any_of HT_.out (by kernel_rfl)) (fun _ _ _ h => h) (Or.inl ⟨by rfl,?_⟩) ?_ ?_
             rotate_left
             ·intro w'
              go_simp
              with_reducible rfl
             rotate_left
             ·simp only [Act.put,List.setIfInBounds_toArray,List.set_cons_zero,List.set_cons_succ,i64_w,i32_w]
              rfl
             refine pure_ (i :=4) (N :=some 57) (v :=?_) (a' :=?_) #[true,false,true,true,true,false,false,false,false,false,false,false] rfl rfl (any_of HT_.out (by kernel_rfl)) (fun _ _ _ h => h) (Or.inl ⟨by rfl,?_⟩) ?_ ?_
             rotate_left
             ·intro w'
              go_simp
              with_reducible rfl
             rotate_left
             ·simp only [Act.put,List.setIfInBounds_toArray,List.set_cons_zero,List.set_cons_succ,i64_w,i32_w]
              rfl
             refine pure_ (i :=6) (N :=some 59) (v :=?_) (a' :=?_) #[true,false,true,true,true,false,true,false,false,false,false,false] rfl rfl (any_of HT_.out (by kernel_rfl)) (fun _ _ _ h => h) (Or.inl ⟨by rfl,?_⟩) ?_ ?_
             rotate_left
             ·intro w'
              go_simp
              with_reducible rfl
             rotate_left
             ·simp only [Act.put,List.setIfInBounds_toArray,List.set_cons_zero,List.set_cons_succ,i64_w,i32_w]
              rfl
             refine pure_ (i :=7) (N :=some 60) (v :=?_) (a' :=?_) #[true,false,true,true,true,false,true,true,false,false,false,false] rfl rfl (any_of HT_.out (by kernel_rfl)) (fun _ _ _ h => h) (Or.inl ⟨by rfl,?_⟩) ?_ ?_
             rotate_left
             ·intro w'
              go_simp
              with_reducible rfl
             rotate_left
             ·simp only [Act.put,List.setIfInBounds_toArray,List.set_cons_zero,List.set_cons_succ,i64_w,i32_w]
              rfl
             refine pure_ (i :=8) (N :=some 61) (v :=?_) (a' :=?_) #[true,false,true,true,true,false,true,true,true,false,false,false] rfl rfl (any_of HT_.out (by kernel_rfl)) (fun _ _ _ h => h) (Or.inl ⟨by rfl,?_⟩) ?_ ?_
             rotate_left
             ·intro w'
              go_simp
              with_reducible rfl
             rotate_left
             ·simp only [Act.put,List.setIfInBounds_toArray,List.set_cons_zero,List.set_cons_succ,i64_w,i32_w]
              rfl
             refine take_ (i :=1) (N :=some 54) (v :=?_) (a' :=?_) #[true,true,true,true,true,false,true,true,true,false,false,false] rfl rfl (take_ofW HT_.out HW_.out (by kernel_rfl)) (fun _ _ _ h => h) (Or.inl ⟨by rfl,?_⟩) hHeld ?_ ?_
             rotate_left
             ·rintro w' ⟨s0,s1,s2,s3,s4,s5,s6⟩
              go_simp
              with_reducible rfl
             rotate_left
             ·simp only [Act.put,List.setIfInBounds_toArray,List.set_cons_zero,List.set_cons_succ,i64_w,i32_w]
              rfl
             refine take_ (i :=5) (N :=some 58) (v :=?_) (a' :=?_) #[true,true,true,true,true,true,true,true,true,false,false,false] rfl rfl (take_ofW HT_.out HW_.out (by kernel_rfl)) (fun _ _ _ h => h) (Or.inl ⟨by rfl,?_⟩) hHeld ?_ ?_
             rotate_left
             ·rintro w' ⟨s0,s1,s2,s3,s4,s5,s6⟩
              go_simp
              with_reducible rfl
             rotate_left
             ·simp only [Act.put,List.setIfInBounds_toArray,List.set_cons_zero,List.set_cons_succ,i64_w,i32_w]
              rfl
             refine take_ (i :=9) (N :=some 62) (v :=?_) (a' :=?_) #[true,true,true,true,true,true,true,true,true,true,false,false] rfl rfl (take_ofW HT_.out HW_.out (by kernel_rfl)) (fun _ _ _ h => h) (Or.inl ⟨by rfl,?_⟩) hHeld ?_ ?_
             rotate_left
             ·rintro w' ⟨s0,s1,s2,s3,s4,s5,s6⟩
              go_simp
              with_reducible rfl
             rotate_left
             ·simp only [Act.put,List.setIfInBounds_toArray,List.set_cons_zero,List.set_cons_succ,i64_w,i32_w]
              rfl
             refine one_ (i :=10) (N :=some 63) #[true,true,true,true,true,true,true,true,true,true,true,false] rfl rfl (one_of HT_.out (by kernel_rfl)) (by decide) (fun K hK => ?_)
             refine goes_ Try.func14 (by kernel_rfl) rfl #[.int .i64 ((rd_T36 l0_1 x40_2).f1),.agg #[.int .i64 ((rd_T38 l1 x40_2).f0),.int .i64 ((rd_T38 l1 x40_2).f1),.bool false],.bool (rdOf false l2 x40_2)] (by rfl) rfl rfl (by (try simp only [List.map_toArray,List.map_cons,List.map_nil]);first | done | rfl | (simp only [List.length_drop,List.length_take];rfl)) ?_
             with_reducible refine (plan_wrong.calls ((rd_T36 l0_1 x40_2).f1) ((rd_T38 l1 x40_2).f0) ((rd_T38 l1 x40_2).f1) false (rdOf false l2 x40_2) false _ A40.out).mono ?_
             rintro e w58 ⟨rfl,hb⟩
             refine ⟨_,rfl,?_⟩
             have n0_ :=Aside0.mk (Kd.S_below (by (with_reducible repeat (first | apply Kd.S_alloc | apply Kd.S_drewN | apply Kd.S_drew));exact HO_11.out) hb)
             have n1_ :=Aside0.mk (blk_below (g :=gb164) (o :=.cells #[.string a0_0,.slice (some ad167) l0_1.length c0_1] 28 (0,0)) (by (with_reducible repeat (first | refine blk_drewN ?_ _ | refine blk_drew ?_ | refine blk_alloc ?_ _));exact BK164.out) hb)
             have n2_ :=Aside0.mk (blk_below (g :=gb165) (o :=.cells #[.int .i64 x166000_2,.int .i64 x166001_2,.bool x166002_2] 41 (0,0)) (by (with_reducible repeat (first | refine blk_drewN ?_ _ | refine blk_drew ?_ | refine blk_alloc ?_ _));exact BK165.out) hb)
             have n3_ :=Aside0.mk (blk_below (g :=gb168) (o :=.cells #[.string ((rd_T36 l0_1 x40_2).f0),.int .i64 ((rd_T36 l0_1 x40_2).f1),.slice A167_2 ((rd_T36 l0_1 x40_2).f2).length c167_2] 36 (0,0)) (by (with_reducible repeat (first | refine blk_drewN ?_ _ | refine blk_drew ?_ | refine blk_alloc ?_ _));exact BK168.out) hb)
             have n4_ :=Aside0.mk (below_step (by repeat (first | (with_reducible first | exact HB.out | apply below_alloc | apply pw_below_drewN | apply below_drew1 | refine below_set ?_ GE164.out | refine below_set ?_ GE165.out | refine below_set ?_ GE168.out) | exact HB.out)) hb)
             clear HO_11
             clear BK164
             clear BK165
             clear BK168
             clear HB
             have HO_11 :=n0_
             have BK164 :=n1_
             have BK165 :=n2_
             have BK168 :=n3_
             have HB :=n4_
             clear n0_ n1_ n2_ n3_ n4_
             (try clear hb)
             (try clear hb2)
             (try clear hk)
             (try clear hi)
             refine hK.out _ _ ⟨(blk_cell BK168.out 0).trans rfl,(blk_cell BK168.out 1).trans rfl,(blk_cell BK168.out 2).trans rfl,((HB.out.cell (World.block_lt_of_cell? w _ hw170_0)).trans hw170_0),((HB.out.cell (World.block_lt_of_cell? w _ hw170_1)).trans hw170_1),((HB.out.cell (World.block_lt_of_cell? w _ hw170_2)).trans (by first | exact hw170_2 | (have z_ :=hw170_2;rw [← Nbq31.out] at z_;exact z_))),((HB.out.cell (World.block_lt_of_cell? w _ hw171_0)).trans hw171_0)⟩ (fun hHeld => ?_)
             clear hK K
             refine norm_ (a' :=?_) ?_ ?_
             rotate_left
             ·show Act.put _ (some 63) _ = _
              simp only [Act.put,List.setIfInBounds_toArray,List.set_cons_zero,List.set_cons_succ,i64_w,i32_w]
              rfl
             refine pure_ (i :=11) (N :=some 52) (v :=?_) (a' :=?_) #[true,true,true,true,true,true,true,true,true,true,true,true] rfl rfl (any_of HT_.out (by kernel_rfl)) (fun _ _ _ h => h) (Or.inl ⟨by rfl,?_⟩) ?_ ?_
             rotate_left
             ·intro w'
              go_simp
              with_reducible rfl
             rotate_left
             ·simp only [Act.put,List.setIfInBounds_toArray,List.set_cons_zero,List.set_cons_succ,i64_w,i32_w]
              rfl
             refine done_ (done_of HT_.out (by kernel_rfl)) ?_
             have p173 : 0 ≤ (x40_2 : Int) :=of_decide_eq_true (by first | (with_reducible assumption) | assumption)
             have q173 : x40_2 < (l2.length : Int) :=of_decide_eq_true (by first | (with_reducible assumption) | assumption)
             obtain ⟨ad173,e173,hx173_0⟩ :=Kd.at_bool HR2.out x40_2 p173 q173
             (try rw [← Nbq31.out] at hx173_0)
             obtain rfl : ad171 = ad173 :=(by injection e173)
             replace hx173_0 :=(HB.out.cell (World.block_lt_of_cell? w _ hx173_0)).trans hx173_0
             replace p173 :=eq_true p173
             replace q173 :=eq_true q173
             go_upto_if 68 with (fail)
             go_cut [14] (fun v14 wc => ∃ (kq : Nat) (x14_50 : Int),v14 = .int .i64 x14_50 ∧ Aside0 (plan_Events.j2 kq l1 l2 a3 x11_2 x14_50 l0_1 (l0_1.length : Int) x40_2 ((rd_T36 l0_1 x40_2).f0) ((rd_T36 l0_1 x40_2).f1) ((rd_T36 l0_1 x40_2).f2) = some (r1,r2,r3,r4,r5)) ∧ Aside0 (kq ≤ k2) ∧ Aside0 (Kd.S k47 47 wc w.heap.size (fun _ => True) u11 x11_2) ∧ Aside0 (wc.heap[gb164]? = some (.cells #[.string a0_0,(.slice (some ad167) l0_1.length c0_1)] 28 (0,0))) ∧ Aside0 (wc.heap[gb165]? = some (.cells #[.int .i64 x166000_2,.int .i64 x166001_2,.bool x166002_2] 41 (0,0))) ∧ Aside0 (wc.heap[gb168]? = some (.cells #[.string ((rd_T36 l0_1 x40_2).f0),.int .i64 ((rd_T36 l0_1 x40_2).f1),(.slice A167_2 ((rd_T36 l0_1 x40_2).f2).length c167_2)] 36 (0,0))) ∧ Aside0 (Below w.heap.size w wc))
             case first =>
              have H :=HC51.out
              clear HC51
              obtain ⟨bq59,hbq59⟩ : ∃ b_ : Bool,b_ = (rdOf false l2 x40_2) :=⟨_,rfl⟩
              replace H : (if bq59 = true then (plan_Events.j2 k2 l1 l2 a3 x11_2 ((rd_T38 l1 x40_2).f0) l0_1 (l0_1.length : Int) x40_2 ((rd_T36 l0_1 x40_2).f0) ((rd_T36 l0_1 x40_2).f1) ((rd_T36 l0_1 x40_2).f2)) else (plan_Events.j2 k2 l1 l2 a3 x11_2 0 l0_1 (l0_1.length : Int) x40_2 ((rd_T36 l0_1 x40_2).f0) ((rd_T36 l0_1 x40_2).f1) ((rd_T36 l0_1 x40_2).f2))) = some (r1,r2,r3,r4,r5) :=by rw [← hbq59] at H;exact H
              have Nbq59 :=Aside0.mk hbq59
              clear hbq59
              (try rw [← Nbq59.out])
              by_cases c60 : bq59 = true
              ·subst c60
               have H1 : (plan_Events.j2 k2 l1 l2 a3 x11_2 ((rd_T38 l1 x40_2).f0) l0_1 (l0_1.length : Int) x40_2 ((rd_T36 l0_1 x40_2).f0) ((rd_T36 l0_1 x40_2).f1) ((rd_T36 l0_1 x40_2).f2)) = some (r1,r2,r3,r4,r5) :=by rw [if_pos rfl] at H;exact H
               clear H
               have H :=H1
               clear H1
               have H' :=Aside0.mk H
               clear H
               have p174 : 0 ≤ (x40_2 : Int) :=of_decide_eq_true (by first | (with_reducible assumption) | assumption)
               have q174 : x40_2 < (l1.length : Int) :=of_decide_eq_true (by first | (with_reducible assumption) | assumption)
               obtain ⟨ad174,e174,hx174_0,hx174_1,hx174_2⟩ :=at_T38 HR1.out x40_2 p174 q174
               (try rw [← Nbq31.out] at hx174_2)
               (try rw [← Nbq59.out] at hx174_2)
               obtain rfl : ad169 = ad174 :=(by injection e174)
               replace hx174_0 :=(HB.out.cell (World.block_lt_of_cell? w _ hx174_0)).trans hx174_0
               replace hx174_1 :=(HB.out.cell (World.block_lt_of_cell? w _ hx174_1)).trans hx174_1
               replace hx174_2 :=(HB.out.cell (World.block_lt_of_cell? w _ hx174_2)).trans hx174_2
               replace p174 :=eq_true p174
               replace q174 :=eq_true q174
               go_wp2
               go_meet
               case rel => exact ⟨_,((rd_T38 l1 x40_2).f0),(by first | rfl | (simp;done) | (simp [*];done)),H',⟨by have :=HJ4.out;have :=HK2.out;first | omega | exact Nat.le_refl _⟩,⟨by (with_reducible repeat (first | apply Kd.S_alloc | apply Kd.S_drewN | apply Kd.S_drew));exact HO_11.out⟩,⟨by (with_reducible repeat (first | refine blk_drewN ?_ _ | refine blk_drew ?_ | refine blk_alloc ?_ _));exact BK164.out⟩,⟨by (with_reducible repeat (first | refine blk_drewN ?_ _ | refine blk_drew ?_ | refine blk_alloc ?_ _));exact BK165.out⟩,⟨by (with_reducible repeat (first | refine blk_drewN ?_ _ | refine blk_drew ?_ | refine blk_alloc ?_ _));exact BK168.out⟩,⟨by repeat (first | (with_reducible first | exact HB.out | apply below_alloc | apply pw_below_drewN | apply below_drew1 | refine below_set ?_ GE164.out | refine below_set ?_ GE165.out | refine below_set ?_ GE168.out) | exact HB.out)⟩⟩
              ·replace c60 :=Bool.eq_false_iff.mpr c60
               subst c60
               have H1 : (plan_Events.j2 k2 l1 l2 a3 x11_2 0 l0_1 (l0_1.length : Int) x40_2 ((rd_T36 l0_1 x40_2).f0) ((rd_T36 l0_1 x40_2).f1) ((rd_T36 l0_1 x40_2).f2)) = some (r1,r2,r3,r4,r5) :=by rw [if_neg (show ¬ (false = true) by decide)] at H;exact H
               clear H
               have H :=H1
               clear H1
               have H' :=Aside0.mk H
               clear H
               go_wp2
               go_meet
               case rel => exact ⟨_,(0),(by first | rfl | (simp;done) | (simp [*];done)),H',⟨by have :=HJ4.out;have :=HK2.out;first | omega | exact Nat.le_refl _⟩,⟨by (with_reducible repeat (first | apply Kd.S_alloc | apply Kd.S_drewN | apply Kd.S_drew));exact HO_11.out⟩,⟨by (with_reducible repeat (first | refine blk_drewN ?_ _ | refine blk_drew ?_ | refine blk_alloc ?_ _));exact BK164.out⟩,⟨by (with_reducible repeat (first | refine blk_drewN ?_ _ | refine blk_drew ?_ | refine blk_alloc ?_ _));exact BK165.out⟩,⟨by (with_reducible repeat (first | refine blk_drewN ?_ _ | refine blk_drew ?_ | refine blk_alloc ?_ _));exact BK168.out⟩,⟨by repeat (first | (with_reducible first | exact HB.out | apply below_alloc | apply pw_below_drewN | apply below_drew1 | refine below_set ?_ GE164.out | refine below_set ?_ GE165.out | refine below_set ?_ GE168.out) | exact HB.out)⟩⟩
             case rest =>
              clear HC51
              try clear c1
              try clear p1
              try clear q1
              try clear hx1
              try clear c2
              try clear p2
              try clear c3
              try clear q3
              try clear c4
              try clear c5
              try clear q5
              try clear c6
              try clear c7
              try clear c8
              try clear c9
              try clear c10
              try clear c10b0
              try clear c10b1
              try clear c10b2
              try clear c11
              try clear c14
              try clear c15
              try clear c16
              try clear p16
              try clear q16
              try clear hx16
              try clear p17
              try clear q17
              try clear hx17
              try clear c19
              try clear c22
              try clear c23
              try clear c25
              try clear c27
              try clear c27b0
              try clear c28
              try clear c28b0
              try clear c29
              try clear c29b0
              try clear c30
              try clear c30b0
              try clear q31
              try clear c32
              try clear c34
              try clear c35
              try clear c37
              try clear c39
              try clear c39b0
              try clear c41
              try clear c43
              try clear c44
              try clear c49
              try clear c53
              try clear c54
              try clear q59
              try clear c60
              try clear hcz12_0
              try clear hcz12_1
              try clear hcz14_0
              try clear hcz14_1
              try clear hcz16_0
              try clear hcz16_1
              try clear hcz18_0
              try clear hcz18_1
              try clear hcz20_0
              try clear hcz20_1
              try clear hcz24_0
              try clear hcz24_1
              try clear hcz24_2
              try clear hcz26_0
              try clear hcz26_1
              try clear hcz36_0
              try clear hcz36_1
              try clear hcz36_2
              try clear hcz38_0
              try clear hcz38_1
              try clear hcz38_2
              try clear hcz45_0
              try clear hcz45_1
              try clear hcz45_2
              try clear hcz50_0
              try clear hcz50_1
              try clear hcz50_2
              try clear hcz55_0
              try clear hcz55_1
              try clear hcz55_2
              try clear hfz12_0
              try clear hfz12_1
              try clear hfz14_0
              try clear hfz14_1
              try clear hfz16_0
              try clear hfz16_1
              try clear hfz18_0
              try clear hfz18_1
              try clear hfz20_0
              try clear hfz20_1
              try clear hfz24_0
              try clear hfz24_1
              try clear hfz24_2
              try clear hfz26_0
              try clear hfz26_1
              try clear hfz36_0
              try clear hfz36_1
              try clear hfz36_2
              try clear hfz38_0
              try clear hfz38_1
              try clear hfz38_2
              try clear hfz45_0
              try clear hfz45_1
              try clear hfz45_2
              try clear hfz50_0
              try clear hfz50_1
              try clear hfz50_2
              try clear hfz55_0
              try clear hfz55_1
              try clear hfz55_2
              try clear hx167_0
              try clear hx167_1
              try clear hx167_2
              try clear hx169_0
              try clear hx169_1
              try clear hx169_2
              try clear hx170_0
              try clear hx170_1
              try clear hx170_2
              try clear hx171_0
              try clear hx173_0
              try clear hx174_0
              try clear hx174_1
              try clear hx174_2
              try clear p167
              try clear p169
              try clear p170
              try clear p171
              try clear p173
              try clear p174
              try clear p2
              try clear q167
              try clear q169
              try clear q170
              try clear q171
              try clear q173
              try clear q174
              obtain ⟨kq,x14_50,rfl,HA,HJ50,HO_11,BK164,BK165,BK168,HB⟩ :=hcut
              cases kq with
              | zero => exact absurd HA.out (by simp [plan_Events.j2])
              | succ kj50 =>
               have H :=HA.out
               clear HA
               simp only [plan_Events.j2] at H
               have H' :=Aside0.mk H
               clear H
               have hnb61 :=NB168_164.out
               have hnc61 :=NB164_168.out
               have hnb62 :=NB168_165.out
               have hnc62 :=NB165_168.out
               have hcz63_0 : wc.cell? ⟨gb168,0,none⟩ = some (.string ((rd_T36 l0_1 x40_2).f0)) :=(blk_cell BK168.out 0).trans rfl
               have hcz63_1 : wc.cell? ⟨gb168,1,none⟩ = some (.int .i64 ((rd_T36 l0_1 x40_2).f1)) :=(blk_cell BK168.out 1).trans rfl
               have hcz63_2 : wc.cell? ⟨gb168,2,none⟩ = some (.slice A167_2 ((rd_T36 l0_1 x40_2).f2).length c167_2) :=(blk_cell BK168.out 2).trans rfl
               have hfz63_0 :=blk_frozen BK168.out 0
               have hfz63_1 :=blk_frozen BK168.out 1
               have hfz63_2 :=blk_frozen BK168.out 2
               go_wp2
               go_loopg [11,14,77] kj50 (fun kq v11 v14 v77 w' => ∃ (x11_4 : List (S47)) (x14_4 : Int) (x77_4 : Int),v14 = .int .i64 x14_4 ∧ v77 = .int .i64 x77_4 ∧ Aside0 (plan_Events.l1 kq l1 l2 a3 x11_4 x14_4 l0_1 (l0_1.length : Int) x40_2 ((rd_T36 l0_1 x40_2).f2) (((rd_T36 l0_1 x40_2).f2).length : Int) x77_4 ((rd_T36 l0_1 x40_2).f0) ((rd_T36 l0_1 x40_2).f1) ((rd_T36 l0_1 x40_2).f2) = some (r1,r2,r3,r4,r5)) ∧ Aside0 (kq ≤ kj50) ∧ Aside0 (Kd.S k47 47 w' w.heap.size (fun _ => True) v11 x11_4) ∧ Aside0 (w'.heap[gb164]? = some (.cells #[.string a0_0,(.slice (some ad167) l0_1.length c0_1)] 28 (0,0))) ∧ Aside0 (w'.heap[gb165]? = some (.cells #[.int .i64 x166000_2,.int .i64 x166001_2,.bool x166002_2] 41 (0,0))) ∧ Aside0 (w'.heap[gb168]? = some (.cells #[.string ((rd_T36 l0_1 x40_2).f0),.int .i64 ((rd_T36 l0_1 x40_2).f1),(.slice A167_2 ((rd_T36 l0_1 x40_2).f2).length c167_2)] 36 (0,0))) ∧ Aside0 (Below w.heap.size w w'))
               case atStart => exact ⟨(x11_2),(x14_50),(0),(by first | rfl | (simp;done) | (simp [*];done)),(by first | rfl | (simp;done) | (simp [*];done)),H',⟨Nat.le_refl _⟩,⟨by (with_reducible repeat (first | apply Kd.S_alloc | apply Kd.S_drewN | apply Kd.S_drew));exact HO_11.out⟩,⟨by (with_reducible repeat (first | refine blk_drewN ?_ _ | refine blk_drew ?_ | refine blk_alloc ?_ _));exact BK164.out⟩,⟨by (with_reducible repeat (first | refine blk_drewN ?_ _ | refine blk_drew ?_ | refine blk_alloc ?_ _));exact BK165.out⟩,⟨by (with_reducible repeat (first | refine blk_drewN ?_ _ | refine blk_drew ?_ | refine blk_alloc ?_ _));exact BK168.out⟩,⟨by repeat (first | (with_reducible first | exact HB.out | apply below_alloc | apply pw_below_drewN | apply below_drew1 | refine below_set ?_ GE164.out | refine below_set ?_ GE165.out | refine below_set ?_ GE168.out) | exact HB.out)⟩⟩
               case round =>
                clear H'
                try clear c1
                try clear p1
                try clear q1
                try clear hx1
                try clear c2
                try clear p2
                try clear c3
                try clear q3
                try clear c4
                try clear c5
                try clear q5
                try clear c6
                try clear c7
                try clear c8
                try clear c9
                try clear c10
                try clear c10b0
                try clear c10b1
                try clear c10b2
                try clear c11
                try clear c14
                try clear c15
                try clear c16
                try clear p16
                try clear q16
                try clear hx16
                try clear p17
                try clear q17
                try clear hx17
                try clear c19
                try clear c22
                try clear c23
                try clear c25
                try clear c27
                try clear c27b0
                try clear c28
                try clear c28b0
                try clear c29
                try clear c29b0
                try clear c30
                try clear c30b0
                try clear q31
                try clear c32
                try clear c34
                try clear c35
                try clear c37
                try clear c39
                try clear c39b0
                try clear c41
                try clear c43
                try clear c44
                try clear c49
                try clear c53
                try clear c54
                try clear q59
                try clear c60
                try clear c61
                try clear c62
                try clear hcz12_0
                try clear hcz12_1
                try clear hcz14_0
                try clear hcz14_1
                try clear hcz16_0
                try clear hcz16_1
                try clear hcz18_0
                try clear hcz18_1
                try clear hcz20_0
                try clear hcz20_1
                try clear hcz24_0
                try clear hcz24_1
                try clear hcz24_2
                try clear hcz26_0
                try clear hcz26_1
                try clear hcz36_0
                try clear hcz36_1
                try clear hcz36_2
                try clear hcz38_0
                try clear hcz38_1
                try clear hcz38_2
                try clear hcz45_0
                try clear hcz45_1
                try clear hcz45_2
                try clear hcz50_0
                try clear hcz50_1
                try clear hcz50_2
                try clear hcz55_0
                try clear hcz55_1
                try clear hcz55_2
                try clear hcz63_0
                try clear hcz63_1
                try clear hcz63_2
                try clear hfz12_0
                try clear hfz12_1
                try clear hfz14_0
                try clear hfz14_1
                try clear hfz16_0
                try clear hfz16_1
                try clear hfz18_0
                try clear hfz18_1
                try clear hfz20_0
                try clear hfz20_1
                try clear hfz24_0
                try clear hfz24_1
                try clear hfz24_2
                try clear hfz26_0
                try clear hfz26_1
                try clear hfz36_0
                try clear hfz36_1
                try clear hfz36_2
                try clear hfz38_0
                try clear hfz38_1
                try clear hfz38_2
                try clear hfz45_0
                try clear hfz45_1
                try clear hfz45_2
                try clear hfz50_0
                try clear hfz50_1
                try clear hfz50_2
                try clear hfz55_0
                try clear hfz55_1
                try clear hfz55_2
                try clear hfz63_0
                try clear hfz63_1
                try clear hfz63_2
                try clear hx167_0
                try clear hx167_1
                try clear hx167_2
                try clear hx169_0
                try clear hx169_1
                try clear hx169_2
                try clear hx170_0
                try clear hx170_1
                try clear hx170_2
                try clear hx171_0
                try clear hx173_0
                try clear hx174_0
                try clear hx174_1
                try clear hx174_2
                try clear p1
                try clear p16
                try clear p167
                try clear p169
                try clear p17
                try clear p170
                try clear p171
                try clear p173
                try clear p174
                try clear p2
                try clear q1
                try clear q16
                try clear q167
                try clear q169
                try clear q17
                try clear q170
                try clear q171
                try clear q173
                try clear q174
                try clear q3
                try clear q31
                try clear q5
                try clear q59
                obtain ⟨x11_4,x14_4,x77_4,rfl,rfl,HA,HK4,HO_11,BK164,BK165,BK168,HB⟩ :=hrel
                cases gk with
                | zero => exact absurd HA.out (by simp [plan_Events.l1])
                | succ k4 =>
                 have H :=HA.out
                 clear HA
                 simp only [plan_Events.l1] at H
                 by_cases c64 : x77_4 < (((rd_T36 l0_1 x40_2).f2).length : Int)
                 ·rw [if_pos c64] at H
                  have c64b0 : decide (x77_4 < (((rd_T36 l0_1 x40_2).f2).length : Int)) = true :=decide_eq_true c64
                  clear c64
                  by_cases c65 : 0 ≤ x77_4
                  ·rw [if_pos c65] at H
                   have c65b0 : decide (0 ≤ x77_4) = true :=decide_eq_true c65
                   clear c65
                   by_cases c66 : x77_4 < (((rd_T36 l0_1 x40_2).f2).length : Int)
                   ·rw [if_pos c66] at H
                    have c66b0 : decide (x77_4 < (((rd_T36 l0_1 x40_2).f2).length : Int)) = true :=decide_eq_true c66
                    clear c66
                    replace H :=Option.bind_eq_some_iff.mp H
                    obtain ⟨t177,A670,H⟩ :=H
                    replace H : (if x11_4.length < 1954687338268 then (plan_Events.l1 k4 l1 l2 a3 (x11_4 ++ [(⟨wrap64 (a3 + (x11_4.length : Int)),((rd_T36 l0_1 x40_2).f0),x14_4,(rd_T49 ((rd_T36 l0_1 x40_2).f2) x77_4).f0,t177⟩ : S47)]) (wrap64 (x14_4 + 1)) l0_1 (l0_1.length : Int) x40_2 ((rd_T36 l0_1 x40_2).f2) (((rd_T36 l0_1 x40_2).f2).length : Int) (wrap64 (x77_4 + 1)) ((rd_T36 l0_1 x40_2).f0) ((rd_T36 l0_1 x40_2).f1) ((rd_T36 l0_1 x40_2).f2)) else (none)) = some (r1,r2,r3,r4,r5) :=H
                    have A67 :=Aside0.mk A670
                    clear A670
                    by_cases c68 : x11_4.length < 1954687338268
                    ·rw [if_pos c68] at H
                     have LMc68 :=Aside0.mk c68
                     clear c68
                     obtain ⟨y180,hy180⟩ : ∃ y_ : List (S47),y_ = (x11_4 ++ [(⟨wrap64 (a3 + (x11_4.length : Int)),((rd_T36 l0_1 x40_2).f0),x14_4,(rd_T49 ((rd_T36 l0_1 x40_2).f2) x77_4).f0,t177⟩ : S47)]) :=⟨_,rfl⟩
                     replace H : (plan_Events.l1 k4 l1 l2 a3 y180 (wrap64 (x14_4 + 1)) l0_1 (l0_1.length : Int) x40_2 ((rd_T36 l0_1 x40_2).f2) (((rd_T36 l0_1 x40_2).f2).length : Int) (wrap64 (x77_4 + 1)) ((rd_T36 l0_1 x40_2).f0) ((rd_T36 l0_1 x40_2).f1) ((rd_T36 l0_1 x40_2).f2)) = some (r1,r2,r3,r4,r5) :=by first | (rw [hy180];with_reducible exact H) | (have H2_ :=(Option.bind_some _ _).symm.trans H;rw [hy180];with_reducible exact H2_) | (have H2_ :=(Option.bind_some _ _).symm.trans H;with_reducible exact H2_) | with_reducible exact H | (rw [hy180];exact H) | exact H
                     have Ny180 :=Aside0.mk hy180
                     clear hy180
                     have H' :=Aside0.mk H
                     clear H
                     have p175 : 0 ≤ (x77_4 : Int) :=of_decide_eq_true (by first | (with_reducible assumption) | assumption)
                     have q175 : x77_4 < (((rd_T36 l0_1 x40_2).f2).length : Int) :=of_decide_eq_true (by first | (with_reducible assumption) | assumption)
                     obtain ⟨ad175,A175_1,c175_1,e175,hx175_0,hx175_1,hl175_1,hi175_1⟩ :=at_T49 HR167_2.out x77_4 p175 q175
                     cases e175
                     replace hx175_0 :=(HB.out.cell (World.block_lt_of_cell? w _ hx175_0)).trans hx175_0
                     replace hx175_1 :=(HB.out.cell (World.block_lt_of_cell? w _ hx175_1)).trans hx175_1
                     have HR175_1 :=Aside0.mk hi175_1
                     have HC175_1 :=Aside0.mk hl175_1
                     clear hi175_1 hl175_1
                     replace p175 :=eq_true p175
                     replace q175 :=eq_true q175
                     try go_wp2_with (first | ((with_reducible refine gate_dst (N :=16) rfl ?_);(try (refine gate_guard (by rfl) ?_;dsimp only));refine box_event ?hg (N :=16) ?hd (cs :=#[.string (⟨#[]⟩ : ByteArray),.slice none 0 0]) (t :=49) ?hr ?_;(case hd => rfl);(case hg => rfl);(case hr => first | (go_simp;done) | (go_simp;rfl));intro gb176 hg w69 hbox hb;have n0_ :=Aside0.mk (Kd.S_below (by (with_reducible repeat (first | apply Kd.S_alloc | apply Kd.S_drewN | apply Kd.S_drew));exact HO_11.out) hb);have n1_ :=Aside0.mk (blk_below (g :=gb164) (o :=.cells #[.string a0_0,.slice (some ad167) l0_1.length c0_1] 28 (0,0)) (by (with_reducible repeat (first | refine blk_drewN ?_ _ | refine blk_drew ?_ | refine blk_alloc ?_ _));exact BK164.out) hb);have n2_ :=Aside0.mk (blk_below (g :=gb165) (o :=.cells #[.int .i64 x166000_2,.int .i64 x166001_2,.bool x166002_2] 41 (0,0)) (by (with_reducible repeat (first | refine blk_drewN ?_ _ | refine blk_drew ?_ | refine blk_alloc ?_ _));exact BK165.out) hb);have n3_ :=Aside0.mk (blk_below (g :=gb168) (o :=.cells #[.string ((rd_T36 l0_1 x40_2).f0),.int .i64 ((rd_T36 l0_1 x40_2).f1),.slice (some ad175) ((rd_T36 l0_1 x40_2).f2).length c167_2] 36 (0,0)) (by (with_reducible repeat (first | refine blk_drewN ?_ _ | refine blk_drew ?_ | refine blk_alloc ?_ _));exact BK168.out) hb);have n4_ :=Aside0.mk (below_step (by repeat (first | (with_reducible first | exact HB.out | apply below_alloc | apply pw_below_drewN | apply below_drew1 | refine below_set ?_ GE164.out | refine below_set ?_ GE165.out | refine below_set ?_ GE168.out) | exact HB.out)) hb);have n5_ :=Aside0.mk (hbox);have n6_ :=Aside0.mk ((by rw [hg];exact (below_size (by repeat (first | (with_reducible first | exact HB.out | apply below_alloc | apply pw_below_drewN | apply below_drew1 | refine below_set ?_ GE164.out | refine below_set ?_ GE165.out | refine below_set ?_ GE168.out) | exact HB.out))) : w.heap.size ≤ gb176));have n7_ :=Aside0.mk ((by rw [hg];exact (below_size (by repeat (first | (with_reducible first | exact HB.out | apply below_alloc | apply pw_below_drewN | apply below_drew1 | refine below_set ?_ GE164.out | refine below_set ?_ GE165.out | refine below_set ?_ GE168.out) | exact HB.out))) : w.heap.size ≤ gb176));have n8_ :=Aside0.mk ((by rw [hg];exact Nat.ne_of_lt (blk_lt (g :=gb164) (o :=.cells #[.string a0_0,.slice (some ad167) l0_1.length c0_1] 28 (0,0)) (by (with_reducible repeat (first | refine blk_drewN ?_ _ | refine blk_drew ?_ | refine blk_alloc ?_ _));exact BK164.out)) : gb164 ≠ gb176));have n9_ :=Aside0.mk ((by rw [hg];exact Nat.ne_of_gt (blk_lt (g :=gb164) (o :=.cells #[.string a0_0,.slice (some ad167) l0_1.length c0_1] 28 (0,0)) (by (with_reducible repeat (first | refine blk_drewN ?_ _ | refine blk_drew ?_ | refine blk_alloc ?_ _));exact BK164.out)) : gb176 ≠ gb164));have n10_ :=Aside0.mk ((by rw [hg];exact Nat.ne_of_lt (blk_lt (g :=gb165) (o :=.cells #[.int .i64 x166000_2,.int .i64 x166001_2,.bool x166002_2] 41 (0,0)) (by (with_reducible repeat (first | refine blk_drewN ?_ _ | refine blk_drew ?_ | refine blk_alloc ?_ _));exact BK165.out)) : gb165 ≠ gb176));have n11_ :=Aside0.mk ((by rw [hg];exact Nat.ne_of_gt (blk_lt (g :=gb165) (o :=.cells #[.int .i64 x166000_2,.int .i64 x166001_2,.bool x166002_2] 41 (0,0)) (by (with_reducible repeat (first | refine blk_drewN ?_ _ | refine blk_drew ?_ | refine blk_alloc ?_ _));exact BK165.out)) : gb176 ≠ gb165));have n12_ :=Aside0.mk ((by rw [hg];exact Nat.ne_of_lt (blk_lt (g :=gb168) (o :=.cells #[.string ((rd_T36 l0_1 x40_2).f0),.int .i64 ((rd_T36 l0_1 x40_2).f1),.slice (some ad175) ((rd_T36 l0_1 x40_2).f2).length c167_2] 36 (0,0)) (by (with_reducible repeat (first | refine blk_drewN ?_ _ | refine blk_drew ?_ | refine blk_alloc ?_ _));exact BK168.out)) : gb168 ≠ gb176));have n13_ :=Aside0.mk ((by rw [hg];exact Nat.ne_of_gt (blk_lt (g :=gb168) (o :=.cells #[.string ((rd_T36 l0_1 x40_2).f0),.int .i64 ((rd_T36 l0_1 x40_2).f1),.slice (some ad175) ((rd_T36 l0_1 x40_2).f2).length c167_2] 36 (0,0)) (by (with_reducible repeat (first | refine blk_drewN ?_ _ | refine blk_drew ?_ | refine blk_alloc ?_ _));exact BK168.out)) : gb176 ≠ gb168));clear HO_11;clear BK164;clear BK165;clear BK168;clear HB;have HO_11 :=n0_;have BK164 :=n1_;have BK165 :=n2_;have BK168 :=n3_;have HB :=n4_;have BK176 :=n5_;have GW176 :=n6_;have GE176 :=n7_;have NB164_176 :=n8_;have NB176_164 :=n9_;have NB165_176 :=n10_;have NB176_165 :=n11_;have NB168_176 :=n12_;have NB176_168 :=n13_;clear n0_ n1_ n2_ n3_ n4_ n5_ n6_ n7_ n8_ n9_ n10_ n11_ n12_ n13_;clear hb hbox hg;have hnb70 :=NB176_164.out;have hnc70 :=NB164_176.out;have hnb71 :=NB176_165.out;have hnc71 :=NB165_176.out;have hnb72 :=NB176_168.out;have hnc72 :=NB168_176.out;have hcz73_0 : w69.cell? ⟨gb176,0,none⟩ = some (.string (⟨#[]⟩ : ByteArray)) :=(blk_cell BK176.out 0).trans rfl;have hcz73_1 : w69.cell? ⟨gb176,1,none⟩ = some (.slice none 0 0) :=(blk_cell BK176.out 1).trans rfl;have hfz73_0 :=blk_frozen BK176.out 0;have hfz73_1 :=blk_frozen BK176.out 1))
                     have n0_ : Aside0 (Kd.S k47 47 ((w69.setCell ⟨gb176,0,none⟩ (.string ((rd_T49 ((rd_T36 l0_1 x40_2).f2) x77_4).f0))).setCell ⟨gb176,1,none⟩ (.slice A175_1 ((rd_T49 ((rd_T36 l0_1 x40_2).f2) x77_4).f1).length c175_1)) w.heap.size (fun _ => True) u11 x11_4) :=⟨by (with_reducible repeat (first | apply Kd.S_alloc | apply Kd.S_drewN | apply Kd.S_drew));exact Kd.S_mono (Kd.S_far (p :=⟨gb176,1,none⟩) (Kd.S_far (p :=⟨gb176,0,none⟩) (Kd.S_types HO_11.out BK176.out (by decide)) (fun _ hk => hk.2) (.string ((rd_T49 ((rd_T36 l0_1 x40_2).f2) x77_4).f0))) (fun _ hk => hk.2) (.slice A175_1 ((rd_T49 ((rd_T36 l0_1 x40_2).f2) x77_4).f1).length c175_1)) (fun _ hk => trivial)⟩
                     have n1_ : Aside0 (((w69.setCell ⟨gb176,0,none⟩ (.string ((rd_T49 ((rd_T36 l0_1 x40_2).f2) x77_4).f0))).setCell ⟨gb176,1,none⟩ (.slice A175_1 ((rd_T49 ((rd_T36 l0_1 x40_2).f2) x77_4).f1).length c175_1)).heap[gb164]? = some (.cells #[.string a0_0,.slice (some ad167) l0_1.length c0_1] 28 (0,0))) :=⟨by (with_reducible repeat (first | refine blk_drewN ?_ _ | refine blk_drew ?_ | refine blk_alloc ?_ _));refine blk_far ?_ NB164_176.out _;(with_reducible repeat (first | refine blk_drewN ?_ _ | refine blk_drew ?_ | refine blk_alloc ?_ _));refine blk_far ?_ NB164_176.out _;(with_reducible repeat (first | refine blk_drewN ?_ _ | refine blk_drew ?_ | refine blk_alloc ?_ _));exact BK164.out⟩
                     have n2_ : Aside0 (((w69.setCell ⟨gb176,0,none⟩ (.string ((rd_T49 ((rd_T36 l0_1 x40_2).f2) x77_4).f0))).setCell ⟨gb176,1,none⟩ (.slice A175_1 ((rd_T49 ((rd_T36 l0_1 x40_2).f2) x77_4).f1).length c175_1)).heap[gb165]? = some (.cells #[.int .i64 x166000_2,.int .i64 x166001_2,.bool x166002_2] 41 (0,0))) :=⟨by (with_reducible repeat (first | refine blk_drewN ?_ _ | refine blk_drew ?_ | refine blk_alloc ?_ _));refine blk_far ?_ NB165_176.out _;(with_reducible repeat (first | refine blk_drewN ?_ _ | refine blk_drew ?_ | refine blk_alloc ?_ _));refine blk_far ?_ NB165_176.out _;(with_reducible repeat (first | refine blk_drewN ?_ _ | refine blk_drew ?_ | refine blk_alloc ?_ _));exact BK165.out⟩
                     have n3_ : Aside0 (((w69.setCell ⟨gb176,0,none⟩ (.string ((rd_T49 ((rd_T36 l0_1 x40_2).f2) x77_4).f0))).setCell ⟨gb176,1,none⟩ (.slice A175_1 ((rd_T49 ((rd_T36 l0_1 x40_2).f2) x77_4).f1).length c175_1)).heap[gb168]? = some (.cells #[.string ((rd_T36 l0_1 x40_2).f0),.int .i64 ((rd_T36 l0_1 x40_2).f1),.slice (some ad175) ((rd_T36 l0_1 x40_2).f2).length c167_2] 36 (0,0))) :=⟨by (with_reducible repeat (first | refine blk_drewN ?_ _ | refine blk_drew ?_ | refine blk_alloc ?_ _));refine blk_far ?_ NB168_176.out _;(with_reducible repeat (first | refine blk_drewN ?_ _ | refine blk_drew ?_ | refine blk_alloc ?_ _));refine blk_far ?_ NB168_176.out _;(with_reducible repeat (first | refine blk_drewN ?_ _ | refine blk_drew ?_ | refine blk_alloc ?_ _));exact BK168.out⟩
                     have n4_ : Aside0 (((w69.setCell ⟨gb176,0,none⟩ (.string ((rd_T49 ((rd_T36 l0_1 x40_2).f2) x77_4).f0))).setCell ⟨gb176,1,none⟩ (.slice A175_1 ((rd_T49 ((rd_T36 l0_1 x40_2).f2) x77_4).f1).length c175_1)).heap[gb176]? = some (.cells #[.string ((rd_T49 ((rd_T36 l0_1 x40_2).f2) x77_4).f0),.slice A175_1 ((rd_T49 ((rd_T36 l0_1 x40_2).f2) x77_4).f1).length c175_1] 49 (0,0))) :=⟨by (with_reducible repeat (first | refine blk_drewN ?_ _ | refine blk_drew ?_ | refine blk_alloc ?_ _));refine blk_put (cs :=#[.string ((rd_T49 ((rd_T36 l0_1 x40_2).f2) x77_4).f0),.slice none 0 0]) ?_ 1 _ rfl;(with_reducible repeat (first | refine blk_drewN ?_ _ | refine blk_drew ?_ | refine blk_alloc ?_ _));refine blk_put (cs :=#[.string (⟨#[]⟩ : ByteArray),.slice none 0 0]) ?_ 0 _ rfl;(with_reducible repeat (first | refine blk_drewN ?_ _ | refine blk_drew ?_ | refine blk_alloc ?_ _));exact BK176.out⟩
                     have n5_ : Aside0 (Below w.heap.size w ((w69.setCell ⟨gb176,0,none⟩ (.string ((rd_T49 ((rd_T36 l0_1 x40_2).f2) x77_4).f0))).setCell ⟨gb176,1,none⟩ (.slice A175_1 ((rd_T49 ((rd_T36 l0_1 x40_2).f2) x77_4).f1).length c175_1))) :=⟨by repeat (first | (with_reducible first | exact HB.out | apply below_alloc | apply pw_below_drewN | apply below_drew1 | refine below_set ?_ GE164.out | refine below_set ?_ GE165.out | refine below_set ?_ GE168.out | refine below_set ?_ GE176.out) | exact HB.out)⟩
                     (try clear HO_11)
                     (try clear BK164)
                     (try clear BK165)
                     (try clear BK168)
                     (try clear BK176)
                     (try clear HB)
                     generalize ((w69.setCell ⟨gb176,0,none⟩ (.string ((rd_T49 ((rd_T36 l0_1 x40_2).f2) x77_4).f0))).setCell ⟨gb176,1,none⟩ (.slice A175_1 ((rd_T49 ((rd_T36 l0_1 x40_2).f2) x77_4).f1).length c175_1)) = w74 at n0_ n1_ n2_ n3_ n4_ n5_ ⊢
                     have HO_11 :=n0_
                     have BK164 :=n1_
                     have BK165 :=n2_
                     have BK168 :=n3_
                     have BK176 :=n4_
                     have HB :=n5_
                     clear n0_ n1_ n2_ n3_ n4_ n5_
                     have n0_ :=Aside0.mk (Kd.S_drew HO_11.out)
                     have n1_ :=Aside0.mk (blk_drew BK164.out)
                     have n2_ :=Aside0.mk (blk_drew BK165.out)
                     have n3_ :=Aside0.mk (blk_drew BK168.out)
                     have n4_ :=Aside0.mk (blk_drew BK176.out)
                     have n5_ :=Aside0.mk (below_drew1 HB.out)
                     clear HO_11
                     clear BK164
                     clear BK165
                     clear BK168
                     clear BK176
                     clear HB
                     have HO_11 :=n0_
                     have BK164 :=n1_
                     have BK165 :=n2_
                     have BK168 :=n3_
                     have BK176 :=n4_
                     have HB :=n5_
                     clear n0_ n1_ n2_ n3_ n4_ n5_
                     obtain ⟨Ao76,co76,eo76⟩ :=Kd.S_slice HO_11.out
                     (first | subst eo76 | (injection eo76 with f1_ f2_ f3_;have f4_ :=f1_.symm;have f5_ :=f3_.symm;clear f1_ f2_ f3_;subst f4_;subst f5_))
                     refine start_ (n :=17) (S :=fun w' => w'.cell? ⟨gb168,0,none⟩ = some (.string ((rd_T36 l0_1 x40_2).f0)) ∧ w'.cell? ⟨gb168,1,none⟩ = some (.int .i64 ((rd_T36 l0_1 x40_2).f1)) ∧ w'.cell? ⟨gb168,2,none⟩ = some (.slice (some ad175) ((rd_T36 l0_1 x40_2).f2).length c167_2) ∧ w'.cell? ⟨gb176,0,none⟩ = some (.string ((rd_T49 ((rd_T36 l0_1 x40_2).f2) x77_4).f0)) ∧ w'.cell? ⟨gb176,1,none⟩ = some (.slice A175_1 ((rd_T49 ((rd_T36 l0_1 x40_2).f2) x77_4).f1).length c175_1)) (ds :=[]) #[false,false,false,false,false,false,false,false,false,false,false,false,false,false,false,false,false] (by kernel_rfl) rfl rfl ⟨(blk_cell BK168.out 0).trans rfl,(blk_cell BK168.out 1).trans rfl,(blk_cell BK168.out 2).trans rfl,(blk_cell BK176.out 0).trans rfl,(blk_cell BK176.out 1).trans rfl⟩ (fun hHeld => ?_);refine with_tabW plan_Events.tab17 plan_Events.bits17 (fun HT_ HW_ => ?_)
                     generalize w74.drew = w75 at HO_11 BK164 BK165 BK168 BK176 HB hHeld ⊢
                     refine pure_ (i :=0) (N :=some 81) (v :=?_) (a' :=?_) #[true,false,false,false,false,false,false,false,false,false,false,false,false,false,false,false,false] rfl rfl (any_of HT_.out (by kernel_rfl)) (fun _ _ _ h => h) (Or.inl ⟨by rfl,?_⟩) ?_ ?_
                     rotate_left
                     ·intro w'
                      go_simp
                      with_reducible rfl
                     rotate_left
                     ·simp only [Act.put,List.setIfInBounds_toArray,List.set_cons_zero,List.set_cons_succ,i64_w,i32_w]
                      rfl
                     refine pure_ (i :=1) (N :=some 82) (v :=?_) (a' :=?_) #[true,true,false,false,false,false,false,false,false,false,false,false,false,false,false,false,false] rfl rfl (any_of HT_.out (by kernel_rfl)) (fun _ _ _ h => h) (Or.inl ⟨by rfl,?_⟩) ?_ ?_
                     rotate_left
                     ·intro w'
                      go_simp
                      with_reducible rfl
                     rotate_left
                     ·simp only [Act.put,List.setIfInBounds_toArray,List.set_cons_zero,List.set_cons_succ,i64_w,i32_w]
                      rfl
                     refine pure_ (i :=2) (N :=some 83) (v :=?_) (a' :=?_) #[true,true,true,false,false,false,false,false,false,false,false,false,false,false,false,false,false] rfl rfl (any_of HT_.out (by kernel_rfl)) (fun _ _ _ h => h) (Or.inl ⟨by rfl,?_⟩) ?_ ?_
                     rotate_left
                     ·intro w'
                      go_simp
                      with_reducible rfl
                     rotate_left
                     ·simp only [Act.put,List.setIfInBounds_toArray,List.set_cons_zero,List.set_cons_succ,i64_w,i32_w]
                      rfl
                     refine pure_ (i :=3) (N :=some 84) (v :=?_) (a' :=?_) #[true,true,true,true,false,false,false,false,false,false,false,false,false,false,false,false,false] rfl rfl (any_of HT_.out (by kernel_rfl)) (fun _ _ _ h => h) (Or.inl ⟨by rfl,?_⟩) ?_ ?_
                     rotate_left
                     ·intro w'
                      go_simp
                      with_reducible rfl
                     rotate_left
                     ·simp only [Act.put,List.setIfInBounds_toArray,List.set_cons_zero,List.set_cons_succ,i64_w,i32_w]
                      rfl
                     refine pure_ (i :=4) (N :=some 85) (v :=?_) (a' :=?_) #[true,true,true,true,true,false,false,false,false,false,false,false,false,false,false,false,false] rfl rfl (any_of HT_.out (by kernel_rfl)) (fun _ _ _ h => h) (Or.inl ⟨by rfl,?_⟩) ?_ ?_
                     rotate_left
                     ·intro w'
                      go_simp
                      with_reducible rfl
                     rotate_left
                     ·simp only [Act.put,List.setIfInBounds_toArray,List.set_cons_zero,List.set_cons_succ,i64_w,i32_w]
                      rfl
                     refine pure_ (i :=5) (N :=some 86) (v :=?_) (a' :=?_) #[true,true,true,true,true,true,false,false,false,false,false,false,false,false,false,false,false] rfl rfl (any_of HT_.out (by kernel_rfl)) (fun _ _ _ h => h) (Or.inl ⟨by rfl,?_⟩) ?_ ?_
                     rotate_left
                     ·intro w'
                      go_simp
                      with_reducible rfl
                     rotate_left
                     ·simp only [Act.put,List.setIfInBounds_toArray,List.set_cons_zero,List.set_cons_succ,i64_w,i32_w]
                      rfl
                     refine pure_ (i :=7) (N :=some 88) (v :=?_) (a' :=?_) #[true,true,true,true,true,true,false,true,false,false,false,false,false,false,false,false,false] rfl rfl (any_of HT_.out (by kernel_rfl)) (fun _ _ _ h => h) (Or.inl ⟨by rfl,?_⟩) ?_ ?_
                     rotate_left
                     ·intro w'
                      go_simp
                      with_reducible rfl
                     rotate_left
                     ·simp only [Act.put,List.setIfInBounds_toArray,List.set_cons_zero,List.set_cons_succ,i64_w,i32_w]
                      rfl
                     refine pure_ (i :=8) (N :=some 89) (v :=?_) (a' :=?_) #[true,true,true,true,true,true,false,true,true,false,false,false,false,false,false,false,false] rfl rfl (any_of HT_.out (by kernel_rfl)) (fun _ _ _ h => h) (Or.inl ⟨by rfl,?_⟩) ?_ ?_
                     rotate_left
                     ·intro w'
                      go_simp
                      with_reducible rfl
                     rotate_left
                     ·simp only [Act.put,List.setIfInBounds_toArray,List.set_cons_zero,List.set_cons_succ,i64_w,i32_w]
                      rfl
                     refine pure_ (i :=10) (N :=some 91) (v :=?_) (a' :=?_) #[true,true,true,true,true,true,false,true,true,false,true,false,false,false,false,false,false] rfl rfl (any_of HT_.out (by kernel_rfl)) (fun _ _ _ h => h) (Or.inl ⟨by rfl,?_⟩) ?_ ?_
                     rotate_left
                     ·intro w'
                      go_simp
                      with_reducible rfl
                     rotate_left
                     ·simp only [Act.put,List.setIfInBounds_toArray,List.set_cons_zero,List.set_cons_succ,i64_w,i32_w]
                      rfl
                     refine take_ (i :=6) (N :=some 87) (v :=?_) (a' :=?_) #[true,true,true,true,true,true,true,true,true,false,true,false,false,false,false,false,false] rfl rfl (take_ofW HT_.out HW_.out (by kernel_rfl)) (fun _ _ _ h => h) (Or.inl ⟨by rfl,?_⟩) hHeld ?_ ?_
                     rotate_left
                     ·rintro w' ⟨s0,s1,s2,s3,s4⟩
                      go_simp
                      with_reducible rfl
                     rotate_left
                     ·simp only [Act.put,List.setIfInBounds_toArray,List.set_cons_zero,List.set_cons_succ,i64_w,i32_w]
                      rfl
                     refine take_ (i :=9) (N :=some 90) (v :=?_) (a' :=?_) #[true,true,true,true,true,true,true,true,true,true,true,false,false,false,false,false,false] rfl rfl (take_ofW HT_.out HW_.out (by kernel_rfl)) (fun _ _ _ h => h) (Or.inl ⟨by rfl,?_⟩) hHeld ?_ ?_
                     rotate_left
                     ·rintro w' ⟨s0,s1,s2,s3,s4⟩
                      go_simp
                      with_reducible rfl
                     rotate_left
                     ·simp only [Act.put,List.setIfInBounds_toArray,List.set_cons_zero,List.set_cons_succ,i64_w,i32_w]
                      rfl
                     refine take_ (i :=11) (N :=some 92) (v :=?_) (a' :=?_) #[true,true,true,true,true,true,true,true,true,true,true,true,false,false,false,false,false] rfl rfl (take_ofW HT_.out HW_.out (by kernel_rfl)) (fun _ _ _ h => h) (Or.inl ⟨by rfl,?_⟩) hHeld ?_ ?_
                     rotate_left
                     ·rintro w' ⟨s0,s1,s2,s3,s4⟩
                      go_simp
                      with_reducible rfl
                     rotate_left
                     ·simp only [Act.put,List.setIfInBounds_toArray,List.set_cons_zero,List.set_cons_succ,i64_w,i32_w]
                      rfl
                     refine one_ (i :=12) (N :=some 93) #[true,true,true,true,true,true,true,true,true,true,true,true,true,false,false,false,false] rfl rfl (one_of HT_.out (by kernel_rfl)) (by decide) (fun K hK => ?_)
                     refine goes_ Try.func15 (by kernel_rfl) rfl #[.slice A175_1 ((rd_T49 ((rd_T36 l0_1 x40_2).f2) x77_4).f1).length c175_1] (by rfl) rfl rfl (by (try simp only [List.map_toArray,List.map_cons,List.map_nil]);first | done | rfl | (simp only [List.length_drop,List.length_take];rfl)) ?_
                     with_reducible refine (slices_Clone_byte_byte.calls _ _ ((rd_T49 ((rd_T36 l0_1 x40_2).f2) x77_4).f1) t177 _ ?side1 ?side2 A67.out).mono ?_
                     (case side1 => repeat (first | exact (Kd.C_below HR175_1.out HB.out) | (with_reducible refine Kd.C_alloc ?_ _) | (with_reducible refine Kd.C_drewN ?_ _) | (with_reducible refine Kd.C_drew ?_)))
                     (case side2 => exact HC175_1.out)
                     rintro e w77 ⟨v178,rfl,ho0,hb⟩
                     refine ⟨_,rfl,?_⟩
                     have n0_ :=Aside0.mk (Kd.S_elder' (by (with_reducible repeat (first | apply Kd.S_alloc | apply Kd.S_drewN | apply Kd.S_drew));exact HO_11.out) (Kd.R_base ho0) hb)
                     have n1_ :=Aside0.mk (Kd.R_lower ho0 (below_size (by repeat (first | (with_reducible first | exact HB.out | apply below_alloc | apply pw_below_drewN | apply below_drew1 | refine below_set ?_ GE164.out | refine below_set ?_ GE165.out | refine below_set ?_ GE168.out | refine below_set ?_ GE176.out) | exact HB.out))))
                     have n2_ :=Aside0.mk (blk_below (g :=gb164) (o :=.cells #[.string a0_0,.slice (some ad167) l0_1.length c0_1] 28 (0,0)) (by (with_reducible repeat (first | refine blk_drewN ?_ _ | refine blk_drew ?_ | refine blk_alloc ?_ _));exact BK164.out) hb)
                     have n3_ :=Aside0.mk (blk_below (g :=gb165) (o :=.cells #[.int .i64 x166000_2,.int .i64 x166001_2,.bool x166002_2] 41 (0,0)) (by (with_reducible repeat (first | refine blk_drewN ?_ _ | refine blk_drew ?_ | refine blk_alloc ?_ _));exact BK165.out) hb)
                     have n4_ :=Aside0.mk (blk_below (g :=gb168) (o :=.cells #[.string ((rd_T36 l0_1 x40_2).f0),.int .i64 ((rd_T36 l0_1 x40_2).f1),.slice (some ad175) ((rd_T36 l0_1 x40_2).f2).length c167_2] 36 (0,0)) (by (with_reducible repeat (first | refine blk_drewN ?_ _ | refine blk_drew ?_ | refine blk_alloc ?_ _));exact BK168.out) hb)
                     have n5_ :=Aside0.mk (blk_below (g :=gb176) (o :=.cells #[.string ((rd_T49 ((rd_T36 l0_1 x40_2).f2) x77_4).f0),.slice A175_1 ((rd_T49 ((rd_T36 l0_1 x40_2).f2) x77_4).f1).length c175_1] 49 (0,0)) (by (with_reducible repeat (first | refine blk_drewN ?_ _ | refine blk_drew ?_ | refine blk_alloc ?_ _));exact BK176.out) hb)
                     have n6_ :=Aside0.mk (below_step (by repeat (first | (with_reducible first | exact HB.out | apply below_alloc | apply pw_below_drewN | apply below_drew1 | refine below_set ?_ GE164.out | refine below_set ?_ GE165.out | refine below_set ?_ GE168.out | refine below_set ?_ GE176.out) | exact HB.out)) hb)
                     clear HO_11
                     clear BK164
                     clear BK165
                     clear BK168
                     clear BK176
                     clear HB
                     have HO_11 :=n0_
                     have HO179 :=n1_
                     have BK164 :=n2_
                     have BK165 :=n3_
                     have BK168 :=n4_
                     have BK176 :=n5_
                     have HB :=n6_
                     clear n0_ n1_ n2_ n3_ n4_ n5_ n6_
                     (try clear hb)
                     (try clear hb2)
                     (try clear hk)
                     (try clear hi)
                     (try clear ho0)
                     obtain ⟨Ao78,co78,eo78⟩ :=Kd.R_slice HO179.out
                     (first | subst eo78 | (injection eo78 with f1_ f2_ f3_;have f4_ :=f1_.symm;have f5_ :=f3_.symm;clear f1_ f2_ f3_;subst f4_;subst f5_))
                     refine hK.out _ _ ⟨(blk_cell BK168.out 0).trans rfl,(blk_cell BK168.out 1).trans rfl,(blk_cell BK168.out 2).trans rfl,(blk_cell BK176.out 0).trans rfl,(blk_cell BK176.out 1).trans rfl⟩ (fun hHeld => ?_)
                     clear hK K
                     refine norm_ (a' :=?_) ?_ ?_
                     rotate_left
                     ·show Act.put _ (some 93) _ = _
                      simp only [Act.put,List.setIfInBounds_toArray,List.set_cons_zero,List.set_cons_succ,i64_w,i32_w]
                      rfl
                     refine pure_ (i :=13) (N :=some 94) (v :=?_) (a' :=?_) #[true,true,true,true,true,true,true,true,true,true,true,true,true,true,false,false,false] rfl rfl (any_of HT_.out (by kernel_rfl)) (fun _ _ _ h => h) (Or.inl ⟨by rfl,?_⟩) ?_ ?_
                     rotate_left
                     ·intro w'
                      go_simp
                      with_reducible rfl
                     rotate_left
                     ·simp only [Act.put,List.setIfInBounds_toArray,List.set_cons_zero,List.set_cons_succ,i64_w,i32_w]
                      rfl
                     refine one_ (i :=14) (N :=some 95) #[true,true,true,true,true,true,true,true,true,true,true,true,true,true,true,false,false] rfl rfl (one_of HT_.out (by kernel_rfl)) (by decide) (fun K hK => ?_)
                     refine value_ (w1 :=?_) (v :=?_) (by rfl) rfl ?_ ?_
                     rotate_left 2
                     ·go_simp
                      constructor
                      ·rfl
                      ·rfl
                     refine hK.out _ _ ⟨(blk_cell (blk_alloc BK168.out _) 0).trans rfl,(blk_cell (blk_alloc BK168.out _) 1).trans rfl,(blk_cell (blk_alloc BK168.out _) 2).trans rfl,(blk_cell (blk_alloc BK176.out _) 0).trans rfl,(blk_cell (blk_alloc BK176.out _) 1).trans rfl⟩ (fun hHeld => ?_)
                     clear hK K
                     refine norm_ (a' :=?_) ?_ ?_
                     rotate_left
                     ·show Act.put _ (some 95) _ = _
                      simp only [Act.put,List.setIfInBounds_toArray,List.set_cons_zero,List.set_cons_succ,i64_w,i32_w]
                      rfl
                     refine one_ (i :=15) (N :=some 96) #[true,true,true,true,true,true,true,true,true,true,true,true,true,true,true,true,false] rfl rfl (one_of HT_.out (by kernel_rfl)) (by decide) (fun K hK => ?_)
                     refine Kd.S_append_step k47 (w0 :=w) w.heap.size (by rfl) (.tmp 81) (.tmp 95) 39 47 (.agg #[(.int .i64 0),(.string ⟨#[]⟩),(.int .i64 0),(.string ⟨#[]⟩),(.slice none 0 0)]) 72 rfl Try.underlying39 info47 rfl (by decide) (by omega) (.slice Ao76 x11_4.length co76) x11_4 (⟨wrap64 (a3 + (x11_4.length : Int)),((rd_T36 l0_1 x40_2).f0),x14_4,(rd_T49 ((rd_T36 l0_1 x40_2).f2) x77_4).f0,t177⟩ : S47) [.int .i64 (wrap64 (a3 + (x11_4.length : Int))),.string ((rd_T36 l0_1 x40_2).f0),.int .i64 x14_4,.string ((rd_T49 ((rd_T36 l0_1 x40_2).f2) x77_4).f0),.slice Ao78 t177.length co78] (fun _ => True) (fun k_ => some k_ = (.slice Ao78 t177.length co78 : Value).ownBlock) rfl rfl ?aP (fun k_ hk_ => ((Kd.R_mono (ok' :=fun k_ => ((fun _ => True)) k_ ∧ some k_ ≠ (.slice Ao76 x11_4.length co76 : Value).ownBlock) (Kd.R_apart' (HO179.out) (Kd.S_typed HO_11.out) (by decide)) (fun k_ hk => ⟨trivial,hk.2⟩))).1 k_ hk_.symm) ?aF ?aO ?aB ?aS ?aL ?_
                     (case aP => exact k47_mkM _ _ _ (⟨wrap64 (a3 + (x11_4.length : Int)),((rd_T36 l0_1 x40_2).f0),x14_4,(rd_T49 ((rd_T36 l0_1 x40_2).f2) x77_4).f0,t177⟩ : S47) (Kd.R_mono (Kd.R_tight rfl (Kd.R_mono (ok' :=fun k_ => ((fun _ => True)) k_ ∧ some k_ ≠ (.slice Ao76 x11_4.length co76 : Value).ownBlock) (Kd.R_apart' (HO179.out) (Kd.S_typed HO_11.out) (by decide)) (fun k_ hk => ⟨trivial,hk.2⟩))) (fun _ h_ => h_)))
                     (case aB => exact (by repeat (first | (with_reducible first | exact HB.out | apply below_alloc | apply pw_below_drewN | apply below_drew1 | refine below_set ?_ GE164.out | refine below_set ?_ GE165.out | refine below_set ?_ GE168.out | refine below_set ?_ GE176.out) | exact HB.out)))
                     (case aF => exact (fun _ _ => trivial))
                     (case aO => exact (by (with_reducible repeat (first | apply Kd.S_alloc | apply Kd.S_drewN | apply Kd.S_drew));exact Kd.S_mono HO_11.out (fun k_ hk => ⟨trivial,fun e_ => hk.2 e_⟩)))
                     (case aS => exact (below_size (by repeat (first | (with_reducible first | exact HB.out | apply below_alloc | apply pw_below_drewN | apply below_drew1 | refine below_set ?_ GE164.out | refine below_set ?_ GE165.out | refine below_set ?_ GE168.out | refine below_set ?_ GE176.out) | exact HB.out))))
                     (case aL => have :=LMc68.out;omega)
                     intro v181 w79 ho hb hg hat
                     rw [← Ny180.out] at ho
                     have n0_ :=Aside0.mk (blk_grown (g :=gb164) (o :=.cells #[.string a0_0,.slice (some ad167) l0_1.length c0_1] 28 (0,0)) (by (with_reducible repeat (first | refine blk_drewN ?_ _ | refine blk_drew ?_ | refine blk_alloc ?_ _));exact BK164.out) hg (Kd.S_ne HO_11.out BK164.out (by decide)))
                     have n1_ :=Aside0.mk (blk_grown (g :=gb165) (o :=.cells #[.int .i64 x166000_2,.int .i64 x166001_2,.bool x166002_2] 41 (0,0)) (by (with_reducible repeat (first | refine blk_drewN ?_ _ | refine blk_drew ?_ | refine blk_alloc ?_ _));exact BK165.out) hg (Kd.S_ne HO_11.out BK165.out (by decide)))
                     have n2_ :=Aside0.mk (blk_grown (g :=gb168) (o :=.cells #[.string ((rd_T36 l0_1 x40_2).f0),.int .i64 ((rd_T36 l0_1 x40_2).f1),.slice (some ad175) ((rd_T36 l0_1 x40_2).f2).length c167_2] 36 (0,0)) (by (with_reducible repeat (first | refine blk_drewN ?_ _ | refine blk_drew ?_ | refine blk_alloc ?_ _));exact BK168.out) hg (Kd.S_ne HO_11.out BK168.out (by decide)))
                     have n3_ :=Aside0.mk (blk_grown (g :=gb176) (o :=.cells #[.string ((rd_T49 ((rd_T36 l0_1 x40_2).f2) x77_4).f0),.slice A175_1 ((rd_T49 ((rd_T36 l0_1 x40_2).f2) x77_4).f1).length c175_1] 49 (0,0)) (by (with_reducible repeat (first | refine blk_drewN ?_ _ | refine blk_drew ?_ | refine blk_alloc ?_ _));exact BK176.out) hg (Kd.S_ne HO_11.out BK176.out (by decide)))
                     have n4_ :=Aside0.mk (hb)
                     have n5_ :=Aside0.mk (ho)
                     clear BK164
                     clear BK165
                     clear BK168
                     clear BK176
                     clear HB
                     clear HO_11
                     clear HO179
                     have BK164 :=n0_
                     have BK165 :=n1_
                     have BK168 :=n2_
                     have BK176 :=n3_
                     have HB :=n4_
                     have HO182 :=n5_
                     clear n0_ n1_ n2_ n3_ n4_ n5_
                     clear ho hb hg hat
                     refine hK.out _ _ ⟨(blk_cell BK168.out 0).trans rfl,(blk_cell BK168.out 1).trans rfl,(blk_cell BK168.out 2).trans rfl,(blk_cell BK176.out 0).trans rfl,(blk_cell BK176.out 1).trans rfl⟩ (fun hHeld => ?_)
                     clear hK K
                     refine norm_ (a' :=?_) ?_ ?_
                     rotate_left
                     ·show Act.put _ (some 96) _ = _
                      simp only [Act.put,List.setIfInBounds_toArray,List.set_cons_zero,List.set_cons_succ,i64_w,i32_w]
                      rfl
                     refine pure_ (i :=16) (N :=some 11) (v :=?_) (a' :=?_) #[true,true,true,true,true,true,true,true,true,true,true,true,true,true,true,true,true] rfl rfl (any_of HT_.out (by kernel_rfl)) (fun _ _ _ h => h) (Or.inl ⟨by rfl,?_⟩) ?_ ?_
                     rotate_left
                     ·intro w'
                      go_simp
                      with_reducible rfl
                     rotate_left
                     ·simp only [Act.put,List.setIfInBounds_toArray,List.set_cons_zero,List.set_cons_succ,i64_w,i32_w]
                      rfl
                     refine done_ (done_of HT_.out (by kernel_rfl)) ?_
                     try go_wp2
                     go_roundg k4
                     case measure => have :=HJ4.out;have :=HK2.out;have :=HJ50.out;have :=HK4.out;omega
                     case rel => exact ⟨(y180),(wrap64 (x14_4 + 1)),(wrap64 (x77_4 + 1)),(by first | rfl | (simp;done) | (simp [*];done)),(by first | rfl | (simp;done) | (simp [*];done)),H',⟨by have :=HJ4.out;have :=HK2.out;have :=HJ50.out;have :=HK4.out;omega⟩,⟨by (with_reducible repeat (first | apply Kd.S_alloc | apply Kd.S_drewN | apply Kd.S_drew));exact HO182.out⟩,⟨by (with_reducible repeat (first | refine blk_drewN ?_ _ | refine blk_drew ?_ | refine blk_alloc ?_ _));exact BK164.out⟩,⟨by (with_reducible repeat (first | refine blk_drewN ?_ _ | refine blk_drew ?_ | refine blk_alloc ?_ _));exact BK165.out⟩,⟨by (with_reducible repeat (first | refine blk_drewN ?_ _ | refine blk_drew ?_ | refine blk_alloc ?_ _));exact BK168.out⟩,⟨by repeat (first | (with_reducible first | exact HB.out | apply below_alloc | apply pw_below_drewN | apply below_drew1 | refine below_set ?_ GE164.out | refine below_set ?_ GE165.out | refine below_set ?_ GE168.out | refine below_set ?_ GE176.out) | exact HB.out)⟩⟩
                    ·rw [if_neg c68] at H
                     exact absurd H (by simp)
                   ·rw [if_neg c66] at H
                    exact absurd H (by simp)
                  ·rw [if_neg c65] at H
                   exact absurd H (by simp)
                 ·rw [if_neg c64] at H
                  have c64b0 : decide (x77_4 < (((rd_T36 l0_1 x40_2).f2).length : Int)) = false :=decide_eq_false c64
                  clear c64
                  have H' :=Aside0.mk H
                  clear H
                  go_wp2
                  go_roundg k4
                  case measure => have :=HJ4.out;have :=HK2.out;have :=HJ50.out;have :=HK4.out;omega
                  case rel => exact ⟨(x11_4),(wrap64 (x40_2 + 1)),(x166000_2),(x166001_2),(x166002_2),(by first | rfl | (simp;done) | (simp [*];done)),H',⟨by have :=HJ4.out;have :=HK2.out;have :=HJ50.out;have :=HK4.out;omega⟩,⟨by (with_reducible repeat (first | apply Kd.S_alloc | apply Kd.S_drewN | apply Kd.S_drew));exact HO_11.out⟩,⟨by (with_reducible repeat (first | refine blk_drewN ?_ _ | refine blk_drew ?_ | refine blk_alloc ?_ _));exact BK164.out⟩,⟨by (with_reducible repeat (first | refine blk_drewN ?_ _ | refine blk_drew ?_ | refine blk_alloc ?_ _));exact BK165.out⟩,⟨by repeat (first | (with_reducible first | exact HB.out | apply below_alloc | apply pw_below_drewN | apply below_drew1 | refine below_set ?_ GE164.out | refine below_set ?_ GE165.out | refine below_set ?_ GE168.out) | exact HB.out)⟩⟩
           ·rw [if_neg c39] at H
            exact absurd H (by simp)
         ·rw [if_neg c30] at H
          exact absurd H (by simp)
        ·rw [if_neg c29] at H
         exact absurd H (by simp)
       ·rw [if_neg c28] at H
        exact absurd H (by simp)
      ·rw [if_neg c27] at H
       have c27b0 : decide (x40_2 < (l0_1.length : Int)) = false :=decide_eq_false c27
       clear c27
       by_cases c80 : a3 > (wrap64 (9223372036854775807 - (x11_2.length : Int)))
       ·rw [if_pos c80] at H
        have c80b0 : decide ((wrap64 (9223372036854775807 - (x11_2.length : Int))) < a3) = true :=decide_eq_true c80
        clear c80
        simp only [Option.some.injEq,Prod.mk.injEq] at H
        obtain ⟨rfl,rfl,rfl,rfl,rfl⟩ :=H
        obtain ⟨Ao81,co81,eo81⟩ :=Kd.S_slice HO_11.out
        subst eo81
        have hnb82 :=NB165_164.out
        have hnc82 :=NB164_165.out
        have hcz83_0 : wr.cell? ⟨gb165,0,none⟩ = some (.int .i64 x166000_2) :=(blk_cell BK165.out 0).trans rfl
        have hcz83_1 : wr.cell? ⟨gb165,1,none⟩ = some (.int .i64 x166001_2) :=(blk_cell BK165.out 1).trans rfl
        have hcz83_2 : wr.cell? ⟨gb165,2,none⟩ = some (.bool x166002_2) :=(blk_cell BK165.out 2).trans rfl
        have hfz83_0 :=blk_frozen BK165.out 0
        have hfz83_1 :=blk_frozen BK165.out 1
        have hfz83_2 :=blk_frozen BK165.out 2
        go_wp2
        refine bodyPost_ret (results_list (rs :=[.tmp 8,.cell 9 41,.tmp 10]) rfl (by simp) (.tmp (.cell gb165 41 #[.int .i64 0,.int .i64 0,.bool false] (0,0) _ rfl (by (with_reducible repeat (first | refine blk_drewN ?_ _ | refine blk_drew ?_ | refine blk_alloc ?_ _));refine blk_put (cs :=#[.int .i64 0,.int .i64 0,.bool x166002_2]) ?_ 2 _ rfl;(with_reducible repeat (first | refine blk_drewN ?_ _ | refine blk_drew ?_ | refine blk_alloc ?_ _));refine blk_put (cs :=#[.int .i64 0,.int .i64 x166001_2,.bool x166002_2]) ?_ 1 _ rfl;(with_reducible repeat (first | refine blk_drewN ?_ _ | refine blk_drew ?_ | refine blk_alloc ?_ _));refine blk_put (cs :=#[.int .i64 x166000_2,.int .i64 x166001_2,.bool x166002_2]) ?_ 0 _ rfl;(with_reducible repeat (first | refine blk_drewN ?_ _ | refine blk_drew ?_ | refine blk_alloc ?_ _));exact BK165.out) Try.underlying41 rfl (by kernel_rfl) (.tmp .nil)))) rfl ?_
        exact ⟨_,by first | rfl | (simp [errW_none,errW_some] <;> rfl) | (simp [*,errW_none,errW_some] <;> rfl),by first | exact Kd.S_nil _ _ _ _ _ | exact Kd.N_nil _ _ _ _ _ | exact Kd.V_nil _ _ _ _ _ | exact Kd.Q_nil _ _ _ _ _ | exact Kd.R_nil _ _ _ _ _,by repeat (first | (with_reducible first | exact HB.out | apply below_alloc | apply pw_below_drewN | apply below_drew1 | refine below_set ?_ GE164.out | refine below_set ?_ GE165.out) | exact HB.out)⟩
       ·rw [if_neg c80] at H
        have c80b0 : decide ((wrap64 (9223372036854775807 - (x11_2.length : Int))) < a3) = false :=decide_eq_false c80
        clear c80
        simp only [Option.some.injEq,Prod.mk.injEq] at H
        obtain ⟨rfl,rfl,rfl,rfl,rfl⟩ :=H
        obtain ⟨Ao84,co84,eo84⟩ :=Kd.S_slice HO_11.out
        subst eo84
        have hnb85 :=NB165_164.out
        have hnc85 :=NB164_165.out
        have hcz86_0 : wr.cell? ⟨gb165,0,none⟩ = some (.int .i64 x166000_2) :=(blk_cell BK165.out 0).trans rfl
        have hcz86_1 : wr.cell? ⟨gb165,1,none⟩ = some (.int .i64 x166001_2) :=(blk_cell BK165.out 1).trans rfl
        have hcz86_2 : wr.cell? ⟨gb165,2,none⟩ = some (.bool x166002_2) :=(blk_cell BK165.out 2).trans rfl
        have hfz86_0 :=blk_frozen BK165.out 0
        have hfz86_1 :=blk_frozen BK165.out 1
        have hfz86_2 :=blk_frozen BK165.out 2
        go_wp2
        refine bodyPost_ret (results_list (rs :=[.tmp 8,.cell 9 41,.tmp 10]) rfl (by simp) (.tmp (.cell gb165 41 #[.int .i64 a3,.int .i64 (x11_2.length : Int),.bool false] (0,0) _ rfl (by (with_reducible repeat (first | refine blk_drewN ?_ _ | refine blk_drew ?_ | refine blk_alloc ?_ _));refine blk_put (cs :=#[.int .i64 a3,.int .i64 (x11_2.length : Int),.bool x166002_2]) ?_ 2 _ rfl;(with_reducible repeat (first | refine blk_drewN ?_ _ | refine blk_drew ?_ | refine blk_alloc ?_ _));refine blk_put (cs :=#[.int .i64 a3,.int .i64 x166001_2,.bool x166002_2]) ?_ 1 _ rfl;(with_reducible repeat (first | refine blk_drewN ?_ _ | refine blk_drew ?_ | refine blk_alloc ?_ _));refine blk_put (cs :=#[.int .i64 x166000_2,.int .i64 x166001_2,.bool x166002_2]) ?_ 0 _ rfl;(with_reducible repeat (first | refine blk_drewN ?_ _ | refine blk_drew ?_ | refine blk_alloc ?_ _));exact BK165.out) Try.underlying41 rfl (by kernel_rfl) (.tmp .nil)))) rfl ?_
        exact ⟨_,by first | rfl | (simp [errW_none,errW_some] <;> rfl) | (simp [*,errW_none,errW_some] <;> rfl),by (with_reducible repeat (first | apply Kd.S_alloc | apply Kd.S_drewN | apply Kd.S_drew));exact Kd.S_mono (Kd.S_far (p :=⟨gb165,2,none⟩) (Kd.S_far (p :=⟨gb165,1,none⟩) (Kd.S_far (p :=⟨gb165,0,none⟩) (Kd.S_types HO_11.out BK165.out (by decide)) (fun _ hk => hk.2) (.int .i64 a3)) (fun _ hk => hk.2) (.int .i64 (x11_2.length : Int))) (fun _ hk => hk.2) (.bool false)) (fun _ hk => trivial),by repeat (first | (with_reducible first | exact HB.out | apply below_alloc | apply pw_below_drewN | apply below_drew1 | refine below_set ?_ GE164.out | refine below_set ?_ GE165.out) | exact HB.out)⟩
end Go.Proofs.Ytfelkchmeiijfaa.P2
