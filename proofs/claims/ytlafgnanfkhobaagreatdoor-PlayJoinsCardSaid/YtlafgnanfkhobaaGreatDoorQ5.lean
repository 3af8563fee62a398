-- Written for this claim by a program, out of the translation.
import Derived.Test.YtlafgnanfkhobaaGreatDoorQ0
import Derived.Test.YtlafgnanfkhobaaGreatDoorQ1
import Derived.Test.YtlafgnanfkhobaaGreatDoorQ4
import Derived.Test.YtlafgnanfkhobaaGreatDoorQE
import Derived.Test.YtlafgnanfkhobaaGreatDoorQT
namespace Go.Proofs.YtlafgnanfkhobaaGreatDoor.P2
open Go.RowKit Go.Proofs.YtlafgnanfkhobaaGreatDoorW.PrintWords Go.Proofs.YtlafgnanfkhobaaGreatDoorW.PrintLast Go.Proofs.YtlafgnanfkhobaaGreatDoorW.PrintMore
attribute [local go_sem] max2_int min2_int max_two min_two max_three min_three max_four min_four
set_option linter.unusedVariables false
set_option linter.unusedSimpArgs false
open Classical in
noncomputable def play_Encode.f (l : List S48) : Option (List Int) :=if (∀ s ∈ l,okStep s) ∧ l.length ≤ 1000 then some (l.flatMap encStep) else none
theorem play_Encode.calls (A0 : Option Addr) (c0 : Nat) (l0 : List S48) (r : List Int) (w : World) (hr0 : Kd.C k48 w A0 l0.length l0) (hc0 : l0.length ≤ c0) (h : play_Encode.f l0 = some r) :
  Calls Tryz.prog 7 #[.slice A0 l0.length c0] w fun e w' => ∃ v0_ : Value,e = .returned (v0_) ∧ Kd.R (Kd.int .u8) 5 w' w.heap.size (fun _ => True) v0_ r ∧ Below w.heap.size w w' :=by
 unfold play_Encode.f at h
 split at h
 ·rename_i hc
  cases h
  exact encode_calls A0 c0 l0 w hr0 hc.1 hc.2
 ·cases h
open Classical in
noncomputable def pandectref27_SameSteps.f (l0 l1 : List S48) : Option Bool :=if l0 = l1 then some true else none
theorem pandectref27_SameSteps.calls (A0 : Option Addr) (c0 : Nat) (l0 : List S48) (A1 : Option Addr) (c1 : Nat) (l1 : List S48) (r : Bool) (w : World) (hr0 : Kd.C k48 w A0 l0.length l0) (hc0 : l0.length ≤ c0) (hr1 : Kd.C k48 w A1 l1.length l1) (hc1 : l1.length ≤ c1) (h : pandectref27_SameSteps.f l0 l1 = some r) :
  Calls Tryz.prog 11 #[.slice A0 l0.length c0,.slice A1 l1.length c1] w fun e w' => e = .returned (.bool r) ∧ Below w.heap.size w w' :=by
 unfold pandectref27_SameSteps.f at h
 split at h
 ·rename_i hc
  cases h
  subst hc
  exact sameSteps_true hr0 hr1
 ·cases h
noncomputable def pandectlaw27_PlayJoins.j0 : Nat → List Int → List Int → Bool → Option (Bool)
 | 0,_,_,_ => none
 | k + 1,x0,x1,x19 => if x19 = true then (some true) else ((play_Decode.f k x0).bind fun t249 => ((play_Decode.f k x1).bind fun t252 => ((some (([] : List (S48)) : List (S48))).bind fun y255 => (if y255.length + t249.length < 676622540169 then ((some (y255 ++ t249 : List (S48))).bind fun y258 => (if y258.length + t252.length < 676622540169 then ((some (y258 ++ t252 : List (S48))).bind fun y261 => ((play_Encode.f t249).bind fun t264 => ((play_Encode.f t252).bind fun t267 => ((some (([] : List Int) : List Int)).bind fun y270 => (if y270.length + t264.length < 140737488355328 then ((some (y270 ++ t264 : List Int)).bind fun y273 => (if y273.length + t267.length < 140737488355328 then ((play_Decode.f k (y273 ++ t267)).bind fun t279 => ((pandectref27_SameSteps.f t279 y261).bind fun t282 => (if t282 = true then ((play_Encode.f y261).bind fun t283 => (if (strOfNums t264).size + (strOfNums t267).size ≤ 9223372036854775807 then (some ((strOfNums t283).toList == ((strOfNums t264) ++ (strOfNums t267)).toList)) else (none))) else (none)))) else (none))) else (none)))))) else (none))) else (none)))))
noncomputable def pandectlaw27_PlayJoins.f (k : Nat) (l0 : List Int) (l1 : List Int) : Option (Bool) :=(pandectlaw27_begun.f).bind fun t248 => (if t248 = true then (if (l0.length : Int) > 100 then (pandectlaw27_PlayJoins.j0 k l0 l1 true) else (pandectlaw27_PlayJoins.j0 k l0 l1 (decide ((l1.length : Int) > 100)))) else (none))
theorem pandectlaw27_PlayJoins.mono_l : ∀ k,(∀ y0 y1 y2,LeO (pandectlaw27_PlayJoins.j0 k y0 y1 y2) (pandectlaw27_PlayJoins.j0 (k + 1) y0 y1 y2))
 | 0 => fun _ _ _ r h => by simp [pandectlaw27_PlayJoins.j0] at h
 | k + 1 => by
  have ih0 :=pandectlaw27_PlayJoins.mono_l k
  ·intro y0 y1 y2
   unfold pandectlaw27_PlayJoins.j0
   repeat' first
   | (with_reducible exact ih0 _ _ _)
   | (with_reducible exact play_Decode.mono _ _)
   | (with_reducible exact LeO.refl _)
   | (with_reducible exact LeO.none _)
   | (with_reducible refine LeO.ite ?_ ?_)
   | (with_reducible refine LeO.bind ?_ (fun _ => ?_))
   | exact ih0 _ _ _
   | exact play_Decode.mono _ _
   | exact LeO.none _
   | refine LeO.ite ?_ ?_
   | refine LeO.bind ?_ (fun _ => ?_)
theorem pandectlaw27_PlayJoins.mono : ∀ a0 a1 k,LeO (pandectlaw27_PlayJoins.f k a0 a1) (pandectlaw27_PlayJoins.f (k + 1) a0 a1) :=by
 intro a0 a1 k
 have ih0 :=pandectlaw27_PlayJoins.mono_l k
 unfold pandectlaw27_PlayJoins.f
 repeat' first
   | (with_reducible exact ih0 _ _ _)
   | (with_reducible exact play_Decode.mono _ _)
   | (with_reducible exact LeO.refl _)
   | (with_reducible exact LeO.none _)
   | (with_reducible refine LeO.ite ?_ ?_)
   | (with_reducible refine LeO.bind ?_ (fun _ => ?_))
   | exact ih0 _ _ _
   | exact play_Decode.mono _ _
   | exact LeO.none _
   | refine LeO.ite ?_ ?_
   | refine LeO.bind ?_ (fun _ => ?_)
def pandectlaw27_PlayJoins.T8 : Bool × List (List Nat × List Nat) :=(true,[([],[]),([],[]),([0,1],[0,1]),([],[]),([2,3,2],[2,3]),([4,4],[4]),([],[]),([5,6,5],[5,6]),([7,7],[7]),([8],[8]),([9,8,8],[8,9]),([10,8],[8,10]),([8],[8]),([12,8],[8,12]),([8],[8]),([14,8],[8,14]),([13,15,8],[8,13,15]),([11,16,8],[8,11,16]),([8,17],[8,17]),([18,10,0,1,2,3,4,5,6,7,8,9,10,11,12,13,14,15,16,17,18],[18])])
def pandectlaw27_PlayJoins.B8 : List Nat :=[0,0,3,0,15,31,0,127,255,511,1023,2047,511,4607,511,16895,61951,131071,262143,524287]
theorem pandectlaw27_PlayJoins.tab8 : rtab .any (opsOf Tryz.f4 8) = pandectlaw27_PlayJoins.T8 :=by kernel_rfl
theorem pandectlaw27_PlayJoins.bits8 : waitsOk pandectlaw27_PlayJoins.T8.2 pandectlaw27_PlayJoins.B8 = true :=by kernel_rfl
set_option maxHeartbeats 8000000 in
set_option maxRecDepth 100000 in
theorem pandectlaw27_PlayJoins.calls (k : Nat) (A0 : Option Addr) (c0 : Nat) (l0 : List Int) (A1 : Option Addr) (c1 : Nat) (l1 : List Int) (r : Bool) (w : World) (hr0 : Kd.C (Kd.int .u8) w A0 l0.length l0) (hc0 : l0.length ≤ c0) (hr1 : Kd.C (Kd.int .u8) w A1 l1.length l1) (hc1 : l1.length ≤ c1) (h : pandectlaw27_PlayJoins.f k l0 l1 = some r) :
  Calls Tryz.prog 4 #[.slice A0 l0.length c0,.slice A1 l1.length c1] w fun e w' => e = .returned (.bool r) ∧ Below w.heap.size w w' :=by
 have HR0 :=AZ0.mk hr0
 have HC0 :=AZ0.mk hc0
 clear hr0 hc0
 have HR1 :=AZ0.mk hr1
 have HC1 :=AZ0.mk hc1
 clear hr1 hc1
 have HB :=AZ0.mk (Below.refl w.heap.size w)
 have H : ((pandectlaw27_begun.f).bind fun t248 => (if t248 = true then (if (l0.length : Int) > 100 then (pandectlaw27_PlayJoins.j0 k l0 l1 true) else (pandectlaw27_PlayJoins.j0 k l0 l1 (decide ((l1.length : Int) > 100)))) else (none))) = some r :=h
 clear h
 replace H :=Option.bind_eq_some_iff.mp H
 obtain ⟨t248,A30,H⟩ :=H
 replace H : (if t248 = true then (if (l0.length : Int) > 100 then (pandectlaw27_PlayJoins.j0 k l0 l1 true) else (pandectlaw27_PlayJoins.j0 k l0 l1 (decide ((l1.length : Int) > 100)))) else (none)) = some r :=H
 have A3 :=AZ0.mk A30
 clear A30
 by_cases c4 : t248 = true
 ·subst c4
  have H1 : (if (l0.length : Int) > 100 then (pandectlaw27_PlayJoins.j0 k l0 l1 true) else (pandectlaw27_PlayJoins.j0 k l0 l1 (decide ((l1.length : Int) > 100)))) = some r :=by rw [if_pos rfl] at H;exact H
  clear H
  have H :=H1
  clear H1
  have HC5 :=AZ0.mk H
  clear H
  go_enter Tryz.func4,Tryz.ntmps4
  go_upto_region 3 with (first | ((with_reducible refine gate_callee (f :=5) rfl ?_);refine goesL_ (some 10) rfl rfl Tryz.func5 (by kernel_rfl) rfl #[] rfl (by (try simp only [List.map_toArray,List.map_cons,List.map_nil]);first | done | rfl | (simp only [List.length_drop,List.length_take];rfl)) ?_;(with_reducible refine (pandectlaw27_begun.calls  true _ A3.out).mono ?_);rintro e w6 ⟨rfl,hb⟩;refine ⟨_,rfl,?_⟩;have n0_ :=AZ0.mk (below_step (by repeat (first | (with_reducible first | exact HB.out | apply bwa | apply pwN | apply bw1) | exact HB.out)) hb);clear HB;have HB :=n0_;clear n0_;(try clear hb);(try clear hb2);(try clear hk);(try clear hi)))
  (try simp only [Act.put,List.setIfInBounds_toArray,List.set_cons_zero,List.set_cons_succ])
  go_cut [19] (fun v19 wc => ∃ (kq : Nat) (x19_4 : Bool),v19 = .bool x19_4 ∧ AZ0 (pandectlaw27_PlayJoins.j0 kq l0 l1 x19_4 = some r) ∧ AZ0 (kq ≤ k) ∧ AZ0 (Below w.heap.size w wc))
  case first =>
   have H :=HC5.out
   clear HC5
   by_cases c7 : (l0.length : Int) > 100
   ·rw [if_pos c7] at H
    have c7b0 : decide (100 < (l0.length : Int)) = true :=decide_eq_true c7
    have c7b1 : decide (100 < l0.length) = true :=decide_eq_true (by omega)
    clear c7
    (first | rw [c7b0] | (simp only [i64_w,i32_w];rw [c7b0]) | skip)
    have H' :=AZ0.mk H
    clear H
    go_wp2
    go_meet
    case rel => exact ⟨_,(true),(by first | rfl | (simp;done) | (simp [*];done)),H',⟨by first | omega | exact Nat.le_refl _⟩,⟨by repeat (first | (with_reducible first | exact HB.out | apply bwa | apply pwN | apply bw1) | exact HB.out)⟩⟩
   ·rw [if_neg c7] at H
    have c7b0 : decide (100 < (l0.length : Int)) = false :=decide_eq_false c7
    have c7b1 : decide (100 < l0.length) = false :=decide_eq_false (by omega)
    clear c7
    (first | rw [c7b0] | (simp only [i64_w,i32_w];rw [c7b0]) | skip)
    have H' :=AZ0.mk H
    clear H
    go_wp2
    go_meet
    case rel => exact ⟨_,(decide ((l1.length : Int) > 100)),(by first | rfl | (simp;done) | (simp [*];done)),H',⟨by first | omega | exact Nat.le_refl _⟩,⟨by repeat (first | (with_reducible first | exact HB.out | apply bwa | apply pwN | apply bw1) | exact HB.out)⟩⟩
  case rest =>
   clear HC5
   try clear c1
   try clear p2
   try clear c4
   try clear c5
   try clear c7
   try clear c7b0
   try clear c7b1
   obtain ⟨kq,x19_4,rfl,HA,HJ4,HB⟩ :=hcut
   cases kq with
   | zero => exact absurd HA.out (by simp [pandectlaw27_PlayJoins.j0])
   | succ kj4 =>
    have H :=HA.out
    clear HA
    simp only [pandectlaw27_PlayJoins.j0] at H
    by_cases c8 : x19_4 = true
    ·subst c8
     have H1 : (some true) = some r :=by rw [if_pos rfl] at H;exact H
     clear H
     have H :=H1
     clear H1
     obtain rfl :=Option.some.inj H
     go_wp2
     go_ret
     exact ⟨by first | rfl | (simp [errW_none,errW_some] <;> rfl) | (simp [*,errW_none,errW_some] <;> rfl),by repeat (first | (with_reducible first | exact HB.out | apply bwa | apply pwN | apply bw1) | exact HB.out)⟩
    ·replace c8 :=Bool.eq_false_iff.mpr c8
     subst c8
     have H1 : ((play_Decode.f kj4 l0).bind fun t249 => ((play_Decode.f kj4 l1).bind fun t252 => ((some (([] : List (S48)) : List (S48))).bind fun y255 => (if y255.length + t249.length < 676622540169 then ((some (y255 ++ t249 : List (S48))).bind fun y258 => (if y258.length + t252.length < 676622540169 then ((some (y258 ++ t252 : List (S48))).bind fun y261 => ((play_Encode.f t249).bind fun t264 => ((play_Encode.f t252).bind fun t267 => ((some (([] : List Int) : List Int)).bind fun y270 => (if y270.length + t264.length < 140737488355328 then ((some (y270 ++ t264 : List Int)).bind fun y273 => (if y273.length + t267.length < 140737488355328 then ((play_Decode.f kj4 (y273 ++ t267)).bind fun t279 => ((pandectref27_SameSteps.f t279 y261).bind fun t282 => (if t282 = true then ((play_Encode.f y261).bind fun t283 => (if (strOfNums t264).size + (strOfNums t267).size ≤ 9223372036854775807 then (some ((strOfNums t283).toList == ((strOfNums t264) ++ (strOfNums t267)).toList)) else (none))) else (none)))) else (none))) else (none)))))) else (none))) else (none))))) = some r :=by rw [if_neg (show ¬ (false = true) by decide)] at H;exact H
     clear H
     have H :=H1
     clear H1
     replace H :=Option.bind_eq_some_iff.mp H
     obtain ⟨t249,A90,H⟩ :=H
     replace H : ((play_Decode.f kj4 l1).bind fun t252 => ((some (([] : List (S48)) : List (S48))).bind fun y255 => (if y255.length + t249.length < 676622540169 then ((some (y255 ++ t249 : List (S48))).bind fun y258 => (if y258.length + t252.length < 676622540169 then ((some (y258 ++ t252 : List (S48))).bind fun y261 => ((play_Encode.f t249).bind fun t264 => ((play_Encode.f t252).bind fun t267 => ((some (([] : List Int) : List Int)).bind fun y270 => (if y270.length + t264.length < 140737488355328 then ((some (y270 ++ t264 : List Int)).bind fun y273 => (if y273.length + t267.length < 140737488355328 then ((play_Decode.f kj4 (y273 ++ t267)).bind fun t279 => ((pandectref27_SameSteps.f t279 y261).bind fun t282 => (if t282 = true then ((play_Encode.f y261).bind fun t283 => (if (strOfNums t264).size + (strOfNums t267).size ≤ 9223372036854775807 then (some ((strOfNums t283).toList == ((strOfNums t264) ++ (strOfNums t267)).toList)) else (none))) else (none)))) else (none))) else (none)))))) else (none))) else (none)))) = some r :=H
     have A9 :=AZ0.mk A90
     clear A90
     replace H :=Option.bind_eq_some_iff.mp H
     obtain ⟨t252,A100,H⟩ :=H
     replace H : ((some (([] : List (S48)) : List (S48))).bind fun y255 => (if y255.length + t249.length < 676622540169 then ((some (y255 ++ t249 : List (S48))).bind fun y258 => (if y258.length + t252.length < 676622540169 then ((some (y258 ++ t252 : List (S48))).bind fun y261 => ((play_Encode.f t249).bind fun t264 => ((play_Encode.f t252).bind fun t267 => ((some (([] : List Int) : List Int)).bind fun y270 => (if y270.length + t264.length < 140737488355328 then ((some (y270 ++ t264 : List Int)).bind fun y273 => (if y273.length + t267.length < 140737488355328 then ((play_Decode.f kj4 (y273 ++ t267)).bind fun t279 => ((pandectref27_SameSteps.f t279 y261).bind fun t282 => (if t282 = true then ((play_Encode.f y261).bind fun t283 => (if (strOfNums t264).size + (strOfNums t267).size ≤ 9223372036854775807 then (some ((strOfNums t283).toList == ((strOfNums t264) ++ (strOfNums t267)).toList)) else (none))) else (none)))) else (none))) else (none)))))) else (none))) else (none))) = some r :=H
     have A10 :=AZ0.mk A100
     clear A100
     obtain ⟨y255,hy255⟩ : ∃ y_ : List (S48),y_ = (([] : List (S48))) :=⟨_,rfl⟩
     replace H : (if y255.length + t249.length < 676622540169 then ((some (y255 ++ t249 : List (S48))).bind fun y258 => (if y258.length + t252.length < 676622540169 then ((some (y258 ++ t252 : List (S48))).bind fun y261 => ((play_Encode.f t249).bind fun t264 => ((play_Encode.f t252).bind fun t267 => ((some (([] : List Int) : List Int)).bind fun y270 => (if y270.length + t264.length < 140737488355328 then ((some (y270 ++ t264 : List Int)).bind fun y273 => (if y273.length + t267.length < 140737488355328 then ((play_Decode.f kj4 (y273 ++ t267)).bind fun t279 => ((pandectref27_SameSteps.f t279 y261).bind fun t282 => (if t282 = true then ((play_Encode.f y261).bind fun t283 => (if (strOfNums t264).size + (strOfNums t267).size ≤ 9223372036854775807 then (some ((strOfNums t283).toList == ((strOfNums t264) ++ (strOfNums t267)).toList)) else (none))) else (none)))) else (none))) else (none)))))) else (none))) else (none)) = some r :=by first | (rw [hy255];with_reducible exact H) | (have H2_ :=(Option.bind_some _ _).symm.trans H;rw [hy255];with_reducible exact H2_) | (have H2_ :=(Option.bind_some _ _).symm.trans H;with_reducible exact H2_) | with_reducible exact H | (rw [hy255];exact H) | exact H
     have Ny255 :=AZ0.mk hy255
     clear hy255
     by_cases c11 : y255.length + t249.length < 676622540169
     ·rw [if_pos c11] at H
      have LMc11 :=AZ0.mk c11
      clear c11
      obtain ⟨y258,hy258⟩ : ∃ y_ : List (S48),y_ = (y255 ++ t249) :=⟨_,rfl⟩
      replace H : (if y258.length + t252.length < 676622540169 then ((some (y258 ++ t252 : List (S48))).bind fun y261 => ((play_Encode.f t249).bind fun t264 => ((play_Encode.f t252).bind fun t267 => ((some (([] : List Int) : List Int)).bind fun y270 => (if y270.length + t264.length < 140737488355328 then ((some (y270 ++ t264 : List Int)).bind fun y273 => (if y273.length + t267.length < 140737488355328 then ((play_Decode.f kj4 (y273 ++ t267)).bind fun t279 => ((pandectref27_SameSteps.f t279 y261).bind fun t282 => (if t282 = true then ((play_Encode.f y261).bind fun t283 => (if (strOfNums t264).size + (strOfNums t267).size ≤ 9223372036854775807 then (some ((strOfNums t283).toList == ((strOfNums t264) ++ (strOfNums t267)).toList)) else (none))) else (none)))) else (none))) else (none)))))) else (none)) = some r :=by first | (rw [hy258];with_reducible exact H) | (have H2_ :=(Option.bind_some _ _).symm.trans H;rw [hy258];with_reducible exact H2_) | (have H2_ :=(Option.bind_some _ _).symm.trans H;with_reducible exact H2_) | with_reducible exact H | (rw [hy258];exact H) | exact H
      have Ny258 :=AZ0.mk hy258
      clear hy258
      by_cases c12 : y258.length + t252.length < 676622540169
      ·rw [if_pos c12] at H
       have LMc12 :=AZ0.mk c12
       clear c12
       obtain ⟨y261,hy261⟩ : ∃ y_ : List (S48),y_ = (y258 ++ t252) :=⟨_,rfl⟩
       replace H : ((play_Encode.f t249).bind fun t264 => ((play_Encode.f t252).bind fun t267 => ((some (([] : List Int) : List Int)).bind fun y270 => (if y270.length + t264.length < 140737488355328 then ((some (y270 ++ t264 : List Int)).bind fun y273 => (if y273.length + t267.length < 140737488355328 then ((play_Decode.f kj4 (y273 ++ t267)).bind fun t279 => ((pandectref27_SameSteps.f t279 y261).bind fun t282 => (if t282 = true then ((play_Encode.f y261).bind fun t283 => (if (strOfNums t264).size + (strOfNums t267).size ≤ 9223372036854775807 then (some ((strOfNums t283).toList == ((strOfNums t264) ++ (strOfNums t267)).toList)) else (none))) else (none)))) else (none))) else (none))))) = some r :=by first | (rw [hy261];with_reducible exact H) | (have H2_ :=(Option.bind_some _ _).symm.trans H;rw [hy261];with_reducible exact H2_) | (have H2_ :=(Option.bind_some _ _).symm.trans H;with_reducible exact H2_) | with_reducible exact H | (rw [hy261];exact H) | exact H
       have Ny261 :=AZ0.mk hy261
       clear hy261
       replace H :=Option.bind_eq_some_iff.mp H
       obtain ⟨t264,A130,H⟩ :=H
       replace H : ((play_Encode.f t252).bind fun t267 => ((some (([] : List Int) : List Int)).bind fun y270 => (if y270.length + t264.length < 140737488355328 then ((some (y270 ++ t264 : List Int)).bind fun y273 => (if y273.length + t267.length < 140737488355328 then ((play_Decode.f kj4 (y273 ++ t267)).bind fun t279 => ((pandectref27_SameSteps.f t279 y261).bind fun t282 => (if t282 = true then ((play_Encode.f y261).bind fun t283 => (if (strOfNums t264).size + (strOfNums t267).size ≤ 9223372036854775807 then (some ((strOfNums t283).toList == ((strOfNums t264) ++ (strOfNums t267)).toList)) else (none))) else (none)))) else (none))) else (none)))) = some r :=H
       have A13 :=AZ0.mk A130
       clear A130
       replace H :=Option.bind_eq_some_iff.mp H
       obtain ⟨t267,A140,H⟩ :=H
       replace H : ((some (([] : List Int) : List Int)).bind fun y270 => (if y270.length + t264.length < 140737488355328 then ((some (y270 ++ t264 : List Int)).bind fun y273 => (if y273.length + t267.length < 140737488355328 then ((play_Decode.f kj4 (y273 ++ t267)).bind fun t279 => ((pandectref27_SameSteps.f t279 y261).bind fun t282 => (if t282 = true then ((play_Encode.f y261).bind fun t283 => (if (strOfNums t264).size + (strOfNums t267).size ≤ 9223372036854775807 then (some ((strOfNums t283).toList == ((strOfNums t264) ++ (strOfNums t267)).toList)) else (none))) else (none)))) else (none))) else (none))) = some r :=H
       have A14 :=AZ0.mk A140
       clear A140
       obtain ⟨y270,hy270⟩ : ∃ y_ : List Int,y_ = (([] : List Int)) :=⟨_,rfl⟩
       replace H : (if y270.length + t264.length < 140737488355328 then ((some (y270 ++ t264 : List Int)).bind fun y273 => (if y273.length + t267.length < 140737488355328 then ((play_Decode.f kj4 (y273 ++ t267)).bind fun t279 => ((pandectref27_SameSteps.f t279 y261).bind fun t282 => (if t282 = true then ((play_Encode.f y261).bind fun t283 => (if (strOfNums t264).size + (strOfNums t267).size ≤ 9223372036854775807 then (some ((strOfNums t283).toList == ((strOfNums t264) ++ (strOfNums t267)).toList)) else (none))) else (none)))) else (none))) else (none)) = some r :=by first | (rw [hy270];with_reducible exact H) | (have H2_ :=(Option.bind_some _ _).symm.trans H;rw [hy270];with_reducible exact H2_) | (have H2_ :=(Option.bind_some _ _).symm.trans H;with_reducible exact H2_) | with_reducible exact H | (rw [hy270];exact H) | exact H
       have Ny270 :=AZ0.mk hy270
       clear hy270
       by_cases c15 : y270.length + t264.length < 140737488355328
       ·rw [if_pos c15] at H
        have LMc15 :=AZ0.mk c15
        clear c15
        obtain ⟨y273,hy273⟩ : ∃ y_ : List Int,y_ = (y270 ++ t264) :=⟨_,rfl⟩
        replace H : (if y273.length + t267.length < 140737488355328 then ((play_Decode.f kj4 (y273 ++ t267)).bind fun t279 => ((pandectref27_SameSteps.f t279 y261).bind fun t282 => (if t282 = true then ((play_Encode.f y261).bind fun t283 => (if (strOfNums t264).size + (strOfNums t267).size ≤ 9223372036854775807 then (some ((strOfNums t283).toList == ((strOfNums t264) ++ (strOfNums t267)).toList)) else (none))) else (none)))) else (none)) = some r :=by first | (rw [hy273];with_reducible exact H) | (have H2_ :=(Option.bind_some _ _).symm.trans H;rw [hy273];with_reducible exact H2_) | (have H2_ :=(Option.bind_some _ _).symm.trans H;with_reducible exact H2_) | with_reducible exact H | (rw [hy273];exact H) | exact H
        have Ny273 :=AZ0.mk hy273
        clear hy273
        by_cases c16 : y273.length + t267.length < 140737488355328
        ·rw [if_pos c16] at H
         have LMc16 :=AZ0.mk c16
         clear c16
         obtain ⟨y276,hy276⟩ : ∃ y_ : List Int,y_ = (y273 ++ t267) :=⟨_,rfl⟩
         replace H : ((play_Decode.f kj4 y276).bind fun t279 => ((pandectref27_SameSteps.f t279 y261).bind fun t282 => (if t282 = true then ((play_Encode.f y261).bind fun t283 => (if (strOfNums t264).size + (strOfNums t267).size ≤ 9223372036854775807 then (some ((strOfNums t283).toList == ((strOfNums t264) ++ (strOfNums t267)).toList)) else (none))) else (none)))) = some r :=by first | (rw [hy276];with_reducible exact H) | (have H2_ :=(Option.bind_some _ _).symm.trans H;rw [hy276];with_reducible exact H2_) | (have H2_ :=(Option.bind_some _ _).symm.trans H;with_reducible exact H2_) | with_reducible exact H | (rw [hy276];exact H) | exact H
         have Ny276 :=AZ0.mk hy276
         clear hy276
         replace H :=Option.bind_eq_some_iff.mp H
         obtain ⟨t279,A170,H⟩ :=H
         replace H : ((pandectref27_SameSteps.f t279 y261).bind fun t282 => (if t282 = true then ((play_Encode.f y261).bind fun t283 => (if (strOfNums t264).size + (strOfNums t267).size ≤ 9223372036854775807 then (some ((strOfNums t283).toList == ((strOfNums t264) ++ (strOfNums t267)).toList)) else (none))) else (none))) = some r :=H
         have A17 :=AZ0.mk A170
         clear A170
         replace H :=Option.bind_eq_some_iff.mp H
         obtain ⟨t282,A180,H⟩ :=H
         replace H : (if t282 = true then ((play_Encode.f y261).bind fun t283 => (if (strOfNums t264).size + (strOfNums t267).size ≤ 9223372036854775807 then (some ((strOfNums t283).toList == ((strOfNums t264) ++ (strOfNums t267)).toList)) else (none))) else (none)) = some r :=H
         have A18 :=AZ0.mk A180
         clear A180
         by_cases c19 : t282 = true
         ·subst c19
          have H1 : ((play_Encode.f y261).bind fun t283 => (if (strOfNums t264).size + (strOfNums t267).size ≤ 9223372036854775807 then (some ((strOfNums t283).toList == ((strOfNums t264) ++ (strOfNums t267)).toList)) else (none))) = some r :=by rw [if_pos rfl] at H;exact H
          clear H
          have H :=H1
          clear H1
          replace H :=Option.bind_eq_some_iff.mp H
          obtain ⟨t283,A200,H⟩ :=H
          replace H : (if (strOfNums t264).size + (strOfNums t267).size ≤ 9223372036854775807 then (some ((strOfNums t283).toList == ((strOfNums t264) ++ (strOfNums t267)).toList)) else (none)) = some r :=H
          have A20 :=AZ0.mk A200
          clear A200
          by_cases c21 : (strOfNums t264).size + (strOfNums t267).size ≤ 9223372036854775807
          ·rw [if_pos c21] at H
           have c21b0 :=eq_true c21
           have c21b1 : decide ((strOfNums t264).size + (strOfNums t267).size ≤ 9223372036854775807) = true :=decide_eq_true c21
           try have c21b2 : (9223372036854775807 < (strOfNums t264).size + (strOfNums t267).size) = False :=eq_false (Nat.not_lt.2 c21)
           obtain rfl :=Option.some.inj H
           try go_wp2_with (first | ((with_reducible refine gate_callee (f :=6) rfl ?_);refine goesL_ (some 21) rfl rfl Tryz.func6 (by kernel_rfl) rfl #[.slice A0 l0.length c0] rfl (by (try simp only [List.map_toArray,List.map_cons,List.map_nil]);first | done | rfl | (simp only [List.length_drop,List.length_take];rfl)) ?_;(with_reducible refine (play_Decode.calls kj4 _ _ l0 t249 _ ?side1 ?side2 A9.out).mono ?_);(case side1 => repeat (first | exact (Kd.C_below HR0.out HB.out) | (with_reducible refine Kd.C_alloc ?_ _) | (with_reducible refine Kd.C_drewN ?_ _) | (with_reducible refine Kd.C_drew ?_)));(case side2 => exact HC0.out);rintro e w22 ⟨v250,rfl,ho0,hb⟩;refine ⟨_,rfl,?_⟩;have n0_ :=AZ0.mk (Kd.N_lower (Kd.N_mono (ok' :=fun k_ => True) (Kd.R_N (Kd.R_bound ho0)) (fun k_ hk_ => trivial)) (below_size (by repeat (first | (with_reducible first | exact HB.out | apply bwa | apply pwN | apply bw1) | exact HB.out))));have n1_ :=AZ0.mk (below_step (by repeat (first | (with_reducible first | exact HB.out | apply bwa | apply pwN | apply bw1) | exact HB.out)) hb);clear HB;have HO251 :=n0_;have HB :=n1_;clear n0_ n1_;(try clear hb);(try clear hb2);(try clear hk);(try clear hi);(try clear ho0)) | ((with_reducible refine gate_callee (f :=6) rfl ?_);refine goesL_ (some 23) rfl rfl Tryz.func6 (by kernel_rfl) rfl #[.slice A1 l1.length c1] rfl (by (try simp only [List.map_toArray,List.map_cons,List.map_nil]);first | done | rfl | (simp only [List.length_drop,List.length_take];rfl)) ?_;(with_reducible refine (play_Decode.calls kj4 _ _ l1 t252 _ ?side1 ?side2 A10.out).mono ?_);(case side1 => repeat (first | exact (Kd.C_below HR1.out HB.out) | (with_reducible refine Kd.C_alloc ?_ _) | (with_reducible refine Kd.C_drewN ?_ _) | (with_reducible refine Kd.C_drew ?_)));(case side2 => exact HC1.out);rintro e w23 ⟨v253,rfl,ho0,hb⟩;refine ⟨_,rfl,?_⟩;have n0_ :=AZ0.mk (Kd.N_elder' (by (with_reducible repeat (first | apply Kd.N_alloc | apply Kd.N_drewN | apply Kd.N_drew));exact HO251.out) (Kd.R_base ho0) hb);have n1_ :=AZ0.mk (Kd.N_lower (Kd.N_mono (ok' :=fun k_ => some k_ ≠ (v250 : Value).ownBlock) (Kd.R_N (Kd.R_bound ho0)) (fun k_ hk_ => (Kd.fresh' (Kd.N_lt (by (with_reducible repeat (first | apply Kd.N_alloc | apply Kd.N_drewN | apply Kd.N_drew));exact HO251.out)) k_ hk_.2.1))) (below_size (by repeat (first | (with_reducible first | exact HB.out | apply bwa | apply pwN | apply bw1) | exact HB.out))));have n2_ :=AZ0.mk (below_step (by repeat (first | (with_reducible first | exact HB.out | apply bwa | apply pwN | apply bw1) | exact HB.out)) hb);clear HO251;clear HB;have HO251 :=n0_;have HO254 :=n1_;have HB :=n2_;clear n0_ n1_ n2_;(try clear hb);(try clear hb2);(try clear hk);(try clear hi);(try clear ho0)) | ((with_reducible refine gate_dst (N :=24) rfl ?_);(try (refine gate_guard (by rfl) ?_;dsimp only));refine Kd.N_lit k48 _ 48 ?hg (N' :=24) ?hd (xs :=([] : List (S48))) (inner :=[]) (ok :=(fun k_ => some k_ ≠ (v250 : Value).ownBlock ∧ some k_ ≠ (v253 : Value).ownBlock)) (okp :=(fun k_ => some k_ ≠ (v250 : Value).ownBlock ∧ some k_ ≠ (v253 : Value).ownBlock)) ?hr ?hp (fun _ hk => hk) ((show ∀ k_,w23.heap.size ≤ k_ → (fun k_ => some k_ ≠ (v250 : Value).ownBlock ∧ some k_ ≠ (v253 : Value).ownBlock) k_ from fun k_ hk => ⟨Kd.fresh' (Kd.N_lt (by (with_reducible repeat (first | apply Kd.N_alloc | apply Kd.N_drewN | apply Kd.N_drew));exact HO251.out)) k_ hk,Kd.fresh' (Kd.N_lt (by (with_reducible repeat (first | apply Kd.N_alloc | apply Kd.N_drewN | apply Kd.N_drew));exact HO254.out)) k_ hk⟩) _ (Nat.le_refl _)) (Below.refl _ _) (Nat.le_refl _) (by simp) ?_;(case hd => rfl);(case hg => rfl);(case hr => first | (go_simp;done) | (go_simp;rfl));(case hp => exact (Reps.none _ _));intro v256 w24 ho25 hb hg_ hnew_;clear hg_ hnew_;(first | rw [← Ny255.out] at ho25 | (simp only [Int.reduceToNat] at ho25;rw [← Ny255.out] at ho25));have n0_ :=AZ0.mk (Kd.N_elder' (by (with_reducible repeat (first | apply Kd.N_alloc | apply Kd.N_drewN | apply Kd.N_drew));exact HO251.out) (Kd.N_base ho25) hb);have n1_ :=AZ0.mk (Kd.N_elder' (by (with_reducible repeat (first | apply Kd.N_alloc | apply Kd.N_drewN | apply Kd.N_drew));exact HO254.out) (Kd.N_base ho25) hb);have n2_ :=AZ0.mk (Kd.N_lower ho25 (below_size (by repeat (first | (with_reducible first | exact HB.out | apply bwa | apply pwN | apply bw1) | exact HB.out))));have n3_ :=AZ0.mk (below_step (by repeat (first | (with_reducible first | exact HB.out | apply bwa | apply pwN | apply bw1) | exact HB.out)) hb);clear HO251;clear HO254;clear HB;have HO251 :=n0_;have HO254 :=n1_;have HO257 :=n2_;have HB :=n3_;clear n0_ n1_ n2_ n3_;clear hb ho25;obtain ⟨Ao27,co27,eo27⟩ :=Kd.N_slice HO251.out;subst eo27) | ((with_reducible refine gate_builtin (b :=.append) (xs :=#[.tmp 24,.tmp 25]) rfl ?_);(try (refine gate_guard (by rfl) ?_;dsimp only));at_builtin;refine Kd.N_append_rows k48 (w0 :=w) w.heap.size rfl (.tmp 24) (.tmp 25) 25 48 (.agg #[(.int .i64 0),(.int .i64 0),(.string ⟨#[]⟩),(.slice none 0 0),(.string ⟨#[]⟩),(.slice none 0 0),(.int .i64 0),(.slice none 0 0),(.int .i64 0),(.int .i64 0),(.bool false),(.slice none 0 0),(.int .i64 0),(.slice none 0 0)]) 208 rfl Tryz.underlying25 info48 rfl (by decide) (by omega) v256 y255 t249 _ _ _ (fun k_ => some k_ ≠ (v253 : Value).ownBlock) (fun k_ => ((fun k_ => some k_ ≠ (v253 : Value).ownBlock)) k_ ∧ some k_ ≠ (v256 : Value).ownBlock) rfl rfl ?aO ?aR (fun _ hk => hk) ?aF ?aB ?aS ?aL ?_;(case aR => exact (by skip;exact Kd.N_F (Kd.N_mono (ok' :=(fun k_ => ((fun k_ => some k_ ≠ (v253 : Value).ownBlock)) k_ ∧ some k_ ≠ (v256 : Value).ownBlock)) (HO251.out) (fun k_ hk => ⟨hk.1.2,hk.2⟩))));(case aB => exact (by repeat (first | (with_reducible first | exact HB.out | apply bwa | apply pwN | apply bw1) | exact HB.out)));(case aF => exact (fun k_ hk => Kd.fresh' (Kd.N_lt (by (with_reducible repeat (first | apply Kd.N_alloc | apply Kd.N_drewN | apply Kd.N_drew));exact HO254.out)) k_ hk));(case aO => exact (by (with_reducible repeat (first | apply Kd.N_alloc | apply Kd.N_drewN | apply Kd.N_drew));exact Kd.N_mono HO257.out (fun _ hk => hk.2)));(case aS => exact (below_size (by repeat (first | (with_reducible first | exact HB.out | apply bwa | apply pwN | apply bw1) | exact HB.out))));(case aL => have :=LMc11.out;omega);intro v259 w26 ho hb hg hat;rw [← Ny258.out] at ho;have n0_ :=AZ0.mk (Kd.N_afterv (ok :=(fun k_ => some k_ ≠ (v253 : Value).ownBlock)) (by (with_reducible repeat (first | apply Kd.N_alloc | apply Kd.N_drewN | apply Kd.N_drew));exact Kd.N_mono HO251.out (fun _ hk => ⟨hk.1.2,hk.2⟩)) hg hat);have n1_ :=AZ0.mk (Kd.N_afterv (ok :=(fun k_ => some k_ ≠ (.slice Ao27 t249.length co27 : Value).ownBlock)) (by (with_reducible repeat (first | apply Kd.N_alloc | apply Kd.N_drewN | apply Kd.N_drew));exact HO254.out) hg hat);have n2_ :=AZ0.mk (hb);have n3_ :=AZ0.mk (ho);clear HO251;clear HO254;clear HB;clear HO257;have HO251 :=n0_;have HO254 :=n1_;have HB :=n2_;have HO260 :=n3_;clear n0_ n1_ n2_ n3_;clear ho hb hg hat;obtain ⟨Ao29,co29,eo29⟩ :=Kd.N_slice HO254.out;subst eo29) | ((with_reducible refine gate_builtin (b :=.append) (xs :=#[.tmp 26,.tmp 27]) rfl ?_);(try (refine gate_guard (by rfl) ?_;dsimp only));at_builtin;refine Kd.N_append_rows k48 (w0 :=w) w.heap.size rfl (.tmp 26) (.tmp 27) 25 48 (.agg #[(.int .i64 0),(.int .i64 0),(.string ⟨#[]⟩),(.slice none 0 0),(.string ⟨#[]⟩),(.slice none 0 0),(.int .i64 0),(.slice none 0 0),(.int .i64 0),(.int .i64 0),(.bool false),(.slice none 0 0),(.int .i64 0),(.slice none 0 0)]) 208 rfl Tryz.underlying25 info48 rfl (by decide) (by omega) v259 y258 t252 _ _ _ (fun _ => True) (fun k_ => ((fun _ => True)) k_ ∧ some k_ ≠ (v259 : Value).ownBlock) rfl rfl ?aO ?aR (fun _ hk => hk) ?aF ?aB ?aS ?aL ?_;(case aR => exact (by skip;exact Kd.N_F (Kd.N_mono (ok' :=(fun k_ => ((fun _ => True)) k_ ∧ some k_ ≠ (v259 : Value).ownBlock)) (HO254.out) (fun k_ hk => ⟨trivial,hk.2⟩))));(case aB => exact (by repeat (first | (with_reducible first | exact HB.out | apply bwa | apply pwN | apply bw1) | exact HB.out)));(case aF => exact (fun _ _ => trivial));(case aO => exact (by (with_reducible repeat (first | apply Kd.N_alloc | apply Kd.N_drewN | apply Kd.N_drew));exact Kd.N_mono HO260.out (fun _ hk => trivial)));(case aS => exact (below_size (by repeat (first | (with_reducible first | exact HB.out | apply bwa | apply pwN | apply bw1) | exact HB.out))));(case aL => have :=LMc12.out;omega);intro v262 w28 ho hb hg hat;rw [← Ny261.out] at ho;have n0_ :=AZ0.mk (Kd.N_afterv (ok :=(fun k_ => some k_ ≠ (.slice Ao29 t252.length co29 : Value).ownBlock)) (by (with_reducible repeat (first | apply Kd.N_alloc | apply Kd.N_drewN | apply Kd.N_drew));exact HO251.out) hg hat);have n1_ :=AZ0.mk (Kd.N_afterv (ok :=(fun k_ => some k_ ≠ (.slice Ao27 t249.length co27 : Value).ownBlock)) (by (with_reducible repeat (first | apply Kd.N_alloc | apply Kd.N_drewN | apply Kd.N_drew));exact HO254.out) hg hat);have n2_ :=AZ0.mk (hb);have n3_ :=AZ0.mk (ho);clear HO251;clear HO254;clear HB;clear HO260;have HO251 :=n0_;have HO254 :=n1_;have HB :=n2_;have HO263 :=n3_;clear n0_ n1_ n2_ n3_;clear ho hb hg hat) | ((with_reducible refine gate_callee (f :=7) rfl ?_);refine goesL_ (some 30) rfl rfl Tryz.func7 (by kernel_rfl) rfl #[.slice Ao27 t249.length co27] rfl (by (try simp only [List.map_toArray,List.map_cons,List.map_nil]);first | done | rfl | (simp only [List.length_drop,List.length_take];rfl)) ?_;(with_reducible refine (play_Encode.calls _ _ t249 t264 _ ?side1 ?side2 A13.out).mono ?_);(case side1 => repeat (first | exact (Kd.N_reads' HO251.out).2.2 | (with_reducible refine Kd.C_alloc ?_ _) | (with_reducible refine Kd.C_drewN ?_ _) | (with_reducible refine Kd.C_drew ?_)));(case side2 => exact (Kd.N_reads' HO251.out).2.1);rintro e w30 ⟨v265,rfl,ho0,hb⟩;refine ⟨_,rfl,?_⟩;have n0_ :=AZ0.mk (Kd.N_elder' (by (with_reducible repeat (first | apply Kd.N_alloc | apply Kd.N_drewN | apply Kd.N_drew));exact HO251.out) (Kd.R_base ho0) hb);have n1_ :=AZ0.mk (Kd.N_elder' (by (with_reducible repeat (first | apply Kd.N_alloc | apply Kd.N_drewN | apply Kd.N_drew));exact HO254.out) (Kd.R_base ho0) hb);have n2_ :=AZ0.mk (Kd.N_elder' (by (with_reducible repeat (first | apply Kd.N_alloc | apply Kd.N_drewN | apply Kd.N_drew));exact HO263.out) (Kd.R_base ho0) hb);have n3_ :=AZ0.mk (Kd.R_lower ho0 (below_size (by repeat (first | (with_reducible first | exact HB.out | apply bwa | apply pwN | apply bw1) | exact HB.out))));have n4_ :=AZ0.mk (below_step (by repeat (first | (with_reducible first | exact HB.out | apply bwa | apply pwN | apply bw1) | exact HB.out)) hb);clear HO251;clear HO254;clear HO263;clear HB;have HO251 :=n0_;have HO254 :=n1_;have HO263 :=n2_;have HO266 :=n3_;have HB :=n4_;clear n0_ n1_ n2_ n3_ n4_;(try clear hb);(try clear hb2);(try clear hk);(try clear hi);(try clear ho0)) | ((with_reducible refine gate_callee (f :=7) rfl ?_);refine goesL_ (some 32) rfl rfl Tryz.func7 (by kernel_rfl) rfl #[.slice Ao29 t252.length co29] rfl (by (try simp only [List.map_toArray,List.map_cons,List.map_nil]);first | done | rfl | (simp only [List.length_drop,List.length_take];rfl)) ?_;(with_reducible refine (play_Encode.calls _ _ t252 t267 _ ?side1 ?side2 A14.out).mono ?_);(case side1 => repeat (first | exact (Kd.N_reads' HO254.out).2.2 | (with_reducible refine Kd.C_alloc ?_ _) | (with_reducible refine Kd.C_drewN ?_ _) | (with_reducible refine Kd.C_drew ?_)));(case side2 => exact (Kd.N_reads' HO254.out).2.1);rintro e w31 ⟨v268,rfl,ho0,hb⟩;refine ⟨_,rfl,?_⟩;have n0_ :=AZ0.mk (Kd.N_elder' (by (with_reducible repeat (first | apply Kd.N_alloc | apply Kd.N_drewN | apply Kd.N_drew));exact HO251.out) (Kd.R_base ho0) hb);have n1_ :=AZ0.mk (Kd.N_elder' (by (with_reducible repeat (first | apply Kd.N_alloc | apply Kd.N_drewN | apply Kd.N_drew));exact HO254.out) (Kd.R_base ho0) hb);have n2_ :=AZ0.mk (Kd.N_elder' (by (with_reducible repeat (first | apply Kd.N_alloc | apply Kd.N_drewN | apply Kd.N_drew));exact HO263.out) (Kd.R_base ho0) hb);have n3_ :=AZ0.mk (Kd.R_elder' (by (with_reducible repeat (first | apply Kd.R_alloc | apply Kd.R_drewN | apply Kd.R_drew));exact HO266.out) (Kd.R_base ho0) hb);have n4_ :=AZ0.mk (Kd.R_lower (Kd.R_new' ho0 (Kd.R_lt (by (with_reducible repeat (first | apply Kd.R_alloc | apply Kd.R_drewN | apply Kd.R_drew));exact HO266.out))) (below_size (by repeat (first | (with_reducible first | exact HB.out | apply bwa | apply pwN | apply bw1) | exact HB.out))));have n5_ :=AZ0.mk (below_step (by repeat (first | (with_reducible first | exact HB.out | apply bwa | apply pwN | apply bw1) | exact HB.out)) hb);clear HO251;clear HO254;clear HO263;clear HO266;clear HB;have HO251 :=n0_;have HO254 :=n1_;have HO263 :=n2_;have HO266 :=n3_;have HO269 :=n4_;have HB :=n5_;clear n0_ n1_ n2_ n3_ n4_ n5_;(try clear hb);(try clear hb2);(try clear hk);(try clear hi);(try clear ho0);obtain ⟨Ao32,co32,eo32⟩ :=Kd.R_slice HO266.out;subst eo32;obtain ⟨Ao33,co33,eo33⟩ :=Kd.R_slice HO269.out;subst eo33;obtain ⟨Ao34,co34,eo34⟩ :=Kd.N_slice HO263.out;subst eo34))
           have n0_ :=AZ0.mk (Kd.N_drew HO251.out)
           have n1_ :=AZ0.mk (Kd.N_drew HO254.out)
           have n2_ :=AZ0.mk (Kd.N_drew HO263.out)
           have n3_ :=AZ0.mk (Kd.R_drew HO266.out)
           have n4_ :=AZ0.mk (Kd.R_drew HO269.out)
           have n5_ :=AZ0.mk (bw1 HB.out)
           clear HO251
           clear HO254
           clear HO263
           clear HO266
           clear HO269
           clear HB
           have HO251 :=n0_
           have HO254 :=n1_
           have HO263 :=n2_
           have HO266 :=n3_
           have HO269 :=n4_
           have HB :=n5_
           clear n0_ n1_ n2_ n3_ n4_ n5_
           refine start_ (n :=20) (S :=fun w' => (convert 22 9 (.slice Ao32 t264.length co32)).run Tryz.prog w' = .ok (.string (strOfNums t264)) w' ∧ (convert 22 9 (.slice Ao33 t267.length co33)).run Tryz.prog w' = .ok (.string (strOfNums t267)) w') (ds :=[]) #[false,false,false,false,false,false,false,false,false,false,false,false,false,false,false,false,false,false,false,false] (by kernel_rfl) rfl rfl ⟨own_string (P :=Tryz.prog) Tryz.underlying22 Tryz.underlying5 Tryz.underlying9 (Kd.own_of_R HO266.out),own_string (P :=Tryz.prog) Tryz.underlying22 Tryz.underlying5 Tryz.underlying9 (Kd.own_of_R HO269.out)⟩ (fun hHeld => ?_);refine with_tabW pandectlaw27_PlayJoins.tab8 pandectlaw27_PlayJoins.bits8 (fun HT_ HW_ => ?_)
           generalize w31.drew = w35 at HO251 HO254 HO263 HO266 HO269 HB hHeld ⊢
           refine pure_ (i :=1) (N :=some 34) (v :=?_) (a' :=?_) #[false,true,false,false,false,false,false,false,false,false,false,false,false,false,false,false,false,false,false,false] rfl rfl (any_of HT_.out (by kernel_rfl)) (fun _ _ _ h => h) (Or.inl ⟨by rfl,?_⟩) ?_ ?_
           rotate_left
           ·intro w'
            go_simp
            with_reducible rfl
           rotate_left
           ·simp only [Act.put,List.setIfInBounds_toArray,List.set_cons_zero,List.set_cons_succ,i64_w,i32_w]
            rfl
           refine pure_ (i :=3) (N :=some 36) (v :=?_) (a' :=?_) #[false,true,false,true,false,false,false,false,false,false,false,false,false,false,false,false,false,false,false,false] rfl rfl (any_of HT_.out (by kernel_rfl)) (fun _ _ _ h => h) (Or.inl ⟨by rfl,?_⟩) ?_ ?_
           rotate_left
           ·intro w'
            go_simp
            with_reducible rfl
           rotate_left
           ·simp only [Act.put,List.setIfInBounds_toArray,List.set_cons_zero,List.set_cons_succ,i64_w,i32_w]
            rfl
           refine pure_ (i :=6) (N :=some 39) (v :=?_) (a' :=?_) #[false,true,false,true,false,false,true,false,false,false,false,false,false,false,false,false,false,false,false,false] rfl rfl (any_of HT_.out (by kernel_rfl)) (fun _ _ _ h => h) (Or.inl ⟨by rfl,?_⟩) ?_ ?_
           rotate_left
           ·intro w'
            go_simp
            with_reducible rfl
           rotate_left
           ·simp only [Act.put,List.setIfInBounds_toArray,List.set_cons_zero,List.set_cons_succ,i64_w,i32_w]
            rfl
           refine one_ (i :=0) (N :=some 33) #[true,true,false,true,false,false,true,false,false,false,false,false,false,false,false,false,false,false,false,false] rfl rfl (one_of HT_.out (by kernel_rfl)) (by decide) (fun K hK => ?_)
           refine Kd.R_lit_step (Kd.int .u8) _ 5 ?hg (N :=33) ?hd (xs :=([] : List Int)) (inner :=[]) (ok :=fun _ => True) (okp :=fun _ => True) ?hr ?hp (fun _ hk => hk) trivial (Below.refl _ _) (Nat.le_refl _) (by simp) ?_;(case hd => rfl);(case hg => rfl);(case hr => first | (go_simp;done) | (go_simp;rfl));(case hp => exact (Reps.none _ _))
           intro v271 w36 ho37 hb hg_ hnew_
           clear hg_ hnew_
           (first | rw [← Ny270.out] at ho37 | (simp only [Int.reduceToNat] at ho37;rw [← Ny270.out] at ho37))
           have n0_ :=AZ0.mk (Kd.N_elder' (by (with_reducible repeat (first | apply Kd.N_alloc | apply Kd.N_drewN | apply Kd.N_drew));exact HO251.out) (Kd.R_base ho37) hb)
           have n1_ :=AZ0.mk (Kd.N_elder' (by (with_reducible repeat (first | apply Kd.N_alloc | apply Kd.N_drewN | apply Kd.N_drew));exact HO254.out) (Kd.R_base ho37) hb)
           have n2_ :=AZ0.mk (Kd.N_elder' (by (with_reducible repeat (first | apply Kd.N_alloc | apply Kd.N_drewN | apply Kd.N_drew));exact HO263.out) (Kd.R_base ho37) hb)
           have n3_ :=AZ0.mk (Kd.R_elder' (by (with_reducible repeat (first | apply Kd.R_alloc | apply Kd.R_drewN | apply Kd.R_drew));exact HO266.out) (Kd.R_base ho37) hb)
           have n4_ :=AZ0.mk (Kd.R_elder' (by (with_reducible repeat (first | apply Kd.R_alloc | apply Kd.R_drewN | apply Kd.R_drew));exact HO269.out) (Kd.R_base ho37) hb)
           have n5_ :=AZ0.mk (Kd.R_lower (Kd.R_new' (Kd.R_new' ho37 (Kd.R_lt (by (with_reducible repeat (first | apply Kd.R_alloc | apply Kd.R_drewN | apply Kd.R_drew));exact HO266.out))) (Kd.R_lt (by (with_reducible repeat (first | apply Kd.R_alloc | apply Kd.R_drewN | apply Kd.R_drew));exact HO269.out))) (below_size (by repeat (first | (with_reducible first | exact HB.out | apply bwa | apply pwN | apply bw1) | exact HB.out))))
           have n6_ :=AZ0.mk (below_step (by repeat (first | (with_reducible first | exact HB.out | apply bwa | apply pwN | apply bw1) | exact HB.out)) hb)
           clear HO251
           clear HO254
           clear HO263
           clear HO266
           clear HO269
           clear HB
           have HO251 :=n0_
           have HO254 :=n1_
           have HO263 :=n2_
           have HO266 :=n3_
           have HO269 :=n4_
           have HO272 :=n5_
           have HB :=n6_
           clear n0_ n1_ n2_ n3_ n4_ n5_ n6_
           clear hb ho37
           refine hK.out _ _ ⟨own_string (P :=Tryz.prog) Tryz.underlying22 Tryz.underlying5 Tryz.underlying9 (Kd.own_of_R HO266.out),own_string (P :=Tryz.prog) Tryz.underlying22 Tryz.underlying5 Tryz.underlying9 (Kd.own_of_R HO269.out)⟩ (fun hHeld => ?_)
           clear hK K
           refine norm_ (a' :=?_) ?_ ?_
           rotate_left
           ·show Act.put _ (some 33) _ = _
            simp only [Act.put,List.setIfInBounds_toArray,List.set_cons_zero,List.set_cons_succ,i64_w,i32_w]
            rfl
           refine one_ (i :=2) (N :=some 35) #[true,true,true,true,false,false,true,false,false,false,false,false,false,false,false,false,false,false,false,false] rfl rfl (one_of HT_.out (by kernel_rfl)) (by decide) (fun K hK => ?_)
           refine Kd.R_append_rows_step (Kd.int .u8) (w0 :=w) w.heap.size (by rfl) (.tmp 33) (.tmp 34) 22 5 (.int .u8 0) 1 rfl Tryz.underlying22 info5 rfl (by decide) (by omega) v271 y270 t264 _ _ _ (fun k_ => some k_ ≠ (.slice Ao32 t264.length co32 : Value).ownBlock ∧ some k_ ≠ (.slice Ao33 t267.length co33 : Value).ownBlock) (fun _ => False) rfl rfl ?aO ?aR (fun _ _ h => h) (fun _ h => h.elim) ?aF ?aB ?aS ?aL ?_
           (case aR => repeat (first | exact (Kd.R_reads' HO266.out).2.2 | (with_reducible refine Kd.C_alloc ?_ _) | (with_reducible refine Kd.C_drewN ?_ _) | (with_reducible refine Kd.C_drew ?_)))
           (case aB => exact (by repeat (first | (with_reducible first | exact HB.out | apply bwa | apply pwN | apply bw1) | exact HB.out)))
           (case aF => exact (fun k_ hk => ⟨Kd.fresh' (Kd.R_lt (by (with_reducible repeat (first | apply Kd.R_alloc | apply Kd.R_drewN | apply Kd.R_drew));exact HO266.out)) k_ hk,Kd.fresh' (Kd.R_lt (by (with_reducible repeat (first | apply Kd.R_alloc | apply Kd.R_drewN | apply Kd.R_drew));exact HO269.out)) k_ hk⟩))
           (case aO => exact (by (with_reducible repeat (first | apply Kd.R_alloc | apply Kd.R_drewN | apply Kd.R_drew));exact Kd.R_mono HO272.out (fun _ hk => ⟨hk.1.2,hk.2⟩)))
           (case aS => exact (below_size (by repeat (first | (with_reducible first | exact HB.out | apply bwa | apply pwN | apply bw1) | exact HB.out))))
           (case aL => have :=LMc15.out;omega)
           intro v274 w38 ho hb hg hat
           rw [← Ny273.out] at ho
           have n0_ :=AZ0.mk (Kd.N_afterv (ok :=(fun k_ => some k_ ≠ (.slice Ao29 t252.length co29 : Value).ownBlock ∧ some k_ ≠ (.slice Ao34 y261.length co34 : Value).ownBlock ∧ some k_ ≠ (.slice Ao32 t264.length co32 : Value).ownBlock ∧ some k_ ≠ (.slice Ao33 t267.length co33 : Value).ownBlock)) (by (with_reducible repeat (first | apply Kd.N_alloc | apply Kd.N_drewN | apply Kd.N_drew));exact Kd.N_mono HO251.out (fun _ hk => ⟨⟨hk.1.1.1.1,⟨hk.1.1.1.2,⟨hk.1.1.2,hk.1.2⟩⟩⟩,hk.2⟩)) hg hat)
           have n1_ :=AZ0.mk (Kd.N_afterv (ok :=(fun k_ => some k_ ≠ (.slice Ao27 t249.length co27 : Value).ownBlock ∧ some k_ ≠ (.slice Ao34 y261.length co34 : Value).ownBlock ∧ some k_ ≠ (.slice Ao32 t264.length co32 : Value).ownBlock ∧ some k_ ≠ (.slice Ao33 t267.length co33 : Value).ownBlock)) (by (with_reducible repeat (first | apply Kd.N_alloc | apply Kd.N_drewN | apply Kd.N_drew));exact Kd.N_mono HO254.out (fun _ hk => ⟨⟨hk.1.1.1.1,⟨hk.1.1.1.2,⟨hk.1.1.2,hk.1.2⟩⟩⟩,hk.2⟩)) hg hat)
           have n2_ :=AZ0.mk (Kd.N_afterv (ok :=(fun k_ => some k_ ≠ (.slice Ao32 t264.length co32 : Value).ownBlock ∧ some k_ ≠ (.slice Ao33 t267.length co33 : Value).ownBlock)) (by (with_reducible repeat (first | apply Kd.N_alloc | apply Kd.N_drewN | apply Kd.N_drew));exact Kd.N_mono HO263.out (fun _ hk => ⟨⟨hk.1.1.2,hk.1.2⟩,hk.2⟩)) hg hat)
           have n3_ :=AZ0.mk (Kd.R_after (ok :=(fun k_ => some k_ ≠ (.slice Ao33 t267.length co33 : Value).ownBlock)) (by (with_reducible repeat (first | apply Kd.R_alloc | apply Kd.R_drewN | apply Kd.R_drew));exact Kd.R_mono HO266.out (fun _ hk => ⟨hk.1.2,hk.2⟩)) hg hat)
           have n4_ :=AZ0.mk (Kd.R_after (ok :=(fun k_ => some k_ ≠ (.slice Ao32 t264.length co32 : Value).ownBlock)) (by (with_reducible repeat (first | apply Kd.R_alloc | apply Kd.R_drewN | apply Kd.R_drew));exact Kd.R_mono HO269.out (fun _ hk => ⟨hk.1.2,hk.2⟩)) hg hat)
           have n5_ :=AZ0.mk (hb)
           have n6_ :=AZ0.mk (ho)
           clear HO251
           clear HO254
           clear HO263
           clear HO266
           clear HO269
           clear HB
           clear HO272
           have HO251 :=n0_
           have HO254 :=n1_
           have HO263 :=n2_
           have HO266 :=n3_
           have HO269 :=n4_
           have HB :=n5_
           have HO275 :=n6_
           clear n0_ n1_ n2_ n3_ n4_ n5_ n6_
           clear ho hb hg hat
           refine hK.out _ _ ⟨own_string (P :=Tryz.prog) Tryz.underlying22 Tryz.underlying5 Tryz.underlying9 (Kd.own_of_R HO266.out),own_string (P :=Tryz.prog) Tryz.underlying22 Tryz.underlying5 Tryz.underlying9 (Kd.own_of_R HO269.out)⟩ (fun hHeld => ?_)
           clear hK K
           refine norm_ (a' :=?_) ?_ ?_
           rotate_left
           ·show Act.put _ (some 35) _ = _
            simp only [Act.put,List.setIfInBounds_toArray,List.set_cons_zero,List.set_cons_succ,i64_w,i32_w]
            rfl
           refine one_ (i :=4) (N :=some 37) #[true,true,true,true,true,false,true,false,false,false,false,false,false,false,false,false,false,false,false,false] rfl rfl (one_of HT_.out (by kernel_rfl)) (by decide) (fun K hK => ?_)
           refine Kd.R_append_rows_step (Kd.int .u8) (w0 :=w) w.heap.size (by rfl) (.tmp 35) (.tmp 36) 22 5 (.int .u8 0) 1 rfl Tryz.underlying22 info5 rfl (by decide) (by omega) v274 y273 t267 _ _ _ (fun k_ => some k_ ≠ (.slice Ao32 t264.length co32 : Value).ownBlock ∧ some k_ ≠ (.slice Ao33 t267.length co33 : Value).ownBlock) (fun _ => False) rfl rfl ?aO ?aR (fun _ _ h => h) (fun _ h => h.elim) ?aF ?aB ?aS ?aL ?_
           (case aR => repeat (first | exact (Kd.R_reads' HO269.out).2.2 | (with_reducible refine Kd.C_alloc ?_ _) | (with_reducible refine Kd.C_drewN ?_ _) | (with_reducible refine Kd.C_drew ?_)))
           (case aB => exact (by repeat (first | (with_reducible first | exact HB.out | apply bwa | apply pwN | apply bw1) | exact HB.out)))
           (case aF => exact (fun k_ hk => ⟨Kd.fresh' (Kd.R_lt (by (with_reducible repeat (first | apply Kd.R_alloc | apply Kd.R_drewN | apply Kd.R_drew));exact HO266.out)) k_ hk,Kd.fresh' (Kd.R_lt (by (with_reducible repeat (first | apply Kd.R_alloc | apply Kd.R_drewN | apply Kd.R_drew));exact HO269.out)) k_ hk⟩))
           (case aO => exact (by (with_reducible repeat (first | apply Kd.R_alloc | apply Kd.R_drewN | apply Kd.R_drew));exact HO275.out))
           (case aS => exact (below_size (by repeat (first | (with_reducible first | exact HB.out | apply bwa | apply pwN | apply bw1) | exact HB.out))))
           (case aL => have :=LMc16.out;omega)
           intro v277 w39 ho hb hg hat
           rw [← Ny276.out] at ho
           have n0_ :=AZ0.mk (Kd.N_afterv (ok :=(fun k_ => some k_ ≠ (.slice Ao29 t252.length co29 : Value).ownBlock ∧ some k_ ≠ (.slice Ao34 y261.length co34 : Value).ownBlock ∧ some k_ ≠ (.slice Ao32 t264.length co32 : Value).ownBlock ∧ some k_ ≠ (.slice Ao33 t267.length co33 : Value).ownBlock)) (by (with_reducible repeat (first | apply Kd.N_alloc | apply Kd.N_drewN | apply Kd.N_drew));exact HO251.out) hg hat)
           have n1_ :=AZ0.mk (Kd.N_afterv (ok :=(fun k_ => some k_ ≠ (.slice Ao27 t249.length co27 : Value).ownBlock ∧ some k_ ≠ (.slice Ao34 y261.length co34 : Value).ownBlock ∧ some k_ ≠ (.slice Ao32 t264.length co32 : Value).ownBlock ∧ some k_ ≠ (.slice Ao33 t267.length co33 : Value).ownBlock)) (by (with_reducible repeat (first | apply Kd.N_alloc | apply Kd.N_drewN | apply Kd.N_drew));exact HO254.out) hg hat)
           have n2_ :=AZ0.mk (Kd.N_afterv (ok :=(fun k_ => some k_ ≠ (.slice Ao32 t264.length co32 : Value).ownBlock ∧ some k_ ≠ (.slice Ao33 t267.length co33 : Value).ownBlock)) (by (with_reducible repeat (first | apply Kd.N_alloc | apply Kd.N_drewN | apply Kd.N_drew));exact HO263.out) hg hat)
           have n3_ :=AZ0.mk (Kd.R_after (ok :=(fun k_ => some k_ ≠ (.slice Ao33 t267.length co33 : Value).ownBlock)) (by (with_reducible repeat (first | apply Kd.R_alloc | apply Kd.R_drewN | apply Kd.R_drew));exact HO266.out) hg hat)
           have n4_ :=AZ0.mk (Kd.R_after (ok :=(fun k_ => some k_ ≠ (.slice Ao32 t264.length co32 : Value).ownBlock)) (by (with_reducible repeat (first | apply Kd.R_alloc | apply Kd.R_drewN | apply Kd.R_drew));exact HO269.out) hg hat)
           have n5_ :=AZ0.mk (hb)
           have n6_ :=AZ0.mk (ho)
           clear HO251
           clear HO254
           clear HO263
           clear HO266
           clear HO269
           clear HB
           clear HO275
           have HO251 :=n0_
           have HO254 :=n1_
           have HO263 :=n2_
           have HO266 :=n3_
           have HO269 :=n4_
           have HB :=n5_
           have HO278 :=n6_
           clear n0_ n1_ n2_ n3_ n4_ n5_ n6_
           clear ho hb hg hat
           obtain ⟨Ao40,co40,eo40⟩ :=Kd.R_slice HO278.out
           (first | subst eo40 | (injection eo40 with f1_ f2_ f3_;have f4_ :=f1_.symm;have f5_ :=f3_.symm;clear f1_ f2_ f3_;subst f4_;subst f5_))
           refine hK.out _ _ ⟨own_string (P :=Tryz.prog) Tryz.underlying22 Tryz.underlying5 Tryz.underlying9 (Kd.own_of_R HO266.out),own_string (P :=Tryz.prog) Tryz.underlying22 Tryz.underlying5 Tryz.underlying9 (Kd.own_of_R HO269.out)⟩ (fun hHeld => ?_)
           clear hK K
           refine norm_ (a' :=?_) ?_ ?_
           rotate_left
           ·show Act.put _ (some 37) _ = _
            simp only [Act.put,List.setIfInBounds_toArray,List.set_cons_zero,List.set_cons_succ,i64_w,i32_w]
            rfl
           refine one_ (i :=5) (N :=some 38) #[true,true,true,true,true,true,true,false,false,false,false,false,false,false,false,false,false,false,false,false] rfl rfl (one_of HT_.out (by kernel_rfl)) (by decide) (fun K hK => ?_)
           refine goes_ Tryz.func6 (by kernel_rfl) rfl #[.slice Ao40 y276.length co40] (by rfl) rfl rfl (by (try simp only [List.map_toArray,List.map_cons,List.map_nil]);first | done | rfl | (simp only [List.length_drop,List.length_take];rfl)) ?_
           with_reducible refine (play_Decode.calls kj4 _ _ y276 t279 _ ?side1 ?side2 A17.out).mono ?_
           (case side1 => repeat (first | exact (Kd.R_reads' HO278.out).2.2 | (with_reducible refine Kd.C_alloc ?_ _) | (with_reducible refine Kd.C_drewN ?_ _) | (with_reducible refine Kd.C_drew ?_)))
           (case side2 => exact (Kd.R_reads' HO278.out).2.1)
           rintro e w41 ⟨v280,rfl,ho0,hb⟩
           refine ⟨_,rfl,?_⟩
           have n0_ :=AZ0.mk (Kd.N_elder' (by (with_reducible repeat (first | apply Kd.N_alloc | apply Kd.N_drewN | apply Kd.N_drew));exact HO251.out) (Kd.R_base ho0) hb)
           have n1_ :=AZ0.mk (Kd.N_elder' (by (with_reducible repeat (first | apply Kd.N_alloc | apply Kd.N_drewN | apply Kd.N_drew));exact HO254.out) (Kd.R_base ho0) hb)
           have n2_ :=AZ0.mk (Kd.N_elder' (by (with_reducible repeat (first | apply Kd.N_alloc | apply Kd.N_drewN | apply Kd.N_drew));exact HO263.out) (Kd.R_base ho0) hb)
           have n3_ :=AZ0.mk (Kd.R_below (by (with_reducible repeat (first | apply Kd.R_alloc | apply Kd.R_drewN | apply Kd.R_drew));exact HO266.out) hb)
           have n4_ :=AZ0.mk (Kd.R_below (by (with_reducible repeat (first | apply Kd.R_alloc | apply Kd.R_drewN | apply Kd.R_drew));exact HO269.out) hb)
           have n5_ :=AZ0.mk (Kd.R_below (by (with_reducible repeat (first | apply Kd.R_alloc | apply Kd.R_drewN | apply Kd.R_drew));exact HO278.out) hb)
           have n6_ :=AZ0.mk (Kd.N_lower (Kd.N_mono (ok' :=fun k_ => some k_ ≠ (.slice Ao27 t249.length co27 : Value).ownBlock ∧ some k_ ≠ (.slice Ao29 t252.length co29 : Value).ownBlock ∧ some k_ ≠ (.slice Ao34 y261.length co34 : Value).ownBlock ∧ some k_ ≠ (.slice Ao32 t264.length co32 : Value).ownBlock ∧ some k_ ≠ (.slice Ao33 t267.length co33 : Value).ownBlock ∧ some k_ ≠ (.slice Ao40 y276.length co40 : Value).ownBlock) (Kd.R_N (Kd.R_bound ho0)) (fun k_ hk_ => ⟨(Kd.fresh' (Kd.N_lt (by (with_reducible repeat (first | apply Kd.N_alloc | apply Kd.N_drewN | apply Kd.N_drew));exact HO251.out)) k_ hk_.2.1),(Kd.fresh' (Kd.N_lt (by (with_reducible repeat (first | apply Kd.N_alloc | apply Kd.N_drewN | apply Kd.N_drew));exact HO254.out)) k_ hk_.2.1),(Kd.fresh' (Kd.N_lt (by (with_reducible repeat (first | apply Kd.N_alloc | apply Kd.N_drewN | apply Kd.N_drew));exact HO263.out)) k_ hk_.2.1),(Kd.fresh' (Kd.R_lt (by (with_reducible repeat (first | apply Kd.R_alloc | apply Kd.R_drewN | apply Kd.R_drew));exact HO266.out)) k_ hk_.2.1),(Kd.fresh' (Kd.R_lt (by (with_reducible repeat (first | apply Kd.R_alloc | apply Kd.R_drewN | apply Kd.R_drew));exact HO269.out)) k_ hk_.2.1),(Kd.fresh' (Kd.R_lt (by (with_reducible repeat (first | apply Kd.R_alloc | apply Kd.R_drewN | apply Kd.R_drew));exact HO278.out)) k_ hk_.2.1)⟩)) (below_size (by repeat (first | (with_reducible first | exact HB.out | apply bwa | apply pwN | apply bw1) | exact HB.out))))
           have n7_ :=AZ0.mk (below_step (by repeat (first | (with_reducible first | exact HB.out | apply bwa | apply pwN | apply bw1) | exact HB.out)) hb)
           clear HO251
           clear HO254
           clear HO263
           clear HO266
           clear HO269
           clear HO278
           clear HB
           have HO251 :=n0_
           have HO254 :=n1_
           have HO263 :=n2_
           have HO266 :=n3_
           have HO269 :=n4_
           have HO278 :=n5_
           have HO281 :=n6_
           have HB :=n7_
           clear n0_ n1_ n2_ n3_ n4_ n5_ n6_ n7_
           (try clear hb)
           (try clear hb2)
           (try clear hk)
           (try clear hi)
           (try clear ho0)
           obtain ⟨Ao42,co42,eo42⟩ :=Kd.N_slice HO281.out
           (first | subst eo42 | (injection eo42 with f1_ f2_ f3_;have f4_ :=f1_.symm;have f5_ :=f3_.symm;clear f1_ f2_ f3_;subst f4_;subst f5_))
           refine hK.out _ _ ⟨own_string (P :=Tryz.prog) Tryz.underlying22 Tryz.underlying5 Tryz.underlying9 (Kd.own_of_R HO266.out),own_string (P :=Tryz.prog) Tryz.underlying22 Tryz.underlying5 Tryz.underlying9 (Kd.own_of_R HO269.out)⟩ (fun hHeld => ?_)
           clear hK K
           refine norm_ (a' :=?_) ?_ ?_
           rotate_left
           ·show Act.put _ (some 38) _ = _
            simp only [Act.put,List.setIfInBounds_toArray,List.set_cons_zero,List.set_cons_succ,i64_w,i32_w]
            rfl
           refine one_ (i :=7) (N :=some 40) #[true,true,true,true,true,true,true,true,false,false,false,false,false,false,false,false,false,false,false,false] rfl rfl (one_of HT_.out (by kernel_rfl)) (by decide) (fun K hK => ?_)
           refine goes_ Tryz.func11 (by kernel_rfl) rfl #[.slice Ao42 t279.length co42,.slice Ao34 y261.length co34] (by rfl) rfl rfl (by (try simp only [List.map_toArray,List.map_cons,List.map_nil]);first | done | rfl | (simp only [List.length_drop,List.length_take];rfl)) ?_
           with_reducible refine (pandectref27_SameSteps.calls _ _ t279 _ _ y261 true _ ?side1 ?side2 ?side3 ?side4 A18.out).mono ?_
           (case side1 => repeat (first | exact (Kd.N_reads' HO281.out).2.2 | (with_reducible refine Kd.C_alloc ?_ _) | (with_reducible refine Kd.C_drewN ?_ _) | (with_reducible refine Kd.C_drew ?_)))
           (case side2 => exact (Kd.N_reads' HO281.out).2.1)
           (case side3 => repeat (first | exact (Kd.N_reads' HO263.out).2.2 | (with_reducible refine Kd.C_alloc ?_ _) | (with_reducible refine Kd.C_drewN ?_ _) | (with_reducible refine Kd.C_drew ?_)))
           (case side4 => exact (Kd.N_reads' HO263.out).2.1)
           rintro e w43 ⟨rfl,hb⟩
           refine ⟨_,rfl,?_⟩
           have n0_ :=AZ0.mk (Kd.N_below (by (with_reducible repeat (first | apply Kd.N_alloc | apply Kd.N_drewN | apply Kd.N_drew));exact HO251.out) hb)
           have n1_ :=AZ0.mk (Kd.N_below (by (with_reducible repeat (first | apply Kd.N_alloc | apply Kd.N_drewN | apply Kd.N_drew));exact HO254.out) hb)
           have n2_ :=AZ0.mk (Kd.N_below (by (with_reducible repeat (first | apply Kd.N_alloc | apply Kd.N_drewN | apply Kd.N_drew));exact HO263.out) hb)
           have n3_ :=AZ0.mk (Kd.R_below (by (with_reducible repeat (first | apply Kd.R_alloc | apply Kd.R_drewN | apply Kd.R_drew));exact HO266.out) hb)
           have n4_ :=AZ0.mk (Kd.R_below (by (with_reducible repeat (first | apply Kd.R_alloc | apply Kd.R_drewN | apply Kd.R_drew));exact HO269.out) hb)
           have n5_ :=AZ0.mk (Kd.R_below (by (with_reducible repeat (first | apply Kd.R_alloc | apply Kd.R_drewN | apply Kd.R_drew));exact HO278.out) hb)
           have n6_ :=AZ0.mk (Kd.N_below (by (with_reducible repeat (first | apply Kd.N_alloc | apply Kd.N_drewN | apply Kd.N_drew));exact HO281.out) hb)
           have n7_ :=AZ0.mk (below_step (by repeat (first | (with_reducible first | exact HB.out | apply bwa | apply pwN | apply bw1) | exact HB.out)) hb)
           clear HO251
           clear HO254
           clear HO263
           clear HO266
           clear HO269
           clear HO278
           clear HO281
           clear HB
           have HO251 :=n0_
           have HO254 :=n1_
           have HO263 :=n2_
           have HO266 :=n3_
           have HO269 :=n4_
           have HO278 :=n5_
           have HO281 :=n6_
           have HB :=n7_
           clear n0_ n1_ n2_ n3_ n4_ n5_ n6_ n7_
           (try clear hb)
           (try clear hb2)
           (try clear hk)
           (try clear hi)
           refine hK.out _ _ ⟨own_string (P :=Tryz.prog) Tryz.underlying22 Tryz.underlying5 Tryz.underlying9 (Kd.own_of_R HO266.out),own_string (P :=Tryz.prog) Tryz.underlying22 Tryz.underlying5 Tryz.underlying9 (Kd.own_of_R HO269.out)⟩ (fun hHeld => ?_)
           clear hK K
           refine norm_ (a' :=?_) ?_ ?_
           rotate_left
           ·show Act.put _ (some 40) _ = _
            simp only [Act.put,List.setIfInBounds_toArray,List.set_cons_zero,List.set_cons_succ,i64_w,i32_w]
            rfl
           refine pure_ (i :=8) (N :=some 41) (v :=?_) (a' :=?_) #[true,true,true,true,true,true,true,true,true,false,false,false,false,false,false,false,false,false,false,false] rfl rfl (any_of HT_.out (by kernel_rfl)) (fun _ _ _ h => h) (Or.inl ⟨by rfl,?_⟩) ?_ ?_
           rotate_left
           ·intro w'
            go_simp
            with_reducible rfl
           rotate_left
           ·simp only [Act.put,List.setIfInBounds_toArray,List.set_cons_zero,List.set_cons_succ,i64_w,i32_w]
            rfl
           refine pure_ (i :=9) (N :=some 42) (v :=?_) (a' :=?_) #[true,true,true,true,true,true,true,true,true,true,false,false,false,false,false,false,false,false,false,false] rfl rfl (any_of HT_.out (by kernel_rfl)) (fun _ _ _ h => h) (Or.inl ⟨by rfl,?_⟩) ?_ ?_
           rotate_left
           ·intro w'
            go_simp
            with_reducible rfl
           rotate_left
           ·simp only [Act.put,List.setIfInBounds_toArray,List.set_cons_zero,List.set_cons_succ,i64_w,i32_w]
            rfl
           refine pure_ (i :=12) (N :=some 45) (v :=?_) (a' :=?_) #[true,true,true,true,true,true,true,true,true,true,false,false,true,false,false,false,false,false,false,false] rfl rfl (any_of HT_.out (by kernel_rfl)) (fun _ _ _ h => h) (Or.inl ⟨by rfl,?_⟩) ?_ ?_
           rotate_left
           ·intro w'
            go_simp
            with_reducible rfl
           rotate_left
           ·simp only [Act.put,List.setIfInBounds_toArray,List.set_cons_zero,List.set_cons_succ,i64_w,i32_w]
            rfl
           refine take_ (i :=13) (N :=some 46) (v :=?_) (a' :=?_) #[true,true,true,true,true,true,true,true,true,true,false,false,true,true,false,false,false,false,false,false] rfl rfl (take_ofW HT_.out HW_.out (by kernel_rfl)) (fun _ _ _ h => h) (Or.inl ⟨by rfl,?_⟩) hHeld ?_ ?_
           rotate_left
           ·rintro w' ⟨s0,s1⟩
            go_simp
            with_reducible rfl
           rotate_left
           ·simp only [Act.put,List.setIfInBounds_toArray,List.set_cons_zero,List.set_cons_succ,i64_w,i32_w]
            rfl
           refine pure_ (i :=14) (N :=some 47) (v :=?_) (a' :=?_) #[true,true,true,true,true,true,true,true,true,true,false,false,true,true,true,false,false,false,false,false] rfl rfl (any_of HT_.out (by kernel_rfl)) (fun _ _ _ h => h) (Or.inl ⟨by rfl,?_⟩) ?_ ?_
           rotate_left
           ·intro w'
            go_simp
            with_reducible rfl
           rotate_left
           ·simp only [Act.put,List.setIfInBounds_toArray,List.set_cons_zero,List.set_cons_succ,i64_w,i32_w]
            rfl
           refine take_ (i :=15) (N :=some 48) (v :=?_) (a' :=?_) #[true,true,true,true,true,true,true,true,true,true,false,false,true,true,true,true,false,false,false,false] rfl rfl (take_ofW HT_.out HW_.out (by kernel_rfl)) (fun _ _ _ h => h) (Or.inl ⟨by rfl,?_⟩) hHeld ?_ ?_
           rotate_left
           ·rintro w' ⟨s0,s1⟩
            go_simp
            with_reducible rfl
           rotate_left
           ·simp only [Act.put,List.setIfInBounds_toArray,List.set_cons_zero,List.set_cons_succ,i64_w,i32_w]
            rfl
           refine pure_ (i :=16) (N :=some 49) (v :=?_) (a' :=?_) #[true,true,true,true,true,true,true,true,true,true,false,false,true,true,true,true,true,false,false,false] rfl rfl (any_of HT_.out (by kernel_rfl)) (fun _ _ _ h => h) (Or.inl ⟨by rfl,?_⟩) ?_ ?_
           rotate_left
           ·intro w'
            go_simp
            with_reducible rfl
           rotate_left
           ·simp only [Act.put,List.setIfInBounds_toArray,List.set_cons_zero,List.set_cons_succ,i64_w,i32_w]
            rfl
           refine one_ (i :=10) (N :=some 43) #[true,true,true,true,true,true,true,true,true,true,true,false,true,true,true,true,true,false,false,false] rfl rfl (one_of HT_.out (by kernel_rfl)) (by decide) (fun K hK => ?_)
           refine goes_ Tryz.func7 (by kernel_rfl) rfl #[.slice Ao34 y261.length co34] (by rfl) rfl rfl (by (try simp only [List.map_toArray,List.map_cons,List.map_nil]);first | done | rfl | (simp only [List.length_drop,List.length_take];rfl)) ?_
           with_reducible refine (play_Encode.calls _ _ y261 t283 _ ?side1 ?side2 A20.out).mono ?_
           (case side1 => repeat (first | exact (Kd.N_reads' HO263.out).2.2 | (with_reducible refine Kd.C_alloc ?_ _) | (with_reducible refine Kd.C_drewN ?_ _) | (with_reducible refine Kd.C_drew ?_)))
           (case side2 => exact (Kd.N_reads' HO263.out).2.1)
           rintro e w44 ⟨v284,rfl,ho0,hb⟩
           refine ⟨_,rfl,?_⟩
           have n0_ :=AZ0.mk (Kd.N_elder' (by (with_reducible repeat (first | apply Kd.N_alloc | apply Kd.N_drewN | apply Kd.N_drew));exact HO251.out) (Kd.R_base ho0) hb)
           have n1_ :=AZ0.mk (Kd.N_elder' (by (with_reducible repeat (first | apply Kd.N_alloc | apply Kd.N_drewN | apply Kd.N_drew));exact HO254.out) (Kd.R_base ho0) hb)
           have n2_ :=AZ0.mk (Kd.N_elder' (by (with_reducible repeat (first | apply Kd.N_alloc | apply Kd.N_drewN | apply Kd.N_drew));exact HO263.out) (Kd.R_base ho0) hb)
           have n3_ :=AZ0.mk (Kd.R_elder' (by (with_reducible repeat (first | apply Kd.R_alloc | apply Kd.R_drewN | apply Kd.R_drew));exact HO266.out) (Kd.R_base ho0) hb)
           have n4_ :=AZ0.mk (Kd.R_elder' (by (with_reducible repeat (first | apply Kd.R_alloc | apply Kd.R_drewN | apply Kd.R_drew));exact HO269.out) (Kd.R_base ho0) hb)
           have n5_ :=AZ0.mk (Kd.R_elder' (by (with_reducible repeat (first | apply Kd.R_alloc | apply Kd.R_drewN | apply Kd.R_drew));exact HO278.out) (Kd.R_base ho0) hb)
           have n6_ :=AZ0.mk (Kd.N_elder' (by (with_reducible repeat (first | apply Kd.N_alloc | apply Kd.N_drewN | apply Kd.N_drew));exact HO281.out) (Kd.R_base ho0) hb)
           have n7_ :=AZ0.mk (Kd.R_lower (Kd.R_new' (Kd.R_new' (Kd.R_new' ho0 (Kd.R_lt (by (with_reducible repeat (first | apply Kd.R_alloc | apply Kd.R_drewN | apply Kd.R_drew));exact HO266.out))) (Kd.R_lt (by (with_reducible repeat (first | apply Kd.R_alloc | apply Kd.R_drewN | apply Kd.R_drew));exact HO269.out))) (Kd.R_lt (by (with_reducible repeat (first | apply Kd.R_alloc | apply Kd.R_drewN | apply Kd.R_drew));exact HO278.out))) (below_size (by repeat (first | (with_reducible first | exact HB.out | apply bwa | apply pwN | apply bw1) | exact HB.out))))
           have n8_ :=AZ0.mk (below_step (by repeat (first | (with_reducible first | exact HB.out | apply bwa | apply pwN | apply bw1) | exact HB.out)) hb)
           clear HO251
           clear HO254
           clear HO263
           clear HO266
           clear HO269
           clear HO278
           clear HO281
           clear HB
           have HO251 :=n0_
           have HO254 :=n1_
           have HO263 :=n2_
           have HO266 :=n3_
           have HO269 :=n4_
           have HO278 :=n5_
           have HO281 :=n6_
           have HO285 :=n7_
           have HB :=n8_
           clear n0_ n1_ n2_ n3_ n4_ n5_ n6_ n7_ n8_
           (try clear hb)
           (try clear hb2)
           (try clear hk)
           (try clear hi)
           (try clear ho0)
           have hcv46 :=own_string (P :=Tryz.prog) Tryz.underlying22 Tryz.underlying5 Tryz.underlying9 (Kd.own_of_R HO266.out)
           have hcv47 :=own_string (P :=Tryz.prog) Tryz.underlying22 Tryz.underlying5 Tryz.underlying9 (Kd.own_of_R HO269.out)
           refine hK.out _ _ ⟨own_string (P :=Tryz.prog) Tryz.underlying22 Tryz.underlying5 Tryz.underlying9 (Kd.own_of_R HO266.out),own_string (P :=Tryz.prog) Tryz.underlying22 Tryz.underlying5 Tryz.underlying9 (Kd.own_of_R HO269.out)⟩ (fun hHeld => ?_)
           clear hK K
           refine norm_ (a' :=?_) ?_ ?_
           rotate_left
           ·show Act.put _ (some 43) _ = _
            simp only [Act.put,List.setIfInBounds_toArray,List.set_cons_zero,List.set_cons_succ,i64_w,i32_w]
            rfl
           refine one_ (i :=11) (N :=some 44) #[true,true,true,true,true,true,true,true,true,true,true,true,true,true,true,true,true,false,false,false] rfl rfl (one_of HT_.out (by kernel_rfl)) (by decide) (fun K hK => ?_)
           have hcv45 :=own_string (P :=Tryz.prog) Tryz.underlying22 Tryz.underlying5 Tryz.underlying9 (Kd.own_of_R HO285.out)
           refine value_ (w1 :=?_) (v :=?_) (by rfl) rfl ?_ ?_
           rotate_left 2
           ·go_simp
            constructor
            ·rfl
            ·rfl
           clear hcv45
           refine hK.out _ _ ⟨own_string (P :=Tryz.prog) Tryz.underlying22 Tryz.underlying5 Tryz.underlying9 (Kd.own_of_R HO266.out),own_string (P :=Tryz.prog) Tryz.underlying22 Tryz.underlying5 Tryz.underlying9 (Kd.own_of_R HO269.out)⟩ (fun hHeld => ?_)
           clear hK K
           refine norm_ (a' :=?_) ?_ ?_
           rotate_left
           ·show Act.put _ (some 44) _ = _
            simp only [Act.put,List.setIfInBounds_toArray,List.set_cons_zero,List.set_cons_succ,i64_w,i32_w]
            rfl
           refine pure_ (i :=17) (N :=some 50) (v :=?_) (a' :=?_) #[true,true,true,true,true,true,true,true,true,true,true,true,true,true,true,true,true,true,false,false] rfl rfl (any_of HT_.out (by kernel_rfl)) (fun _ _ _ h => h) (Or.inl ⟨by rfl,?_⟩) ?_ ?_
           rotate_left
           ·intro w'
            go_simp
            with_reducible rfl
           rotate_left
           ·simp only [Act.put,List.setIfInBounds_toArray,List.set_cons_zero,List.set_cons_succ,i64_w,i32_w]
            rfl
           refine pure_ (i :=18) (N :=some 51) (v :=?_) (a' :=?_) #[true,true,true,true,true,true,true,true,true,true,true,true,true,true,true,true,true,true,true,false] rfl rfl (any_of HT_.out (by kernel_rfl)) (fun _ _ _ h => h) (Or.inl ⟨by rfl,?_⟩) ?_ ?_
           rotate_left
           ·intro w'
            go_simp
            with_reducible rfl
           rotate_left
           ·simp only [Act.put,List.setIfInBounds_toArray,List.set_cons_zero,List.set_cons_succ,i64_w,i32_w]
            rfl
           refine pure_ (i :=19) (N :=some 4) (v :=?_) (a' :=?_) #[true,true,true,true,true,true,true,true,true,true,true,true,true,true,true,true,true,true,true,true] rfl rfl (any_of HT_.out (by kernel_rfl)) (fun _ _ _ h => h) (Or.inl ⟨by rfl,?_⟩) ?_ ?_
           rotate_left
           ·intro w'
            go_simp
            with_reducible rfl
           rotate_left
           ·simp only [Act.put,List.setIfInBounds_toArray,List.set_cons_zero,List.set_cons_succ,i64_w,i32_w]
            rfl
           refine done_ (done_of HT_.out (by kernel_rfl)) ?_
           try go_wp2
           go_ret
           exact ⟨by first | rfl | (simp [errW_none,errW_some] <;> rfl) | (simp [*,errW_none,errW_some] <;> rfl),by repeat (first | (with_reducible first | exact HB.out | apply bwa | apply pwN | apply bw1) | exact HB.out)⟩
          ·rw [if_neg c21] at H
           exact absurd H (by simp)
         ·replace c19 :=Bool.eq_false_iff.mpr c19
          subst c19
          have H1 : (none) = some r :=by rw [if_neg (show ¬ (false = true) by decide)] at H;exact H
          clear H
          have H :=H1
          clear H1
          exact absurd H (by simp)
        ·rw [if_neg c16] at H
         exact absurd H (by simp)
       ·rw [if_neg c15] at H
        exact absurd H (by simp)
      ·rw [if_neg c12] at H
       exact absurd H (by simp)
     ·rw [if_neg c11] at H
      exact absurd H (by simp)
 ·replace c4 :=Bool.eq_false_iff.mpr c4
  subst c4
  have H1 : (none) = some r :=by rw [if_neg (show ¬ (false = true) by decide)] at H;exact H
  clear H
  have H :=H1
  clear H1
  exact absurd H (by simp)
def pandectlaw27_PlayJoins.Pure : Prop :=∀ (l0 : List Int) (l1 : List Int),l0.length ≤ maxLen → l0.length * 1 ≤ 140737488351232 → (∀ x ∈ l0,(Lit.int .u8 x).wf = true) → l1.length ≤ maxLen → l1.length * 1 ≤ 140737488351232 → (∀ x ∈ l1,(Lit.int .u8 x).wf = true) → ∃ k,pandectlaw27_PlayJoins.f k l0 l1 = some true
theorem pandectlaw27_PlayJoins.walk (P : pandectlaw27_PlayJoins.Pure) (a0 : Option Addr) (len0 cap0 : Nat) (z0 : List Int) (a1 : Option Addr) (len1 cap1 : Nat) (z1 : List Int) (w : World) (w0 : (a0 = none ∧ len0 = 0 ∧ cap0 = 0 ∧ z0 = []) ∨ ∃ x,a0 = some x ∧ len0 ≤ cap0 ∧ cap0 ≤ maxLen ∧ z0.length = cap0 ∧ (∀ i,i < z0.length → w.cell? (x.add i) = some (.int .u8 (z0.getD i 0))) ∧ ∀ n ∈ z0,(Lit.int .u8 n).wf = true) (y0 : len0 * 1 ≤ 140737488351232) (w1 : (a1 = none ∧ len1 = 0 ∧ cap1 = 0 ∧ z1 = []) ∨ ∃ x,a1 = some x ∧ len1 ≤ cap1 ∧ cap1 ≤ maxLen ∧ z1.length = cap1 ∧ (∀ i,i < z1.length → w.cell? (x.add i) = some (.int .u8 (z1.getD i 0))) ∧ ∀ n ∈ z1,(Lit.int .u8 n).wf = true) (y1 : len1 * 1 ≤ 140737488351232) :
  Calls Tryz.prog 4 #[.slice a0 len0 cap0,.slice a1 len1 cap1] w fun e w' => e = .returned (.bool true) ∧ Below w.heap.size w w' :=by
 obtain ⟨l0,rfl,hr0,hm0,hw0,hc0⟩ :=ReadsInt.ofRowC w0
 obtain ⟨l1,rfl,hr1,hm1,hw1,hc1⟩ :=ReadsInt.ofRowC w1
 obtain ⟨k,h⟩ :=P l0 l1 hm0 y0 hw0 hm1 y1 hw1
 refine (pandectlaw27_PlayJoins.calls k _ _ l0 _ _ l1 true w (Kd.C_of_reads (d :=(0 : Int)) (h1 :=fun _ => rfl) hr0) hc0 (Kd.C_of_reads (d :=(0 : Int)) (h1 :=fun _ => rfl) hr1) hc1 h).mono ?_
 rintro e w' ⟨rfl,hd⟩
 exact ⟨rfl,hd⟩
end Go.Proofs.YtlafgnanfkhobaaGreatDoor.P2
