-- Written for this claim by a program, out of the translation.
import Derived.Test.YtfelkchmeiijfaaQ0
import Derived.Test.YtfelkchmeiijfaaQ2
namespace Go.Proofs.Ytfelkchmeiijfaa.P2
open Go.RowKit Go.Proofs.YtfelkchmeiijfaaW.PrintWords Go.Proofs.YtfelkchmeiijfaaW.PrintLast Go.Proofs.YtfelkchmeiijfaaW.PrintMore
attribute [local go_sem] max2_int min2_int max_two min_two max_three min_three max_four min_four
set_option linter.unusedVariables false
set_option linter.unusedSimpArgs false
/-! ### pandectplay_Picks_Commit: function 6 -/
mutual
def pandectplay_Picks_Commit.j0 : Nat → List Int → Int → ByteArray → Option (ByteArray × (List (S36)) × Int)
 | 0,_,_,_ => none
 | k + 1,x1000,x1001,x127000 => (pandectplay_Picks_Num.f x1000 x1001 3).bind fun bt135 => (pandectplay_Picks_Commit.l0 k 0 (wrap64 (1 + bt135.1)) x1000 bt135.2 x127000 ([] : List (S36)))
def pandectplay_Picks_Commit.l0 : Nat → Int → Int → List Int → Int → ByteArray → List (S36) → Option (ByteArray × (List (S36)) × Int)
 | 0,_,_,_,_,_,_ => none
 | k + 1,x4,x5,x1000,x1001,x127000,x127001 => if x4 < x5 then ((pandectplay_Picks_Name.f x1000 x1001).bind fun bt137 => ((some (([(-1),(-1),(-1),(-2),0,1,3] : List Int) : List Int)).bind fun y139 => ((pandectplay_Picks_Num.f x1000 bt137.2 7).bind fun bt142 => (if 0 ≤ bt142.1 then (if bt142.1 < (y139.length : Int) then (pandectplay_Picks_Commit.l1 k x4 x5 false 0 x1000 bt142.2 x127000 x127001 bt137.1 (rd y139 bt142.1)) else (none)) else (none))))) else (some (x127000,x127001,x1001))
def pandectplay_Picks_Commit.l1 : Nat → Int → Int → Bool → Int → List Int → Int → ByteArray → List (S36) → ByteArray → Int → Option (ByteArray × (List (S36)) × Int)
 | 0,_,_,_,_,_,_,_,_,_,_ => none
 | k + 1,x4,x5,x7,x8,x1000,x1001,x127000,x127001,x146000,x146001 => if x8 < (x127001.length : Int) then (if x7 = true then (pandectplay_Picks_Commit.l1 k x4 x5 true (wrap64 (x8 + 1)) x1000 x1001 x127000 x127001 x146000 x146001) else (if 0 ≤ x8 then (pandectplay_Picks_Commit.l1 k x4 x5 (((rd_T36 x127001 x8).f0).toList == x146000.toList) (wrap64 (x8 + 1)) x1000 x1001 x127000 x127001 x146000 x146001) else (none))) else (if x7 = true then ((pandectplay_Picks_Num.f x1000 x1001 9).bind fun bt147 => (pandectplay_Picks_Commit.j3 k x4 x5 (decide (bt147.1 > 0)) x1000 bt147.2 x127000 x127001 x146000 x146001)) else (pandectplay_Picks_Commit.j3 k x4 x5 false x1000 x1001 x127000 x127001 x146000 x146001))
def pandectplay_Picks_Commit.j3 : Nat → Int → Int → Bool → List Int → Int → ByteArray → List (S36) → ByteArray → Int → Option (ByteArray × (List (S36)) × Int)
 | 0,_,_,_,_,_,_,_,_,_ => none
 | k + 1,x4,x5,x60,x1000,x1001,x127000,x127001,x146000,x146001 => if x60 = true then (pandectplay_Picks_Commit.l0 k (wrap64 (x4 + 1)) x5 x1000 x1001 x127000 x127001) else ((pandectplay_Picks_Num.f x1000 x1001 4).bind fun bt149 => (pandectplay_Picks_Commit.l2 k x4 x5 (wrap64 (1 + bt149.1)) x1000 bt149.2 x127000 x127001 x146000 x146001 ([] : List (S49))))
def pandectplay_Picks_Commit.l2 : Nat → Int → Int → Int → List Int → Int → ByteArray → List (S36) → ByteArray → Int → List (S49) → Option (ByteArray × (List (S36)) × Int)
 | 0,_,_,_,_,_,_,_,_,_,_ => none
 | k + 1,x4,x5,x9,x1000,x1001,x127000,x127001,x146000,x146001,x146002 => if x9 > 0 then ((pandectplay_Picks_Kind.f x1000 x1001).bind fun bt151 => ((pandectplay_Picks_Data.f k x1000 bt151.2).bind fun bt153 => (if x146002.length < 3518437208883 then (pandectplay_Picks_Commit.l2 k x4 x5 (wrap64 (x9 - 1)) x1000 bt153.2 x127000 x127001 x146000 x146001 (x146002 ++ [(⟨bt151.1,bt153.1⟩ : S49)])) else (none)))) else (if x127001.length < 2932031007402 then (pandectplay_Picks_Commit.l0 k (wrap64 (x4 + 1)) x5 x1000 x1001 x127000 (x127001 ++ [(⟨x146000,x146001,x146002⟩ : S36)])) else (none))
end
def pandectplay_Picks_Commit.f (k : Nat) (s0_0 : List Int) (s0_1 : Int) : Option (ByteArray × (List (S36)) × Int) :=(pandectplay_Picks_Num.f s0_0 s0_1 4).bind fun bt127 => (if bt127.1 = 0 then ((some (([(⟨#[111,110,101]⟩ : ByteArray),(⟨#[116,119,111]⟩ : ByteArray),(⟨#[116,104,114,101,101]⟩ : ByteArray)] : List ByteArray) : List ByteArray)).bind fun y129 => ((pandectplay_Picks_Num.f s0_0 bt127.2 3).bind fun bt132 => (if 0 ≤ bt132.1 then (if bt132.1 < (y129.length : Int) then (pandectplay_Picks_Commit.j0 k s0_0 bt132.2 (rdOf ByteArray.empty y129 bt132.1)) else (none)) else (none)))) else (pandectplay_Picks_Commit.j0 k s0_0 bt127.2 (⟨#[]⟩ : ByteArray)))
theorem pandectplay_Picks_Commit.mono_l : ∀ k,(∀ y0 y1 y2,LeO (pandectplay_Picks_Commit.j0 k y0 y1 y2) (pandectplay_Picks_Commit.j0 (k + 1) y0 y1 y2)) ∧ (∀ y0 y1 y2 y3 y4 y5,LeO (pandectplay_Picks_Commit.l0 k y0 y1 y2 y3 y4 y5) (pandectplay_Picks_Commit.l0 (k + 1) y0 y1 y2 y3 y4 y5)) ∧ (∀ y0 y1 y2 y3 y4 y5 y6 y7 y8 y9,LeO (pandectplay_Picks_Commit.l1 k y0 y1 y2 y3 y4 y5 y6 y7 y8 y9) (pandectplay_Picks_Commit.l1 (k + 1) y0 y1 y2 y3 y4 y5 y6 y7 y8 y9)) ∧ (∀ y0 y1 y2 y3 y4 y5 y6 y7 y8,LeO (pandectplay_Picks_Commit.j3 k y0 y1 y2 y3 y4 y5 y6 y7 y8) (pandectplay_Picks_Commit.j3 (k + 1) y0 y1 y2 y3 y4 y5 y6 y7 y8)) ∧ (∀ y0 y1 y2 y3 y4 y5 y6 y7 y8 y9,LeO (pandectplay_Picks_Commit.l2 k y0 y1 y2 y3 y4 y5 y6 y7 y8 y9) (pandectplay_Picks_Commit.l2 (k + 1) y0 y1 y2 y3 y4 y5 y6 y7 y8 y9))
 | 0 => ⟨fun _ _ _ r h => by simp [pandectplay_Picks_Commit.j0] at h,fun _ _ _ _ _ _ r h => by simp [pandectplay_Picks_Commit.l0] at h,fun _ _ _ _ _ _ _ _ _ _ r h => by simp [pandectplay_Picks_Commit.l1] at h,fun _ _ _ _ _ _ _ _ _ r h => by simp [pandectplay_Picks_Commit.j3] at h,fun _ _ _ _ _ _ _ _ _ _ r h => by simp [pandectplay_Picks_Commit.l2] at h⟩
 | k + 1 => by
  obtain ⟨ih0,ih1,ih2,ih3,ih4⟩ :=pandectplay_Picks_Commit.mono_l k
  refine ⟨?_,?_,?_,?_,?_⟩
  ·intro y0 y1 y2
   unfold pandectplay_Picks_Commit.j0
   repeat' first
   | (with_reducible exact ih0 _ _ _)
   | (with_reducible exact ih1 _ _ _ _ _ _)
   | (with_reducible exact ih2 _ _ _ _ _ _ _ _ _ _)
   | (with_reducible exact ih3 _ _ _ _ _ _ _ _ _)
   | (with_reducible exact ih4 _ _ _ _ _ _ _ _ _ _)
   | (with_reducible exact pandectplay_Picks_Data.mono _ _ _)
   | (with_reducible exact LeO.refl _)
   | (with_reducible exact LeO.none _)
   | (with_reducible refine LeO.ite ?_ ?_)
   | (with_reducible refine LeO.bind ?_ (fun _ => ?_))
   | exact ih0 _ _ _
   | exact ih1 _ _ _ _ _ _
   | exact ih2 _ _ _ _ _ _ _ _ _ _
   | exact ih3 _ _ _ _ _ _ _ _ _
   | exact ih4 _ _ _ _ _ _ _ _ _ _
   | exact pandectplay_Picks_Data.mono _ _ _
   | exact LeO.none _
   | refine LeO.ite ?_ ?_
   | refine LeO.bind ?_ (fun _ => ?_)
  ·intro y0 y1 y2 y3 y4 y5
   unfold pandectplay_Picks_Commit.l0
   repeat' first
   | (with_reducible exact ih0 _ _ _)
   | (with_reducible exact ih1 _ _ _ _ _ _)
   | (with_reducible exact ih2 _ _ _ _ _ _ _ _ _ _)
   | (with_reducible exact ih3 _ _ _ _ _ _ _ _ _)
   | (with_reducible exact ih4 _ _ _ _ _ _ _ _ _ _)
   | (with_reducible exact pandectplay_Picks_Data.mono _ _ _)
   | (with_reducible exact LeO.refl _)
   | (with_reducible exact LeO.none _)
   | (with_reducible refine LeO.ite ?_ ?_)
   | (with_reducible refine LeO.bind ?_ (fun _ => ?_))
   | exact ih0 _ _ _
   | exact ih1 _ _ _ _ _ _
   | exact ih2 _ _ _ _ _ _ _ _ _ _
   | exact ih3 _ _ _ _ _ _ _ _ _
   | exact ih4 _ _ _ _ _ _ _ _ _ _
   | exact pandectplay_Picks_Data.mono _ _ _
   | exact LeO.none _
   | refine LeO.ite ?_ ?_
   | refine LeO.bind ?_ (fun _ => ?_)
  ·intro y0 y1 y2 y3 y4 y5 y6 y7 y8 y9
   unfold pandectplay_Picks_Commit.l1
   repeat' first
   | (with_reducible exact ih0 _ _ _)
   | (with_reducible exact ih1 _ _ _ _ _ _)
   | (with_reducible exact ih2 _ _ _ _ _ _ _ _ _ _)
   | (with_reducible exact ih3 _ _ _ _ _ _ _ _ _)
   | (with_reducible exact ih4 _ _ _ _ _ _ _ _ _ _)
   | (with_reducible exact pandectplay_Picks_Data.mono _ _ _)
   | (with_reducible exact LeO.refl _)
   | (with_reducible exact LeO.none _)
   | (with_reducible refine LeO.ite ?_ ?_)
   | (with_reducible refine LeO.bind ?_ (fun _ => ?_))
   | exact ih0 _ _ _
   | exact ih1 _ _ _ _ _ _
   | exact ih2 _ _ _ _ _ _ _ _ _ _
   | exact ih3 _ _ _ _ _ _ _ _ _
   | exact ih4 _ _ _ _ _ _ _ _ _ _
   | exact pandectplay_Picks_Data.mono _ _ _
   | exact LeO.none _
   | refine LeO.ite ?_ ?_
   | refine LeO.bind ?_ (fun _ => ?_)
  ·intro y0 y1 y2 y3 y4 y5 y6 y7 y8
   unfold pandectplay_Picks_Commit.j3
   repeat' first
   | (with_reducible exact ih0 _ _ _)
   | (with_reducible exact ih1 _ _ _ _ _ _)
   | (with_reducible exact ih2 _ _ _ _ _ _ _ _ _ _)
   | (with_reducible exact ih3 _ _ _ _ _ _ _ _ _)
   | (with_reducible exact ih4 _ _ _ _ _ _ _ _ _ _)
   | (with_reducible exact pandectplay_Picks_Data.mono _ _ _)
   | (with_reducible exact LeO.refl _)
   | (with_reducible exact LeO.none _)
   | (with_reducible refine LeO.ite ?_ ?_)
   | (with_reducible refine LeO.bind ?_ (fun _ => ?_))
   | exact ih0 _ _ _
   | exact ih1 _ _ _ _ _ _
   | exact ih2 _ _ _ _ _ _ _ _ _ _
   | exact ih3 _ _ _ _ _ _ _ _ _
   | exact ih4 _ _ _ _ _ _ _ _ _ _
   | exact pandectplay_Picks_Data.mono _ _ _
   | exact LeO.none _
   | refine LeO.ite ?_ ?_
   | refine LeO.bind ?_ (fun _ => ?_)
  ·intro y0 y1 y2 y3 y4 y5 y6 y7 y8 y9
   unfold pandectplay_Picks_Commit.l2
   repeat' first
   | (with_reducible exact ih0 _ _ _)
   | (with_reducible exact ih1 _ _ _ _ _ _)
   | (with_reducible exact ih2 _ _ _ _ _ _ _ _ _ _)
   | (with_reducible exact ih3 _ _ _ _ _ _ _ _ _)
   | (with_reducible exact ih4 _ _ _ _ _ _ _ _ _ _)
   | (with_reducible exact pandectplay_Picks_Data.mono _ _ _)
   | (with_reducible exact LeO.refl _)
   | (with_reducible exact LeO.none _)
   | (with_reducible refine LeO.ite ?_ ?_)
   | (with_reducible refine LeO.bind ?_ (fun _ => ?_))
   | exact ih0 _ _ _
   | exact ih1 _ _ _ _ _ _
   | exact ih2 _ _ _ _ _ _ _ _ _ _
   | exact ih3 _ _ _ _ _ _ _ _ _
   | exact ih4 _ _ _ _ _ _ _ _ _ _
   | exact pandectplay_Picks_Data.mono _ _ _
   | exact LeO.none _
   | refine LeO.ite ?_ ?_
   | refine LeO.bind ?_ (fun _ => ?_)
theorem pandectplay_Picks_Commit.mono : ∀ a0 a1 k,LeO (pandectplay_Picks_Commit.f k a0 a1) (pandectplay_Picks_Commit.f (k + 1) a0 a1) :=by
 intro a0 a1 k
 obtain ⟨ih0,ih1,ih2,ih3,ih4⟩ :=pandectplay_Picks_Commit.mono_l k
 unfold pandectplay_Picks_Commit.f
 repeat' first
   | (with_reducible exact ih0 _ _ _)
   | (with_reducible exact ih1 _ _ _ _ _ _)
   | (with_reducible exact ih2 _ _ _ _ _ _ _ _ _ _)
   | (with_reducible exact ih3 _ _ _ _ _ _ _ _ _)
   | (with_reducible exact ih4 _ _ _ _ _ _ _ _ _ _)
   | (with_reducible exact pandectplay_Picks_Data.mono _ _ _)
   | (with_reducible exact LeO.refl _)
   | (with_reducible exact LeO.none _)
   | (with_reducible refine LeO.ite ?_ ?_)
   | (with_reducible refine LeO.bind ?_ (fun _ => ?_))
   | exact ih0 _ _ _
   | exact ih1 _ _ _ _ _ _
   | exact ih2 _ _ _ _ _ _ _ _ _ _
   | exact ih3 _ _ _ _ _ _ _ _ _
   | exact ih4 _ _ _ _ _ _ _ _ _ _
   | exact pandectplay_Picks_Data.mono _ _ _
   | exact LeO.none _
   | refine LeO.ite ?_ ?_
   | refine LeO.bind ?_ (fun _ => ?_)
def pandectplay_Picks_Commit.T12 : Bool × List (List Nat × List Nat) :=(true,[([],[]),([0],[0]),([1],[1]),([2,1],[1,2]),([1],[1]),([3,4,1],[1,3,4]),([5,1],[1,5]),([6,1],[1,6]),([1],[1]),([8,1],[1,8]),([7,9,1],[1,7,9]),([1,10],[1,10]),([11,1,0,1,2,3,4,5,6,7,8,9,10,11],[0,11])])
def pandectplay_Picks_Commit.B12 : List Nat :=[0,1,3,7,3,31,63,127,3,259,1023,2047,4095]
theorem pandectplay_Picks_Commit.tab12 : rtab .any (opsOf Try.f6 12) = pandectplay_Picks_Commit.T12 :=by kernel_rfl
theorem pandectplay_Picks_Commit.bits12 : waitsOk pandectplay_Picks_Commit.T12.2 pandectplay_Picks_Commit.B12 = true :=by kernel_rfl
def pandectplay_Picks_Commit.T17 : Bool × List (List Nat × List Nat) :=(true,[([],[]),([0],[0]),([],[]),([2],[2]),([],[]),([4,3],[4]),([3,5],[3,5]),([6],[6]),([1,7,5],[1,7]),([0,1,2,3,4,5,6,7,8],[]),([9,8,8,0,1,2,3,4,5,6,7,8],[8,9])])
def pandectplay_Picks_Commit.B17 : List Nat :=[0,1,0,4,0,28,60,124,255,511,1023]
theorem pandectplay_Picks_Commit.tab17 : rtab .any (opsOf Try.f6 17) = pandectplay_Picks_Commit.T17 :=by kernel_rfl
theorem pandectplay_Picks_Commit.bits17 : waitsOk pandectplay_Picks_Commit.T17.2 pandectplay_Picks_Commit.B17 = true :=by kernel_rfl
set_option maxHeartbeats 8000000 in
set_option maxRecDepth 100000 in
theorem pandectplay_Picks_Commit.calls (k : Nat) (g : Nat) (s0_0 : List Int) (s0_1 : Int) (r1 : ByteArray) (r2 : List (S36)) (r3 : Int) (w0 w : World) (hI : IsS56 w0 w g s0_0 s0_1) (hB : Below w0.heap.size w0 w) (h : pandectplay_Picks_Commit.f k s0_0 s0_1 = some (r1,r2,r3)) :
  Calls Try.prog 6 #[.pointer (some ⟨g,0,none⟩)] w fun e w' => ∃ v1_ : Value,e = .returned (.agg #[.string r1,v1_]) ∧ Kd.R k36 36 w' w.heap.size (fun _ => True) v1_ r2 ∧ IsS56 w0 w' g s0_0 r3 ∧ Below w0.heap.size w0 w' ∧ KeepBut w w' g none :=by
 have hu28 :=Try.underlying28
 have hu36 :=Try.underlying36
 have hu49 :=Try.underlying49
 have HI0 :=Aside0.mk hI
 have HK :=Aside0.mk (KeepBut.refl w g none)
 have HL :=Aside0.mk hB.size
 clear hI
 have HW0 :=Aside0.mk hB.size
 have HB :=Aside0.mk hB
 clear hB
 have H : ((pandectplay_Picks_Num.f s0_0 s0_1 4).bind fun bt127 => (if bt127.1 = 0 then ((some (([(⟨#[111,110,101]⟩ : ByteArray),(⟨#[116,119,111]⟩ : ByteArray),(⟨#[116,104,114,101,101]⟩ : ByteArray)] : List ByteArray) : List ByteArray)).bind fun y129 => ((pandectplay_Picks_Num.f s0_0 bt127.2 3).bind fun bt132 => (if 0 ≤ bt132.1 then (if bt132.1 < (y129.length : Int) then (pandectplay_Picks_Commit.j0 k s0_0 bt132.2 (rdOf ByteArray.empty y129 bt132.1)) else (none)) else (none)))) else (pandectplay_Picks_Commit.j0 k s0_0 bt127.2 (⟨#[]⟩ : ByteArray)))) = some (r1,r2,r3) :=h
 clear h
 replace H :=Option.bind_eq_some_iff.mp H
 obtain ⟨⟨t127,t128⟩,A20,H⟩ :=H
 replace H : (if t127 = 0 then ((some (([(⟨#[111,110,101]⟩ : ByteArray),(⟨#[116,119,111]⟩ : ByteArray),(⟨#[116,104,114,101,101]⟩ : ByteArray)] : List ByteArray) : List ByteArray)).bind fun y129 => ((pandectplay_Picks_Num.f s0_0 t128 3).bind fun bt132 => (if 0 ≤ bt132.1 then (if bt132.1 < (y129.length : Int) then (pandectplay_Picks_Commit.j0 k s0_0 bt132.2 (rdOf ByteArray.empty y129 bt132.1)) else (none)) else (none)))) else (pandectplay_Picks_Commit.j0 k s0_0 t128 (⟨#[]⟩ : ByteArray))) = some (r1,r2,r3) :=H
 have A2 :=Aside0.mk A20
 clear A20
 have HC3 :=Aside0.mk H
 clear H
 go_enter Try.func6,Try.ntmps6
 go_upto_if 13 with (first | ((with_reducible refine gate_dst (N :=2) rfl ?_);refine box_event ?hg (N :=2) ?hd (cs :=#[.string (⟨#[]⟩ : ByteArray),.slice none 0 0]) (t :=28) ?hr ?_;(case hd => rfl);(case hg => rfl);(case hr => first | (go_simp;done) | (go_simp;rfl));intro gb125 hg w4 hbox hb;have n0_ :=Aside0.mk (IsS56.below (by repeat (first | (with_reducible first | exact HI0.out | apply IsS56.alloc | apply IsS56.drewN | apply IsS56.drew | apply IsS56.set_1) | exact HI0.out)) hb);have n1_ :=Aside0.mk (KeepBut.trans (by repeat (first | (with_reducible first | exact HK.out | apply KeepBut.set_ | apply keep_drewN | apply keep_drew | apply keep_alloc) | exact HK.out)) (KeepBut.of_below hb g none) (.inl rfl));have n2_ :=Aside0.mk (below_step (by repeat (first | (with_reducible first | exact HB.out | apply below_alloc | apply pw_below_drewN | apply below_drew1 | refine below_set ?_ (IsS56.ge HI0.out)) | exact HB.out)) hb);have n3_ :=Aside0.mk (hbox);have n4_ :=Aside0.mk ((by rw [hg];exact (keep_size (w :=w) (g :=g) (row :=none) (by repeat (first | (with_reducible first | exact HK.out | apply KeepBut.set_ | apply keep_drewN | apply keep_drew | apply keep_alloc) | exact HK.out))) : w.heap.size ≤ gb125));have n5_ :=Aside0.mk ((Nat.le_trans HW0.out (by rw [hg];exact (keep_size (w :=w) (g :=g) (row :=none) (by repeat (first | (with_reducible first | exact HK.out | apply KeepBut.set_ | apply keep_drewN | apply keep_drew | apply keep_alloc) | exact HK.out))) : w.heap.size ≤ gb125) : w0.heap.size ≤ gb125));have n6_ :=Aside0.mk ((by rw [hg];exact Nat.ne_of_lt (IsS56.lt (show IsS56 w0 _ g s0_0 s0_1 from by repeat (first | (with_reducible first | exact HI0.out | apply IsS56.alloc | apply IsS56.drewN | apply IsS56.drew | apply IsS56.set_1) | exact HI0.out))) : g ≠ gb125));have n7_ :=Aside0.mk ((by rw [hg];exact Nat.ne_of_gt (IsS56.lt (show IsS56 w0 _ g s0_0 s0_1 from by repeat (first | (with_reducible first | exact HI0.out | apply IsS56.alloc | apply IsS56.drewN | apply IsS56.drew | apply IsS56.set_1) | exact HI0.out))) : gb125 ≠ g));clear HI0;clear HK;clear HB;have HI0 :=n0_;have HK :=n1_;have HB :=n2_;have BK125 :=n3_;have GW125 :=n4_;have GE125 :=n5_;have NB0_125 :=n6_;have NB125_0 :=n7_;clear n0_ n1_ n2_ n3_ n4_ n5_ n6_ n7_;clear hb hbox hg) | ((with_reducible refine gate_dst (N :=3) rfl ?_);refine box_event ?hg (N :=3) ?hd (cs :=#[.string (⟨#[]⟩ : ByteArray),.slice none 0 0]) (t :=28) ?hr ?_;(case hd => rfl);(case hg => rfl);(case hr => first | (go_simp;done) | (go_simp;rfl));intro gb126 hg w5 hbox hb;have n0_ :=Aside0.mk (IsS56.below (by repeat (first | (with_reducible first | exact HI0.out | apply IsS56.alloc | apply IsS56.drewN | apply IsS56.drew | apply IsS56.set_1 | refine IsS56.far ?_ NB0_125.out _) | exact HI0.out)) hb);have n1_ :=Aside0.mk (blk_below (g :=gb125) (o :=.cells #[.string (⟨#[]⟩ : ByteArray),.slice none 0 0] 28 (0,0)) (by (with_reducible repeat (first | refine blk_drewN ?_ _ | refine blk_drew ?_ | refine blk_alloc ?_ _));exact BK125.out) hb);have n2_ :=Aside0.mk (KeepBut.trans (by repeat (first | (with_reducible first | exact HK.out | apply KeepBut.set_ | apply keep_drewN | apply keep_drew | apply keep_alloc | refine keep_far ?_ GW125.out _) | exact HK.out)) (KeepBut.of_below hb g none) (.inl rfl));have n3_ :=Aside0.mk (below_step (by repeat (first | (with_reducible first | exact HB.out | apply below_alloc | apply pw_below_drewN | apply below_drew1 | refine below_set ?_ (IsS56.ge HI0.out) | refine below_set ?_ GE125.out) | exact HB.out)) hb);have n4_ :=Aside0.mk (hbox);have n5_ :=Aside0.mk ((by rw [hg];exact (keep_size (w :=w) (g :=g) (row :=none) (by repeat (first | (with_reducible first | exact HK.out | apply KeepBut.set_ | apply keep_drewN | apply keep_drew | apply keep_alloc | refine keep_far ?_ GW125.out _) | exact HK.out))) : w.heap.size ≤ gb126));have n6_ :=Aside0.mk ((Nat.le_trans HW0.out (by rw [hg];exact (keep_size (w :=w) (g :=g) (row :=none) (by repeat (first | (with_reducible first | exact HK.out | apply KeepBut.set_ | apply keep_drewN | apply keep_drew | apply keep_alloc | refine keep_far ?_ GW125.out _) | exact HK.out))) : w.heap.size ≤ gb126) : w0.heap.size ≤ gb126));have n7_ :=Aside0.mk ((by rw [hg];exact Nat.ne_of_lt (blk_lt (g :=gb125) (o :=.cells #[.string (⟨#[]⟩ : ByteArray),.slice none 0 0] 28 (0,0)) (by (with_reducible repeat (first | refine blk_drewN ?_ _ | refine blk_drew ?_ | refine blk_alloc ?_ _));exact BK125.out)) : gb125 ≠ gb126));have n8_ :=Aside0.mk ((by rw [hg];exact Nat.ne_of_gt (blk_lt (g :=gb125) (o :=.cells #[.string (⟨#[]⟩ : ByteArray),.slice none 0 0] 28 (0,0)) (by (with_reducible repeat (first | refine blk_drewN ?_ _ | refine blk_drew ?_ | refine blk_alloc ?_ _));exact BK125.out)) : gb126 ≠ gb125));have n9_ :=Aside0.mk ((by rw [hg];exact Nat.ne_of_lt (IsS56.lt (show IsS56 w0 _ g s0_0 s0_1 from by repeat (first | (with_reducible first | exact HI0.out | apply IsS56.alloc | apply IsS56.drewN | apply IsS56.drew | apply IsS56.set_1 | refine IsS56.far ?_ NB0_125.out _) | exact HI0.out))) : g ≠ gb126));have n10_ :=Aside0.mk ((by rw [hg];exact Nat.ne_of_gt (IsS56.lt (show IsS56 w0 _ g s0_0 s0_1 from by repeat (first | (with_reducible first | exact HI0.out | apply IsS56.alloc | apply IsS56.drewN | apply IsS56.drew | apply IsS56.set_1 | refine IsS56.far ?_ NB0_125.out _) | exact HI0.out))) : gb126 ≠ g));clear HI0;clear BK125;clear HK;clear HB;have HI0 :=n0_;have BK125 :=n1_;have HK :=n2_;have HB :=n3_;have BK126 :=n4_;have GW126 :=n5_;have GE126 :=n6_;have NB125_126 :=n7_;have NB126_125 :=n8_;have NB0_126 :=n9_;have NB126_0 :=n10_;clear n0_ n1_ n2_ n3_ n4_ n5_ n6_ n7_ n8_ n9_ n10_;clear hb hbox hg;have hnb6 :=NB126_125.out;have hnc6 :=NB125_126.out;have hnb7 :=NB126_0.out;have hnc7 :=NB0_126.out;have hcz8_0 : w5.cell? ⟨gb126,0,none⟩ = some (.string (⟨#[]⟩ : ByteArray)) :=(blk_cell BK126.out 0).trans rfl;have hcz8_1 : w5.cell? ⟨gb126,1,none⟩ = some (.slice none 0 0) :=(blk_cell BK126.out 1).trans rfl;have hfz8_0 :=blk_frozen BK126.out 0;have hfz8_1 :=blk_frozen BK126.out 1) | ((with_reducible refine gate_callee (f :=10) rfl ?_);refine goesL_ (some 12) rfl rfl Try.func10 (by kernel_rfl) rfl #[.pointer (some ⟨g,0,none⟩),.int .i64 4] rfl (by (try simp only [List.map_toArray,List.map_cons,List.map_nil]);first | done | rfl | (simp only [List.length_drop,List.length_take];rfl)) ?_;(with_reducible refine (pandectplay_Picks_Num.calls g s0_0 s0_1 4 t127 t128 w0 _ ?side1 ?side2 A2.out).mono ?_);(case side1 => repeat (first | (with_reducible first | exact HI0.out | apply IsS56.alloc | apply IsS56.drewN | apply IsS56.drew | apply IsS56.set_1 | refine IsS56.far ?_ NB0_125.out _ | refine IsS56.far ?_ NB0_126.out _) | exact HI0.out));(case side2 => repeat (first | (with_reducible first | exact HB.out | apply below_alloc | apply pw_below_drewN | apply below_drew1 | refine below_set ?_ (IsS56.ge HI0.out) | refine below_set ?_ GE125.out | refine below_set ?_ GE126.out) | exact HB.out));rintro e w9 ⟨rfl,hi,hb,hk⟩;refine ⟨_,rfl,?_⟩;have n0_ :=Aside0.mk (KeepBut.blk hk (g' :=gb125) (o :=.cells #[.string (⟨#[]⟩ : ByteArray),.slice none 0 0] 28 (0,0)) (by (with_reducible repeat (first | refine blk_drewN ?_ _ | refine blk_drew ?_ | refine blk_alloc ?_ _));refine blk_far ?_ NB125_126.out _;(with_reducible repeat (first | refine blk_drewN ?_ _ | refine blk_drew ?_ | refine blk_alloc ?_ _));refine blk_far ?_ NB125_126.out _;(with_reducible repeat (first | refine blk_drewN ?_ _ | refine blk_drew ?_ | refine blk_alloc ?_ _));exact BK125.out) NB125_0.out (by simp));have n1_ :=Aside0.mk (KeepBut.blk hk (g' :=gb126) (o :=.cells #[.string (⟨#[]⟩ : ByteArray),.slice none 0 0] 28 (0,0)) (by (with_reducible repeat (first | refine blk_drewN ?_ _ | refine blk_drew ?_ | refine blk_alloc ?_ _));refine blk_put (cs :=#[.string (⟨#[]⟩ : ByteArray),.slice none 0 0]) ?_ 1 _ rfl;(with_reducible repeat (first | refine blk_drewN ?_ _ | refine blk_drew ?_ | refine blk_alloc ?_ _));refine blk_put (cs :=#[.string (⟨#[]⟩ : ByteArray),.slice none 0 0]) ?_ 0 _ rfl;(with_reducible repeat (first | refine blk_drewN ?_ _ | refine blk_drew ?_ | refine blk_alloc ?_ _));exact BK126.out) NB126_0.out (by simp));have n2_ :=Aside0.mk (KeepBut.trans (by repeat (first | (with_reducible first | exact HK.out | apply KeepBut.set_ | apply keep_drewN | apply keep_drew | apply keep_alloc | refine keep_far ?_ GW125.out _ | refine keep_far ?_ GW126.out _) | exact HK.out)) hk (.inl rfl));have n3_ :=Aside0.mk (hb);have n4_ :=Aside0.mk (hi);clear BK125;clear BK126;clear HK;clear HB;clear HI0;have BK125 :=n0_;have BK126 :=n1_;have HK :=n2_;have HB :=n3_;have HI0 :=n4_;clear n0_ n1_ n2_ n3_ n4_;(try clear hb);(try clear hb2);(try clear hk);(try clear hi)))
 (try simp only [Act.put,List.setIfInBounds_toArray,List.set_cons_zero,List.set_cons_succ])
 go_cut [] (fun wc => ∃ (kq : Nat) (x1001_2 : Int) (x127000_2 : ByteArray),Aside0 (pandectplay_Picks_Commit.j0 kq s0_0 x1001_2 x127000_2 = some (r1,r2,r3)) ∧ Aside0 (kq ≤ k) ∧ Aside0 (wc.heap[gb125]? = some (.cells #[.string (⟨#[]⟩ : ByteArray),(.slice none 0 0)] 28 (0,0))) ∧ Aside0 (wc.heap[gb126]? = some (.cells #[.string x127000_2,(.slice none 0 0)] 28 (0,0))) ∧ Aside0 (IsS56 w0 wc g s0_0 x1001_2) ∧ Aside0 (KeepBut w wc g none) ∧ Aside0 (Below w0.heap.size w0 wc))
 case first =>
  have H :=HC3.out
  clear HC3
  by_cases c10 : t127 = 0
  ·rw [if_pos c10] at H
   have c10b0 : (t127 == 0) = true :=beq_iff_eq.mpr c10
   have c10b1 : (t127 != 0) = false :=bne_eq_false_iff_eq.mpr c10
   clear c10
   (first | rw [c10b0] | (simp only [i64_w,i32_w];rw [c10b0]) | skip)
   obtain ⟨y129,hy129⟩ : ∃ y_ : List ByteArray,y_ = (([(⟨#[111,110,101]⟩ : ByteArray),(⟨#[116,119,111]⟩ : ByteArray),(⟨#[116,104,114,101,101]⟩ : ByteArray)] : List ByteArray)) :=⟨_,rfl⟩
   replace H : ((pandectplay_Picks_Num.f s0_0 t128 3).bind fun bt132 => (if 0 ≤ bt132.1 then (if bt132.1 < (y129.length : Int) then (pandectplay_Picks_Commit.j0 k s0_0 bt132.2 (rdOf ByteArray.empty y129 bt132.1)) else (none)) else (none))) = some (r1,r2,r3) :=by first | (rw [hy129];with_reducible exact H) | (have H2_ :=(Option.bind_some _ _).symm.trans H;rw [hy129];with_reducible exact H2_) | (have H2_ :=(Option.bind_some _ _).symm.trans H;with_reducible exact H2_) | with_reducible exact H | (rw [hy129];exact H) | exact H
   have Ny129 :=Aside0.mk hy129
   clear hy129
   replace H :=Option.bind_eq_some_iff.mp H
   obtain ⟨⟨t132,t133⟩,A110,H⟩ :=H
   replace H : (if 0 ≤ t132 then (if t132 < (y129.length : Int) then (pandectplay_Picks_Commit.j0 k s0_0 t133 (rdOf ByteArray.empty y129 t132)) else (none)) else (none)) = some (r1,r2,r3) :=H
   have A11 :=Aside0.mk A110
   clear A110
   by_cases c12 : 0 ≤ t132
   ·rw [if_pos c12] at H
    have c12b0 : decide (0 ≤ t132) = true :=decide_eq_true c12
    clear c12
    by_cases c13 : t132 < (y129.length : Int)
    ·rw [if_pos c13] at H
     have c13b0 : decide (t132 < (y129.length : Int)) = true :=decide_eq_true c13
     clear c13
     have H' :=Aside0.mk H
     clear H
     go_wp2_with (first | ((with_reducible refine gate_dst (N :=14) rfl ?_);refine Kd.R_lit Kd.string _ 9 ?hg (N :=14) ?hd (xs :=([(⟨#[111,110,101]⟩ : ByteArray),(⟨#[116,119,111]⟩ : ByteArray),(⟨#[116,104,114,101,101]⟩ : ByteArray)] : List ByteArray)) (inner :=[.string (⟨#[111,110,101]⟩ : ByteArray),.string (⟨#[116,119,111]⟩ : ByteArray),.string (⟨#[116,104,114,101,101]⟩ : ByteArray)]) (ok :=fun _ => True) (okp :=fun _ => True) ?hr ?hp (fun _ hk => hk) trivial (Below.refl _ _) (Nat.le_refl _) (by simp) ?_;(case hd => rfl);(case hg => rfl);(case hr => first | (go_simp;done) | (go_simp;rfl));(case hp => exact (Reps.one (show Kd.M Kd.string _ _ _ (⟨#[111,110,101]⟩ : ByteArray) [.string (⟨#[111,110,101]⟩ : ByteArray)] from rfl) (Reps.one (show Kd.M Kd.string _ _ _ (⟨#[116,119,111]⟩ : ByteArray) [.string (⟨#[116,119,111]⟩ : ByteArray)] from rfl) (Reps.one (show Kd.M Kd.string _ _ _ (⟨#[116,104,114,101,101]⟩ : ByteArray) [.string (⟨#[116,104,114,101,101]⟩ : ByteArray)] from rfl) (Reps.none _ _)))));intro v130 w14 ho15 hb hg_ hnew_;clear hg_ hnew_;(first | rw [← Ny129.out] at ho15 | (simp only [Int.reduceToNat] at ho15;rw [← Ny129.out] at ho15));have n0_ :=Aside0.mk (Kd.R_lower ho15 (keep_size (w :=w) (g :=g) (row :=none) (by repeat (first | (with_reducible first | exact HK.out | apply KeepBut.set_ | apply keep_drewN | apply keep_drew | apply keep_alloc | refine keep_far ?_ GW125.out _ | refine keep_far ?_ GW126.out _) | exact HK.out))));have n1_ :=Aside0.mk (IsS56.below (by repeat (first | (with_reducible first | exact HI0.out | apply IsS56.alloc | apply IsS56.drewN | apply IsS56.drew | apply IsS56.set_1 | refine IsS56.far ?_ NB0_125.out _ | refine IsS56.far ?_ NB0_126.out _) | exact HI0.out)) hb);have n2_ :=Aside0.mk (blk_below (g :=gb125) (o :=.cells #[.string (⟨#[]⟩ : ByteArray),.slice none 0 0] 28 (0,0)) (by (with_reducible repeat (first | refine blk_drewN ?_ _ | refine blk_drew ?_ | refine blk_alloc ?_ _));exact BK125.out) hb);have n3_ :=Aside0.mk (blk_below (g :=gb126) (o :=.cells #[.string (⟨#[]⟩ : ByteArray),.slice none 0 0] 28 (0,0)) (by (with_reducible repeat (first | refine blk_drewN ?_ _ | refine blk_drew ?_ | refine blk_alloc ?_ _));exact BK126.out) hb);have n4_ :=Aside0.mk (KeepBut.trans (by repeat (first | (with_reducible first | exact HK.out | apply KeepBut.set_ | apply keep_drewN | apply keep_drew | apply keep_alloc | refine keep_far ?_ GW125.out _ | refine keep_far ?_ GW126.out _) | exact HK.out)) (KeepBut.of_below hb g none) (.inl rfl));have n5_ :=Aside0.mk (below_step (by repeat (first | (with_reducible first | exact HB.out | apply below_alloc | apply pw_below_drewN | apply below_drew1 | refine below_set ?_ (IsS56.ge HI0.out) | refine below_set ?_ GE125.out | refine below_set ?_ GE126.out) | exact HB.out)) hb);clear HI0;clear BK125;clear BK126;clear HK;clear HB;have HO131 :=n0_;have HI0 :=n1_;have BK125 :=n2_;have BK126 :=n3_;have HK :=n4_;have HB :=n5_;clear n0_ n1_ n2_ n3_ n4_ n5_;clear hb ho15) | ((with_reducible refine gate_callee (f :=10) rfl ?_);refine goesL_ (some 16) rfl rfl Try.func10 (by kernel_rfl) rfl #[.pointer (some ⟨g,0,none⟩),.int .i64 3] rfl (by (try simp only [List.map_toArray,List.map_cons,List.map_nil]);first | done | rfl | (simp only [List.length_drop,List.length_take];rfl)) ?_;(with_reducible refine (pandectplay_Picks_Num.calls g s0_0 t128 3 t132 t133 w0 _ ?side1 ?side2 A11.out).mono ?_);(case side1 => repeat (first | (with_reducible first | exact HI0.out | apply IsS56.alloc | apply IsS56.drewN | apply IsS56.drew | apply IsS56.set_1 | refine IsS56.far ?_ NB0_125.out _ | refine IsS56.far ?_ NB0_126.out _) | exact HI0.out));(case side2 => repeat (first | (with_reducible first | exact HB.out | apply below_alloc | apply pw_below_drewN | apply below_drew1 | refine below_set ?_ (IsS56.ge HI0.out) | refine below_set ?_ GE125.out | refine below_set ?_ GE126.out) | exact HB.out));rintro e w16 ⟨rfl,hi,hb,hk⟩;refine ⟨_,rfl,?_⟩;have n0_ :=Aside0.mk (KeepBut.blk hk (g' :=gb125) (o :=.cells #[.string (⟨#[]⟩ : ByteArray),.slice none 0 0] 28 (0,0)) (by (with_reducible repeat (first | refine blk_drewN ?_ _ | refine blk_drew ?_ | refine blk_alloc ?_ _));exact BK125.out) NB125_0.out (by simp));have n1_ :=Aside0.mk (KeepBut.blk hk (g' :=gb126) (o :=.cells #[.string (⟨#[]⟩ : ByteArray),.slice none 0 0] 28 (0,0)) (by (with_reducible repeat (first | refine blk_drewN ?_ _ | refine blk_drew ?_ | refine blk_alloc ?_ _));exact BK126.out) NB126_0.out (by simp));have n2_ :=Aside0.mk (Kd.R_mono (Kd.R_keep (IsS56.apart (show IsS56 w0 _ g s0_0 t128 from by repeat (first | (with_reducible first | exact HI0.out | apply IsS56.alloc | apply IsS56.drewN | apply IsS56.drew | apply IsS56.set_1 | refine IsS56.far ?_ NB0_125.out _ | refine IsS56.far ?_ NB0_126.out _) | exact HI0.out)) (by (with_reducible repeat (first | apply Kd.R_alloc | apply Kd.R_drewN | apply Kd.R_drew));exact HO131.out) (by decide)) hk (fun _ h => h.2)) (fun _ h => h.1));have n3_ :=Aside0.mk (KeepBut.trans (by repeat (first | (with_reducible first | exact HK.out | apply KeepBut.set_ | apply keep_drewN | apply keep_drew | apply keep_alloc | refine keep_far ?_ GW125.out _ | refine keep_far ?_ GW126.out _) | exact HK.out)) hk (.inl rfl));have n4_ :=Aside0.mk (hb);have n5_ :=Aside0.mk (hi);clear BK125;clear BK126;clear HO131;clear HK;clear HB;clear HI0;have BK125 :=n0_;have BK126 :=n1_;have HO131 :=n2_;have HK :=n3_;have HB :=n4_;have HI0 :=n5_;clear n0_ n1_ n2_ n3_ n4_ n5_;(try clear hb);(try clear hb2);(try clear hk);(try clear hi);obtain ⟨Ao17,co17,eo17⟩ :=Kd.R_slice HO131.out;subst eo17;have p134 : 0 ≤ (t132 : Int) :=of_decide_eq_true (by first | (with_reducible assumption) | assumption);have q134 : t132 < (y129.length : Int) :=of_decide_eq_true (by first | (with_reducible assumption) | assumption);obtain ⟨ad134,e134,hx134_0⟩ :=Kd.at_string (Kd.R_reads' HO131.out).2.2 t132 p134 q134;cases e134;replace p134 :=eq_true p134;replace q134 :=eq_true q134;have hnb18 :=NB126_125.out;have hnc18 :=NB125_126.out;have hnb19 :=NB126_0.out;have hnc19 :=NB0_126.out;have hcz20_0 : w16.cell? ⟨gb126,0,none⟩ = some (.string (⟨#[]⟩ : ByteArray)) :=(blk_cell BK126.out 0).trans rfl;have hcz20_1 : w16.cell? ⟨gb126,1,none⟩ = some (.slice none 0 0) :=(blk_cell BK126.out 1).trans rfl;have hfz20_0 :=blk_frozen BK126.out 0;have hfz20_1 :=blk_frozen BK126.out 1))
     go_meet
     case rel => exact ⟨_,(t133),(rdOf ByteArray.empty y129 t132),H',⟨by first | omega | exact Nat.le_refl _⟩,⟨by (with_reducible repeat (first | refine blk_drewN ?_ _ | refine blk_drew ?_ | refine blk_alloc ?_ _));refine blk_far ?_ NB125_126.out _;(with_reducible repeat (first | refine blk_drewN ?_ _ | refine blk_drew ?_ | refine blk_alloc ?_ _));exact BK125.out⟩,⟨by (with_reducible repeat (first | refine blk_drewN ?_ _ | refine blk_drew ?_ | refine blk_alloc ?_ _));refine blk_put (cs :=#[.string (⟨#[]⟩ : ByteArray),.slice none 0 0]) ?_ 0 _ rfl;(with_reducible repeat (first | refine blk_drewN ?_ _ | refine blk_drew ?_ | refine blk_alloc ?_ _));exact BK126.out⟩,⟨by repeat (first | (with_reducible first | exact HI0.out | apply IsS56.alloc | apply IsS56.drewN | apply IsS56.drew | apply IsS56.set_1 | refine IsS56.far ?_ NB0_125.out _ | refine IsS56.far ?_ NB0_126.out _) | exact HI0.out)⟩,⟨by repeat (first | (with_reducible first | exact HK.out | apply KeepBut.set_ | apply keep_drewN | apply keep_drew | apply keep_alloc | refine keep_far ?_ GW125.out _ | refine keep_far ?_ GW126.out _) | exact HK.out)⟩,⟨by repeat (first | (with_reducible first | exact HB.out | apply below_alloc | apply pw_below_drewN | apply below_drew1 | refine below_set ?_ (IsS56.ge HI0.out) | refine below_set ?_ GE125.out | refine below_set ?_ GE126.out) | exact HB.out)⟩⟩
    ·rw [if_neg c13] at H
     exact absurd H (by simp)
   ·rw [if_neg c12] at H
    exact absurd H (by simp)
  ·rw [if_neg c10] at H
   have c10b0 : (t127 == 0) = false :=beq_eq_false_iff_ne.mpr c10
   have c10b1 : (t127 != 0) = true :=bne_iff_ne.mpr c10
   (first | rw [c10b0] | (simp only [i64_w,i32_w];rw [c10b0]) | skip)
   have H' :=Aside0.mk H
   clear H
   go_wp2
   go_meet
   case rel => exact ⟨_,(t128),((⟨#[]⟩ : ByteArray)),H',⟨by first | omega | exact Nat.le_refl _⟩,⟨by (with_reducible repeat (first | refine blk_drewN ?_ _ | refine blk_drew ?_ | refine blk_alloc ?_ _));exact BK125.out⟩,⟨by (with_reducible repeat (first | refine blk_drewN ?_ _ | refine blk_drew ?_ | refine blk_alloc ?_ _));exact BK126.out⟩,⟨by repeat (first | (with_reducible first | exact HI0.out | apply IsS56.alloc | apply IsS56.drewN | apply IsS56.drew | apply IsS56.set_1 | refine IsS56.far ?_ NB0_125.out _ | refine IsS56.far ?_ NB0_126.out _) | exact HI0.out)⟩,⟨by repeat (first | (with_reducible first | exact HK.out | apply KeepBut.set_ | apply keep_drewN | apply keep_drew | apply keep_alloc | refine keep_far ?_ GW125.out _ | refine keep_far ?_ GW126.out _) | exact HK.out)⟩,⟨by repeat (first | (with_reducible first | exact HB.out | apply below_alloc | apply pw_below_drewN | apply below_drew1 | refine below_set ?_ (IsS56.ge HI0.out) | refine below_set ?_ GE125.out | refine below_set ?_ GE126.out) | exact HB.out)⟩⟩
 case rest =>
  clear HC3
  try clear c1
  try clear p1
  try clear q1
  try clear hx1
  try clear p2
  try clear c6
  try clear c7
  try clear c10
  try clear c10b0
  try clear c10b1
  try clear c12
  try clear c12b0
  try clear c13
  try clear c13b0
  try clear p13
  try clear q13
  try clear hx13
  try clear c18
  try clear c19
  try clear hcz20_0
  try clear hcz20_1
  try clear hcz8_0
  try clear hcz8_1
  try clear hfz20_0
  try clear hfz20_1
  try clear hfz8_0
  try clear hfz8_1
  try clear hx134_0
  try clear p134
  try clear q134
  obtain ⟨kq,x1001_2,x127000_2,HA,HJ2,BK125,BK126,HI0,HK,HB⟩ :=hcut
  cases kq with
  | zero => exact absurd HA.out (by simp [pandectplay_Picks_Commit.j0])
  | succ kj2 =>
   have H :=HA.out
   clear HA
   simp only [pandectplay_Picks_Commit.j0] at H
   replace H :=Option.bind_eq_some_iff.mp H
   obtain ⟨⟨t135,t136⟩,A210,H⟩ :=H
   replace H : (pandectplay_Picks_Commit.l0 kj2 0 (wrap64 (1 + t135)) s0_0 t136 x127000_2 ([] : List (S36))) = some (r1,r2,r3) :=H
   have A21 :=Aside0.mk A210
   clear A210
   have H' :=Aside0.mk H
   clear H
   go_wp2_with (first | ((with_reducible refine gate_callee (f :=10) rfl ?_);refine goesL_ (some 21) rfl rfl Try.func10 (by kernel_rfl) rfl #[.pointer (some ⟨g,0,none⟩),.int .i64 3] rfl (by (try simp only [List.map_toArray,List.map_cons,List.map_nil]);first | done | rfl | (simp only [List.length_drop,List.length_take];rfl)) ?_;(with_reducible refine (pandectplay_Picks_Num.calls g s0_0 x1001_2 3 t135 t136 w0 _ ?side1 ?side2 A21.out).mono ?_);(case side1 => repeat (first | (with_reducible first | exact HI0.out | apply IsS56.alloc | apply IsS56.drewN | apply IsS56.drew | apply IsS56.set_1 | refine IsS56.far ?_ NB0_125.out _ | refine IsS56.far ?_ NB0_126.out _) | exact HI0.out));(case side2 => repeat (first | (with_reducible first | exact HB.out | apply below_alloc | apply pw_below_drewN | apply below_drew1 | refine below_set ?_ (IsS56.ge HI0.out) | refine below_set ?_ GE125.out | refine below_set ?_ GE126.out) | exact HB.out));rintro e w22 ⟨rfl,hi,hb,hk⟩;refine ⟨_,rfl,?_⟩;have n0_ :=Aside0.mk (KeepBut.blk hk (g' :=gb125) (o :=.cells #[.string (⟨#[]⟩ : ByteArray),.slice none 0 0] 28 (0,0)) (by (with_reducible repeat (first | refine blk_drewN ?_ _ | refine blk_drew ?_ | refine blk_alloc ?_ _));exact BK125.out) NB125_0.out (by simp));have n1_ :=Aside0.mk (KeepBut.blk hk (g' :=gb126) (o :=.cells #[.string x127000_2,.slice none 0 0] 28 (0,0)) (by (with_reducible repeat (first | refine blk_drewN ?_ _ | refine blk_drew ?_ | refine blk_alloc ?_ _));exact BK126.out) NB126_0.out (by simp));have n2_ :=Aside0.mk (KeepBut.trans (by repeat (first | (with_reducible first | exact HK.out | apply KeepBut.set_ | apply keep_drewN | apply keep_drew | apply keep_alloc | refine keep_far ?_ GW125.out _ | refine keep_far ?_ GW126.out _) | exact HK.out)) hk (.inl rfl));have n3_ :=Aside0.mk (hb);have n4_ :=Aside0.mk (hi);clear BK125;clear BK126;clear HK;clear HB;clear HI0;have BK125 :=n0_;have BK126 :=n1_;have HK :=n2_;have HB :=n3_;have HI0 :=n4_;clear n0_ n1_ n2_ n3_ n4_;(try clear hb);(try clear hb2);(try clear hk);(try clear hi)))
   go_loopg [4] kj2 (fun kq v4 w' => ∃ (x4_2 : Int) (x1001_2 : Int) (x127001_2 : List (S36)) (u127001 : Value),v4 = .int .i64 x4_2 ∧ Aside0 (pandectplay_Picks_Commit.l0 kq x4_2 (wrap64 (1 + t135)) s0_0 x1001_2 x127000_2 x127001_2 = some (r1,r2,r3)) ∧ Aside0 (kq ≤ kj2) ∧ Aside0 (Kd.R k36 36 w' w.heap.size (fun _ => True) u127001 x127001_2) ∧ Aside0 (w'.heap[gb125]? = some (.cells #[.string (⟨#[]⟩ : ByteArray),(.slice none 0 0)] 28 (0,0))) ∧ Aside0 (w'.heap[gb126]? = some (.cells #[.string x127000_2,u127001] 28 (0,0))) ∧ Aside0 (IsS56 w0 w' g s0_0 x1001_2) ∧ Aside0 (KeepBut w w' g none) ∧ Aside0 (Below w0.heap.size w0 w'))
   case atStart => exact ⟨(0),(t136),(([] : List (S36))),(.slice none 0 0),(by first | rfl | (simp;done) | (simp [*];done)),H',⟨Nat.le_refl _⟩,⟨by first | exact Kd.R_nil _ _ _ _ _ | exact Kd.N_nil _ _ _ _ _ | exact Kd.V_nil _ _ _ _ _ | exact Kd.Q_nil _ _ _ _ _ | exact Kd.S_nil _ _ _ _ _⟩,⟨by (with_reducible repeat (first | refine blk_drewN ?_ _ | refine blk_drew ?_ | refine blk_alloc ?_ _));exact BK125.out⟩,⟨by (with_reducible repeat (first | refine blk_drewN ?_ _ | refine blk_drew ?_ | refine blk_alloc ?_ _));exact BK126.out⟩,⟨by repeat (first | (with_reducible first | exact HI0.out | apply IsS56.alloc | apply IsS56.drewN | apply IsS56.drew | apply IsS56.set_1 | refine IsS56.far ?_ NB0_125.out _ | refine IsS56.far ?_ NB0_126.out _) | exact HI0.out)⟩,⟨by repeat (first | (with_reducible first | exact HK.out | apply KeepBut.set_ | apply keep_drewN | apply keep_drew | apply keep_alloc | refine keep_far ?_ GW125.out _ | refine keep_far ?_ GW126.out _) | exact HK.out)⟩,⟨by repeat (first | (with_reducible first | exact HB.out | apply below_alloc | apply pw_below_drewN | apply below_drew1 | refine below_set ?_ (IsS56.ge HI0.out) | refine below_set ?_ GE125.out | refine below_set ?_ GE126.out) | exact HB.out)⟩⟩
   case round =>
    clear H'
    try clear c1
    try clear p1
    try clear q1
    try clear hx1
    try clear p2
    try clear c6
    try clear p6
    try clear c7
    try clear c10
    try clear c10b0
    try clear c10b1
    try clear c12
    try clear c12b0
    try clear c13
    try clear c13b0
    try clear p13
    try clear q13
    try clear hx13
    try clear c18
    try clear c19
    try clear hcz20_0
    try clear hcz20_1
    try clear hcz8_0
    try clear hcz8_1
    try clear hfz20_0
    try clear hfz20_1
    try clear hfz8_0
    try clear hfz8_1
    try clear hx134_0
    try clear p1
    try clear p13
    try clear p134
    try clear p2
    try clear q1
    try clear q13
    try clear q134
    obtain ⟨x4_2,x1001_2,x127001_2,u127001,rfl,HA,HK2,HO_127001,BK125,BK126,HI0,HK,HB⟩ :=hrel
    cases gk with
    | zero => exact absurd HA.out (by simp [pandectplay_Picks_Commit.l0])
    | succ k2 =>
     have H :=HA.out
     clear HA
     simp only [pandectplay_Picks_Commit.l0] at H
     by_cases c23 : x4_2 < (wrap64 (1 + t135))
     ·rw [if_pos c23] at H
      have c23b0 : decide (x4_2 < (wrap64 (1 + t135))) = true :=decide_eq_true c23
      clear c23
      replace H :=Option.bind_eq_some_iff.mp H
      obtain ⟨⟨t137,t138⟩,A240,H⟩ :=H
      replace H : ((some (([(-1),(-1),(-1),(-2),0,1,3] : List Int) : List Int)).bind fun y139 => ((pandectplay_Picks_Num.f s0_0 t138 7).bind fun bt142 => (if 0 ≤ bt142.1 then (if bt142.1 < (y139.length : Int) then (pandectplay_Picks_Commit.l1 k2 x4_2 (wrap64 (1 + t135)) false 0 s0_0 bt142.2 x127000_2 x127001_2 t137 (rd y139 bt142.1)) else (none)) else (none)))) = some (r1,r2,r3) :=H
      have A24 :=Aside0.mk A240
      clear A240
      obtain ⟨y139,hy139⟩ : ∃ y_ : List Int,y_ = (([(-1),(-1),(-1),(-2),0,1,3] : List Int)) :=⟨_,rfl⟩
      replace H : ((pandectplay_Picks_Num.f s0_0 t138 7).bind fun bt142 => (if 0 ≤ bt142.1 then (if bt142.1 < (y139.length : Int) then (pandectplay_Picks_Commit.l1 k2 x4_2 (wrap64 (1 + t135)) false 0 s0_0 bt142.2 x127000_2 x127001_2 t137 (rd y139 bt142.1)) else (none)) else (none))) = some (r1,r2,r3) :=by first | (rw [hy139];with_reducible exact H) | (have H2_ :=(Option.bind_some _ _).symm.trans H;rw [hy139];with_reducible exact H2_) | (have H2_ :=(Option.bind_some _ _).symm.trans H;with_reducible exact H2_) | with_reducible exact H | (rw [hy139];exact H) | exact H
      have Ny139 :=Aside0.mk hy139
      clear hy139
      replace H :=Option.bind_eq_some_iff.mp H
      obtain ⟨⟨t142,t143⟩,A250,H⟩ :=H
      replace H : (if 0 ≤ t142 then (if t142 < (y139.length : Int) then (pandectplay_Picks_Commit.l1 k2 x4_2 (wrap64 (1 + t135)) false 0 s0_0 t143 x127000_2 x127001_2 t137 (rd y139 t142)) else (none)) else (none)) = some (r1,r2,r3) :=H
      have A25 :=Aside0.mk A250
      clear A250
      by_cases c26 : 0 ≤ t142
      ·rw [if_pos c26] at H
       have c26b0 : decide (0 ≤ t142) = true :=decide_eq_true c26
       clear c26
       by_cases c27 : t142 < (y139.length : Int)
       ·rw [if_pos c27] at H
        have c27b0 : decide (t142 < (y139.length : Int)) = true :=decide_eq_true c27
        clear c27
        have H' :=Aside0.mk H
        clear H
        go_wp2_with (first | ((with_reducible refine gate_callee (f :=11) rfl ?_);refine goesL_ (some 29) rfl rfl Try.func11 (by kernel_rfl) rfl #[.pointer (some ⟨g,0,none⟩)] rfl (by (try simp only [List.map_toArray,List.map_cons,List.map_nil]);first | done | rfl | (simp only [List.length_drop,List.length_take];rfl)) ?_;(with_reducible refine (pandectplay_Picks_Name.calls g s0_0 x1001_2 t137 t138 w0 _ ?side1 ?side2 A24.out).mono ?_);(case side1 => repeat (first | (with_reducible first | exact HI0.out | apply IsS56.alloc | apply IsS56.drewN | apply IsS56.drew | apply IsS56.set_1 | refine IsS56.far ?_ NB0_125.out _ | refine IsS56.far ?_ NB0_126.out _) | exact HI0.out));(case side2 => repeat (first | (with_reducible first | exact HB.out | apply below_alloc | apply pw_below_drewN | apply below_drew1 | refine below_set ?_ (IsS56.ge HI0.out) | refine below_set ?_ GE125.out | refine below_set ?_ GE126.out) | exact HB.out));rintro e w28 ⟨rfl,hi,hb,hk⟩;refine ⟨_,rfl,?_⟩;have n0_ :=Aside0.mk (Kd.R_mono (Kd.R_keep (IsS56.apart (show IsS56 w0 _ g s0_0 x1001_2 from by repeat (first | (with_reducible first | exact HI0.out | apply IsS56.alloc | apply IsS56.drewN | apply IsS56.drew | apply IsS56.set_1 | refine IsS56.far ?_ NB0_125.out _ | refine IsS56.far ?_ NB0_126.out _) | exact HI0.out)) (by (with_reducible repeat (first | apply Kd.R_alloc | apply Kd.R_drewN | apply Kd.R_drew));exact HO_127001.out) (by decide)) hk (fun _ h => h.2)) (fun _ h => h.1));have n1_ :=Aside0.mk (KeepBut.blk hk (g' :=gb125) (o :=.cells #[.string (⟨#[]⟩ : ByteArray),.slice none 0 0] 28 (0,0)) (by (with_reducible repeat (first | refine blk_drewN ?_ _ | refine blk_drew ?_ | refine blk_alloc ?_ _));exact BK125.out) NB125_0.out (by simp));have n2_ :=Aside0.mk (KeepBut.blk hk (g' :=gb126) (o :=.cells #[.string x127000_2,u127001] 28 (0,0)) (by (with_reducible repeat (first | refine blk_drewN ?_ _ | refine blk_drew ?_ | refine blk_alloc ?_ _));exact BK126.out) NB126_0.out (by simp));have n3_ :=Aside0.mk (KeepBut.trans (by repeat (first | (with_reducible first | exact HK.out | apply KeepBut.set_ | apply keep_drewN | apply keep_drew | apply keep_alloc | refine keep_far ?_ GW125.out _ | refine keep_far ?_ GW126.out _) | exact HK.out)) hk (.inl rfl));have n4_ :=Aside0.mk (hb);have n5_ :=Aside0.mk (hi);clear HO_127001;clear BK125;clear BK126;clear HK;clear HB;clear HI0;have HO_127001 :=n0_;have BK125 :=n1_;have BK126 :=n2_;have HK :=n3_;have HB :=n4_;have HI0 :=n5_;clear n0_ n1_ n2_ n3_ n4_ n5_;(try clear hb);(try clear hb2);(try clear hk);(try clear hi)) | ((with_reducible refine gate_dst (N :=30) rfl ?_);refine Kd.R_lit (Kd.int .i64) _ 2 ?hg (N :=30) ?hd (xs :=([(-1),(-1),(-1),(-2),0,1,3] : List Int)) (inner :=[.int .i64 (-1),.int .i64 (-1),.int .i64 (-1),.int .i64 (-2),.int .i64 0,.int .i64 1,.int .i64 3]) (ok :=fun _ => True) (okp :=fun _ => True) ?hr ?hp (fun _ hk => hk) trivial (Below.refl _ _) (Nat.le_refl _) (by simp) ?_;(case hd => rfl);(case hg => rfl);(case hr => first | (go_simp;done) | (go_simp;rfl));(case hp => exact (Reps.one (show Kd.M (Kd.int .i64) _ _ _ (-1) [.int .i64 (-1)] from rfl) (Reps.one (show Kd.M (Kd.int .i64) _ _ _ (-1) [.int .i64 (-1)] from rfl) (Reps.one (show Kd.M (Kd.int .i64) _ _ _ (-1) [.int .i64 (-1)] from rfl) (Reps.one (show Kd.M (Kd.int .i64) _ _ _ (-2) [.int .i64 (-2)] from rfl) (Reps.one (show Kd.M (Kd.int .i64) _ _ _ 0 [.int .i64 0] from rfl) (Reps.one (show Kd.M (Kd.int .i64) _ _ _ 1 [.int .i64 1] from rfl) (Reps.one (show Kd.M (Kd.int .i64) _ _ _ 3 [.int .i64 3] from rfl) (Reps.none _ _)))))))));intro v140 w29 ho30 hb hg_ hnew_;clear hg_ hnew_;(first | rw [← Ny139.out] at ho30 | (simp only [Int.reduceToNat] at ho30;rw [← Ny139.out] at ho30));have n0_ :=Aside0.mk (Kd.R_below (by (with_reducible repeat (first | apply Kd.R_alloc | apply Kd.R_drewN | apply Kd.R_drew));exact HO_127001.out) hb);have n1_ :=Aside0.mk (Kd.R_lower ho30 (keep_size (w :=w) (g :=g) (row :=none) (by repeat (first | (with_reducible first | exact HK.out | apply KeepBut.set_ | apply keep_drewN | apply keep_drew | apply keep_alloc | refine keep_far ?_ GW125.out _ | refine keep_far ?_ GW126.out _) | exact HK.out))));have n2_ :=Aside0.mk (blk_below (g :=gb125) (o :=.cells #[.string (⟨#[]⟩ : ByteArray),.slice none 0 0] 28 (0,0)) (by (with_reducible repeat (first | refine blk_drewN ?_ _ | refine blk_drew ?_ | refine blk_alloc ?_ _));exact BK125.out) hb);have n3_ :=Aside0.mk (blk_below (g :=gb126) (o :=.cells #[.string x127000_2,u127001] 28 (0,0)) (by (with_reducible repeat (first | refine blk_drewN ?_ _ | refine blk_drew ?_ | refine blk_alloc ?_ _));exact BK126.out) hb);have n4_ :=Aside0.mk (IsS56.below (by repeat (first | (with_reducible first | exact HI0.out | apply IsS56.alloc | apply IsS56.drewN | apply IsS56.drew | apply IsS56.set_1 | refine IsS56.far ?_ NB0_125.out _ | refine IsS56.far ?_ NB0_126.out _) | exact HI0.out)) hb);have n5_ :=Aside0.mk (KeepBut.trans (by repeat (first | (with_reducible first | exact HK.out | apply KeepBut.set_ | apply keep_drewN | apply keep_drew | apply keep_alloc | refine keep_far ?_ GW125.out _ | refine keep_far ?_ GW126.out _) | exact HK.out)) (KeepBut.of_below hb g none) (.inl rfl));have n6_ :=Aside0.mk (below_step (by repeat (first | (with_reducible first | exact HB.out | apply below_alloc | apply pw_below_drewN | apply below_drew1 | refine below_set ?_ (IsS56.ge HI0.out) | refine below_set ?_ GE125.out | refine below_set ?_ GE126.out) | exact HB.out)) hb);clear HO_127001;clear BK125;clear BK126;clear HI0;clear HK;clear HB;have HO_127001 :=n0_;have HO141 :=n1_;have BK125 :=n2_;have BK126 :=n3_;have HI0 :=n4_;have HK :=n5_;have HB :=n6_;clear n0_ n1_ n2_ n3_ n4_ n5_ n6_;clear hb ho30) | ((with_reducible refine gate_callee (f :=10) rfl ?_);refine goesL_ (some 32) rfl rfl Try.func10 (by kernel_rfl) rfl #[.pointer (some ⟨g,0,none⟩),.int .i64 7] rfl (by (try simp only [List.map_toArray,List.map_cons,List.map_nil]);first | done | rfl | (simp only [List.length_drop,List.length_take];rfl)) ?_;(with_reducible refine (pandectplay_Picks_Num.calls g s0_0 t138 7 t142 t143 w0 _ ?side1 ?side2 A25.out).mono ?_);(case side1 => repeat (first | (with_reducible first | exact HI0.out | apply IsS56.alloc | apply IsS56.drewN | apply IsS56.drew | apply IsS56.set_1 | refine IsS56.far ?_ NB0_125.out _ | refine IsS56.far ?_ NB0_126.out _) | exact HI0.out));(case side2 => repeat (first | (with_reducible first | exact HB.out | apply below_alloc | apply pw_below_drewN | apply below_drew1 | refine below_set ?_ (IsS56.ge HI0.out) | refine below_set ?_ GE125.out | refine below_set ?_ GE126.out) | exact HB.out));rintro e w31 ⟨rfl,hi,hb,hk⟩;refine ⟨_,rfl,?_⟩;have n0_ :=Aside0.mk (Kd.R_mono (Kd.R_keep (IsS56.apart (show IsS56 w0 _ g s0_0 t138 from by repeat (first | (with_reducible first | exact HI0.out | apply IsS56.alloc | apply IsS56.drewN | apply IsS56.drew | apply IsS56.set_1 | refine IsS56.far ?_ NB0_125.out _ | refine IsS56.far ?_ NB0_126.out _) | exact HI0.out)) (by (with_reducible repeat (first | apply Kd.R_alloc | apply Kd.R_drewN | apply Kd.R_drew));exact HO_127001.out) (by decide)) hk (fun _ h => h.2)) (fun _ h => h.1));have n1_ :=Aside0.mk (KeepBut.blk hk (g' :=gb125) (o :=.cells #[.string (⟨#[]⟩ : ByteArray),.slice none 0 0] 28 (0,0)) (by (with_reducible repeat (first | refine blk_drewN ?_ _ | refine blk_drew ?_ | refine blk_alloc ?_ _));exact BK125.out) NB125_0.out (by simp));have n2_ :=Aside0.mk (KeepBut.blk hk (g' :=gb126) (o :=.cells #[.string x127000_2,u127001] 28 (0,0)) (by (with_reducible repeat (first | refine blk_drewN ?_ _ | refine blk_drew ?_ | refine blk_alloc ?_ _));exact BK126.out) NB126_0.out (by simp));have n3_ :=Aside0.mk (Kd.R_mono (Kd.R_keep (IsS56.apart (show IsS56 w0 _ g s0_0 t138 from by repeat (first | (with_reducible first | exact HI0.out | apply IsS56.alloc | apply IsS56.drewN | apply IsS56.drew | apply IsS56.set_1 | refine IsS56.far ?_ NB0_125.out _ | refine IsS56.far ?_ NB0_126.out _) | exact HI0.out)) (by (with_reducible repeat (first | apply Kd.R_alloc | apply Kd.R_drewN | apply Kd.R_drew));exact HO141.out) (by decide)) hk (fun _ h => h.2)) (fun _ h => h.1));have n4_ :=Aside0.mk (KeepBut.trans (by repeat (first | (with_reducible first | exact HK.out | apply KeepBut.set_ | apply keep_drewN | apply keep_drew | apply keep_alloc | refine keep_far ?_ GW125.out _ | refine keep_far ?_ GW126.out _) | exact HK.out)) hk (.inl rfl));have n5_ :=Aside0.mk (hb);have n6_ :=Aside0.mk (hi);clear HO_127001;clear BK125;clear BK126;clear HO141;clear HK;clear HB;clear HI0;have HO_127001 :=n0_;have BK125 :=n1_;have BK126 :=n2_;have HO141 :=n3_;have HK :=n4_;have HB :=n5_;have HI0 :=n6_;clear n0_ n1_ n2_ n3_ n4_ n5_ n6_;(try clear hb);(try clear hb2);(try clear hk);(try clear hi);obtain ⟨Ao32,co32,eo32⟩ :=Kd.R_slice HO141.out;subst eo32;have p144 : 0 ≤ (t142 : Int) :=of_decide_eq_true (by first | (with_reducible assumption) | assumption);have q144 : t142 < (y139.length : Int) :=of_decide_eq_true (by first | (with_reducible assumption) | assumption);obtain ⟨ad144,e144,hx144_0⟩ :=Kd.at_int (Kd.R_reads' HO141.out).2.2 t142 p144 q144;cases e144;replace p144 :=eq_true p144;replace q144 :=eq_true q144) | ((with_reducible refine gate_dst (N :=6) rfl ?_);refine box_event ?hg (N :=6) ?hd (cs :=#[.string (⟨#[]⟩ : ByteArray),.int .i64 0,.slice none 0 0]) (t :=36) ?hr ?_;(case hd => rfl);(case hg => rfl);(case hr => first | (go_simp;done) | (go_simp;rfl));intro gb145 hg w33 hbox hb;have n0_ :=Aside0.mk (Kd.R_below (Kd.R_elderB (by (with_reducible repeat (first | apply Kd.R_alloc | apply Kd.R_drewN | apply Kd.R_drew));exact HO_127001.out) gb145 (Nat.le_of_eq hg.symm)) hb);have n1_ :=Aside0.mk (Kd.R_below (by (with_reducible repeat (first | apply Kd.R_alloc | apply Kd.R_drewN | apply Kd.R_drew));exact HO141.out) hb);have n2_ :=Aside0.mk (blk_below (g :=gb125) (o :=.cells #[.string (⟨#[]⟩ : ByteArray),.slice none 0 0] 28 (0,0)) (by (with_reducible repeat (first | refine blk_drewN ?_ _ | refine blk_drew ?_ | refine blk_alloc ?_ _));exact BK125.out) hb);have n3_ :=Aside0.mk (blk_below (g :=gb126) (o :=.cells #[.string x127000_2,u127001] 28 (0,0)) (by (with_reducible repeat (first | refine blk_drewN ?_ _ | refine blk_drew ?_ | refine blk_alloc ?_ _));exact BK126.out) hb);have n4_ :=Aside0.mk (IsS56.below (by repeat (first | (with_reducible first | exact HI0.out | apply IsS56.alloc | apply IsS56.drewN | apply IsS56.drew | apply IsS56.set_1 | refine IsS56.far ?_ NB0_125.out _ | refine IsS56.far ?_ NB0_126.out _) | exact HI0.out)) hb);have n5_ :=Aside0.mk (KeepBut.trans (by repeat (first | (with_reducible first | exact HK.out | apply KeepBut.set_ | apply keep_drewN | apply keep_drew | apply keep_alloc | refine keep_far ?_ GW125.out _ | refine keep_far ?_ GW126.out _) | exact HK.out)) (KeepBut.of_below hb g none) (.inl rfl));have n6_ :=Aside0.mk (below_step (by repeat (first | (with_reducible first | exact HB.out | apply below_alloc | apply pw_below_drewN | apply below_drew1 | refine below_set ?_ (IsS56.ge HI0.out) | refine below_set ?_ GE125.out | refine below_set ?_ GE126.out) | exact HB.out)) hb);have n7_ :=Aside0.mk (hbox);have n8_ :=Aside0.mk ((by rw [hg];exact (keep_size (w :=w) (g :=g) (row :=none) (by repeat (first | (with_reducible first | exact HK.out | apply KeepBut.set_ | apply keep_drewN | apply keep_drew | apply keep_alloc | refine keep_far ?_ GW125.out _ | refine keep_far ?_ GW126.out _) | exact HK.out))) : w.heap.size ≤ gb145));have n9_ :=Aside0.mk ((Nat.le_trans HW0.out (by rw [hg];exact (keep_size (w :=w) (g :=g) (row :=none) (by repeat (first | (with_reducible first | exact HK.out | apply KeepBut.set_ | apply keep_drewN | apply keep_drew | apply keep_alloc | refine keep_far ?_ GW125.out _ | refine keep_far ?_ GW126.out _) | exact HK.out))) : w.heap.size ≤ gb145) : w0.heap.size ≤ gb145));have n10_ :=Aside0.mk ((by rw [hg];exact Nat.ne_of_lt (blk_lt (g :=gb125) (o :=.cells #[.string (⟨#[]⟩ : ByteArray),.slice none 0 0] 28 (0,0)) (by (with_reducible repeat (first | refine blk_drewN ?_ _ | refine blk_drew ?_ | refine blk_alloc ?_ _));exact BK125.out)) : gb125 ≠ gb145));have n11_ :=Aside0.mk ((by rw [hg];exact Nat.ne_of_gt (blk_lt (g :=gb125) (o :=.cells #[.string (⟨#[]⟩ : ByteArray),.slice none 0 0] 28 (0,0)) (by (with_reducible repeat (first | refine blk_drewN ?_ _ | refine blk_drew ?_ | refine blk_alloc ?_ _));exact BK125.out)) : gb145 ≠ gb125));have n12_ :=Aside0.mk ((by rw [hg];exact Nat.ne_of_lt (blk_lt (g :=gb126) (o :=.cells #[.string x127000_2,u127001] 28 (0,0)) (by (with_reducible repeat (first | refine blk_drewN ?_ _ | refine blk_drew ?_ | refine blk_alloc ?_ _));exact BK126.out)) : gb126 ≠ gb145));have n13_ :=Aside0.mk ((by rw [hg];exact Nat.ne_of_gt (blk_lt (g :=gb126) (o :=.cells #[.string x127000_2,u127001] 28 (0,0)) (by (with_reducible repeat (first | refine blk_drewN ?_ _ | refine blk_drew ?_ | refine blk_alloc ?_ _));exact BK126.out)) : gb145 ≠ gb126));have n14_ :=Aside0.mk ((by rw [hg];exact Nat.ne_of_lt (IsS56.lt (show IsS56 w0 _ g s0_0 t143 from by repeat (first | (with_reducible first | exact HI0.out | apply IsS56.alloc | apply IsS56.drewN | apply IsS56.drew | apply IsS56.set_1 | refine IsS56.far ?_ NB0_125.out _ | refine IsS56.far ?_ NB0_126.out _) | exact HI0.out))) : g ≠ gb145));have n15_ :=Aside0.mk ((by rw [hg];exact Nat.ne_of_gt (IsS56.lt (show IsS56 w0 _ g s0_0 t143 from by repeat (first | (with_reducible first | exact HI0.out | apply IsS56.alloc | apply IsS56.drewN | apply IsS56.drew | apply IsS56.set_1 | refine IsS56.far ?_ NB0_125.out _ | refine IsS56.far ?_ NB0_126.out _) | exact HI0.out))) : gb145 ≠ g));clear HO_127001;clear HO141;clear BK125;clear BK126;clear HI0;clear HK;clear HB;have HO_127001 :=n0_;have HO141 :=n1_;have BK125 :=n2_;have BK126 :=n3_;have HI0 :=n4_;have HK :=n5_;have HB :=n6_;have BK145 :=n7_;have GW145 :=n8_;have GE145 :=n9_;have NB125_145 :=n10_;have NB145_125 :=n11_;have NB126_145 :=n12_;have NB145_126 :=n13_;have NB0_145 :=n14_;have NB145_0 :=n15_;clear n0_ n1_ n2_ n3_ n4_ n5_ n6_ n7_ n8_ n9_ n10_ n11_ n12_ n13_ n14_ n15_;clear hb hbox hg;have hnb34 :=NB145_125.out;have hnc34 :=NB125_145.out;have hnb35 :=NB145_126.out;have hnc35 :=NB126_145.out;have hnb36 :=NB145_0.out;have hnc36 :=NB0_145.out;have hcz37_0 : w33.cell? ⟨gb145,0,none⟩ = some (.string (⟨#[]⟩ : ByteArray)) :=(blk_cell BK145.out 0).trans rfl;have hcz37_1 : w33.cell? ⟨gb145,1,none⟩ = some (.int .i64 0) :=(blk_cell BK145.out 1).trans rfl;have hcz37_2 : w33.cell? ⟨gb145,2,none⟩ = some (.slice none 0 0) :=(blk_cell BK145.out 2).trans rfl;have hfz37_0 :=blk_frozen BK145.out 0;have hfz37_1 :=blk_frozen BK145.out 1;have hfz37_2 :=blk_frozen BK145.out 2))
        go_loopg [7,8] k2 (fun kq v7 v8 w' => ∃ (x7_3 : Bool) (x8_3 : Int),v7 = .bool x7_3 ∧ v8 = .int .i64 x8_3 ∧ Aside0 (pandectplay_Picks_Commit.l1 kq x4_2 (wrap64 (1 + t135)) x7_3 x8_3 s0_0 t143 x127000_2 x127001_2 t137 (rd y139 t142) = some (r1,r2,r3)) ∧ Aside0 (kq ≤ k2) ∧ Aside0 (Kd.R k36 36 w' w.heap.size (fun k_ => k_ ≠ gb145) u127001 x127001_2) ∧ Aside0 (w'.heap[gb125]? = some (.cells #[.string (⟨#[]⟩ : ByteArray),(.slice none 0 0)] 28 (0,0))) ∧ Aside0 (w'.heap[gb126]? = some (.cells #[.string x127000_2,u127001] 28 (0,0))) ∧ Aside0 (w'.heap[gb145]? = some (.cells #[.string t137,.int .i64 (rd y139 t142),(.slice none 0 0)] 36 (0,0))) ∧ Aside0 (IsS56 w0 w' g s0_0 t143) ∧ Aside0 (KeepBut w w' g none) ∧ Aside0 (Below w0.heap.size w0 w'))
        case atStart => exact ⟨(false),(0),(by first | rfl | (simp;done) | (simp [*];done)),(by first | rfl | (simp;done) | (simp [*];done)),H',⟨Nat.le_refl _⟩,⟨by (with_reducible repeat (first | apply Kd.R_alloc | apply Kd.R_drewN | apply Kd.R_drew));exact Kd.R_mono (Kd.R_far (p :=⟨gb145,2,none⟩) (Kd.R_far (p :=⟨gb145,1,none⟩) (Kd.R_far (p :=⟨gb145,0,none⟩) (Kd.R_mono HO_127001.out (fun k_ hk => (⟨hk,hk.2⟩ : _ ∧ k_ ≠ gb145))) (fun _ hk => hk.2) (.string t137)) (fun _ hk => hk.2) (.int .i64 (rd y139 t142))) (fun _ hk => hk.2) (.slice none 0 0)) (fun _ hk => hk.1.2)⟩,⟨by (with_reducible repeat (first | refine blk_drewN ?_ _ | refine blk_drew ?_ | refine blk_alloc ?_ _));refine blk_far ?_ NB125_145.out _;(with_reducible repeat (first | refine blk_drewN ?_ _ | refine blk_drew ?_ | refine blk_alloc ?_ _));refine blk_far ?_ NB125_145.out _;(with_reducible repeat (first | refine blk_drewN ?_ _ | refine blk_drew ?_ | refine blk_alloc ?_ _));refine blk_far ?_ NB125_145.out _;(with_reducible repeat (first | refine blk_drewN ?_ _ | refine blk_drew ?_ | refine blk_alloc ?_ _));exact BK125.out⟩,⟨by (with_reducible repeat (first | refine blk_drewN ?_ _ | refine blk_drew ?_ | refine blk_alloc ?_ _));refine blk_far ?_ NB126_145.out _;(with_reducible repeat (first | refine blk_drewN ?_ _ | refine blk_drew ?_ | refine blk_alloc ?_ _));refine blk_far ?_ NB126_145.out _;(with_reducible repeat (first | refine blk_drewN ?_ _ | refine blk_drew ?_ | refine blk_alloc ?_ _));refine blk_far ?_ NB126_145.out _;(with_reducible repeat (first | refine blk_drewN ?_ _ | refine blk_drew ?_ | refine blk_alloc ?_ _));exact BK126.out⟩,⟨by (with_reducible repeat (first | refine blk_drewN ?_ _ | refine blk_drew ?_ | refine blk_alloc ?_ _));refine blk_put (cs :=#[.string t137,.int .i64 (rd y139 t142),.slice none 0 0]) ?_ 2 _ rfl;(with_reducible repeat (first | refine blk_drewN ?_ _ | refine blk_drew ?_ | refine blk_alloc ?_ _));refine blk_put (cs :=#[.string t137,.int .i64 0,.slice none 0 0]) ?_ 1 _ rfl;(with_reducible repeat (first | refine blk_drewN ?_ _ | refine blk_drew ?_ | refine blk_alloc ?_ _));refine blk_put (cs :=#[.string (⟨#[]⟩ : ByteArray),.int .i64 0,.slice none 0 0]) ?_ 0 _ rfl;(with_reducible repeat (first | refine blk_drewN ?_ _ | refine blk_drew ?_ | refine blk_alloc ?_ _));exact BK145.out⟩,⟨by repeat (first | (with_reducible first | exact HI0.out | apply IsS56.alloc | apply IsS56.drewN | apply IsS56.drew | apply IsS56.set_1 | refine IsS56.far ?_ NB0_125.out _ | refine IsS56.far ?_ NB0_126.out _ | refine IsS56.far ?_ NB0_145.out _) | exact HI0.out)⟩,⟨by repeat (first | (with_reducible first | exact HK.out | apply KeepBut.set_ | apply keep_drewN | apply keep_drew | apply keep_alloc | refine keep_far ?_ GW125.out _ | refine keep_far ?_ GW126.out _ | refine keep_far ?_ GW145.out _) | exact HK.out)⟩,⟨by repeat (first | (with_reducible first | exact HB.out | apply below_alloc | apply pw_below_drewN | apply below_drew1 | refine below_set ?_ (IsS56.ge HI0.out) | refine below_set ?_ GE125.out | refine below_set ?_ GE126.out | refine below_set ?_ GE145.out) | exact HB.out)⟩⟩
        case round =>
         clear H'
         try clear c1
         try clear p1
         try clear q1
         try clear hx1
         try clear c2
         try clear p2
         try clear c3
         try clear c6
         try clear p6
         try clear c7
         try clear c10
         try clear c10b0
         try clear c10b1
         try clear c11
         try clear c12
         try clear c12b0
         try clear c13
         try clear c13b0
         try clear p13
         try clear q13
         try clear hx13
         try clear p14
         try clear q14
         try clear hx14
         try clear c18
         try clear c19
         try clear c23
         try clear c23b0
         try clear c26
         try clear c26b0
         try clear c27
         try clear c27b0
         try clear c34
         try clear c35
         try clear c36
         try clear hcz20_0
         try clear hcz20_1
         try clear hcz37_0
         try clear hcz37_1
         try clear hcz37_2
         try clear hcz8_0
         try clear hcz8_1
         try clear hfz20_0
         try clear hfz20_1
         try clear hfz37_0
         try clear hfz37_1
         try clear hfz37_2
         try clear hfz8_0
         try clear hfz8_1
         try clear hx134_0
         try clear hx144_0
         try clear p1
         try clear p13
         try clear p134
         try clear p144
         try clear p2
         try clear p6
         try clear q1
         try clear q13
         try clear q134
         try clear q144
         obtain ⟨x7_3,x8_3,rfl,rfl,HA,HK3,HO_127001,BK125,BK126,BK145,HI0,HK,HB⟩ :=hrel
         cases gk with
         | zero => exact absurd HA.out (by simp [pandectplay_Picks_Commit.l1])
         | succ k3 =>
          have H :=HA.out
          clear HA
          simp only [pandectplay_Picks_Commit.l1] at H
          by_cases c38 : x8_3 < (x127001_2.length : Int)
          ·rw [if_pos c38] at H
           have c38b0 : decide (x8_3 < (x127001_2.length : Int)) = true :=decide_eq_true c38
           clear c38
           by_cases c39 : x7_3 = true
           ·subst c39
            have H1 : (pandectplay_Picks_Commit.l1 k3 x4_2 (wrap64 (1 + t135)) true (wrap64 (x8_3 + 1)) s0_0 t143 x127000_2 x127001_2 t137 (rd y139 t142)) = some (r1,r2,r3) :=by rw [if_pos rfl] at H;exact H
            clear H
            have H :=H1
            clear H1
            have H' :=Aside0.mk H
            clear H
            have hnb40 :=NB126_125.out
            have hnc40 :=NB125_126.out
            have hnb41 :=NB126_145.out
            have hnc41 :=NB145_126.out
            have hnb42 :=NB126_0.out
            have hnc42 :=NB0_126.out
            have hcz43_0 : wr.cell? ⟨gb126,0,none⟩ = some (.string x127000_2) :=(blk_cell BK126.out 0).trans rfl
            have hcz43_1 : wr.cell? ⟨gb126,1,none⟩ = some (u127001) :=(blk_cell BK126.out 1).trans rfl
            have hfz43_0 :=blk_frozen BK126.out 0
            have hfz43_1 :=blk_frozen BK126.out 1
            obtain ⟨Ao44,co44,eo44⟩ :=Kd.R_slice HO_127001.out
            subst eo44
            try go_wp2
            have n0_ :=Aside0.mk (Kd.R_drew HO_127001.out)
            have n1_ :=Aside0.mk (blk_drew BK125.out)
            have n2_ :=Aside0.mk (blk_drew BK126.out)
            have n3_ :=Aside0.mk (blk_drew BK145.out)
            have n4_ :=Aside0.mk (IsS56.drew HI0.out)
            have n5_ :=Aside0.mk (keep_drew HK.out)
            have n6_ :=Aside0.mk (below_drew1 HB.out)
            clear HO_127001
            clear BK125
            clear BK126
            clear BK145
            clear HI0
            clear HK
            clear HB
            have HO_127001 :=n0_
            have BK125 :=n1_
            have BK126 :=n2_
            have BK145 :=n3_
            have HI0 :=n4_
            have HK :=n5_
            have HB :=n6_
            clear n0_ n1_ n2_ n3_ n4_ n5_ n6_
            refine start_ (n :=13) (S :=fun w' => True) (ds :=[]) #[false,false,false,false,false,false,false,false,false,false,false,false,false] (by kernel_rfl) rfl rfl trivial (fun hHeld => ?_);refine with_tabW pandectplay_Picks_Commit.tab12 pandectplay_Picks_Commit.bits12 (fun HT_ HW_ => ?_)
            generalize wr.drew = w45 at HO_127001 BK125 BK126 BK145 HI0 HK HB hHeld ⊢
            refine pure_ (i :=0) (N :=some 43) (v :=?_) (a' :=?_) #[true,false,false,false,false,false,false,false,false,false,false,false,false] rfl rfl (any_of HT_.out (by kernel_rfl)) (fun _ _ _ h => h) (Or.inl ⟨by rfl,?_⟩) ?_ ?_
            rotate_left
            ·intro w'
             go_simp
             with_reducible rfl
            rotate_left
            ·simp only [Act.put,List.setIfInBounds_toArray,List.set_cons_zero,List.set_cons_succ,i64_w,i32_w]
             rfl
            refine pure_ (i :=1) (N :=some 44) (v :=?_) (a' :=?_) #[true,true,false,false,false,false,false,false,false,false,false,false,false] rfl rfl (any_of HT_.out (by kernel_rfl)) (fun _ _ _ h => h) (Or.inl ⟨by rfl,?_⟩) ?_ ?_
            rotate_left
            ·intro w'
             go_simp
             with_reducible rfl
            rotate_left
            ·simp only [Act.put,List.setIfInBounds_toArray,List.set_cons_zero,List.set_cons_succ,i64_w,i32_w]
             rfl
            refine pure_ (i :=2) (N :=some 45) (v :=undef) (a' :=?_) #[true,true,true,false,false,false,false,false,false,false,false,false,false] rfl rfl (any_of HT_.out (by kernel_rfl)) (fun _ _ _ h => h) (Or.inr ⟨by rfl,rfl⟩) ?_ ?_
            rotate_left
            ·simp only [Act.put,List.setIfInBounds_toArray,List.set_cons_zero,List.set_cons_succ,i64_w,i32_w]
             rfl
            refine pure_ (i :=3) (N :=some 46) (v :=undef) (a' :=?_) #[true,true,true,true,false,false,false,false,false,false,false,false,false] rfl rfl (any_of HT_.out (by kernel_rfl)) (fun _ _ _ h => h) (Or.inr ⟨by rfl,rfl⟩) ?_ ?_
            rotate_left
            ·simp only [Act.put,List.setIfInBounds_toArray,List.set_cons_zero,List.set_cons_succ,i64_w,i32_w]
             rfl
            refine pure_ (i :=4) (N :=some 47) (v :=undef) (a' :=?_) #[true,true,true,true,true,false,false,false,false,false,false,false,false] rfl rfl (any_of HT_.out (by kernel_rfl)) (fun _ _ _ h => h) (Or.inr ⟨by rfl,rfl⟩) ?_ ?_
            rotate_left
            ·simp only [Act.put,List.setIfInBounds_toArray,List.set_cons_zero,List.set_cons_succ,i64_w,i32_w]
             rfl
            refine pure_ (i :=5) (N :=some 48) (v :=undef) (a' :=?_) #[true,true,true,true,true,true,false,false,false,false,false,false,false] rfl rfl (any_of HT_.out (by kernel_rfl)) (fun _ _ _ h => h) (Or.inr ⟨by rfl,rfl⟩) ?_ ?_
            rotate_left
            ·simp only [Act.put,List.setIfInBounds_toArray,List.set_cons_zero,List.set_cons_succ,i64_w,i32_w]
             rfl
            refine pure_ (i :=6) (N :=some 49) (v :=undef) (a' :=?_) #[true,true,true,true,true,true,true,false,false,false,false,false,false] rfl rfl (any_of HT_.out (by kernel_rfl)) (fun _ _ _ h => h) (Or.inr ⟨by rfl,rfl⟩) ?_ ?_
            rotate_left
            ·simp only [Act.put,List.setIfInBounds_toArray,List.set_cons_zero,List.set_cons_succ,i64_w,i32_w]
             rfl
            refine pure_ (i :=7) (N :=some 50) (v :=undef) (a' :=?_) #[true,true,true,true,true,true,true,true,false,false,false,false,false] rfl rfl (any_of HT_.out (by kernel_rfl)) (fun _ _ _ h => h) (Or.inr ⟨by rfl,rfl⟩) ?_ ?_
            rotate_left
            ·simp only [Act.put,List.setIfInBounds_toArray,List.set_cons_zero,List.set_cons_succ,i64_w,i32_w]
             rfl
            refine pure_ (i :=8) (N :=some 51) (v :=undef) (a' :=?_) #[true,true,true,true,true,true,true,true,true,false,false,false,false] rfl rfl (any_of HT_.out (by kernel_rfl)) (fun _ _ _ h => h) (Or.inr ⟨by rfl,rfl⟩) ?_ ?_
            rotate_left
            ·simp only [Act.put,List.setIfInBounds_toArray,List.set_cons_zero,List.set_cons_succ,i64_w,i32_w]
             rfl
            refine pure_ (i :=9) (N :=some 52) (v :=undef) (a' :=?_) #[true,true,true,true,true,true,true,true,true,true,false,false,false] rfl rfl (any_of HT_.out (by kernel_rfl)) (fun _ _ _ h => h) (Or.inr ⟨by rfl,rfl⟩) ?_ ?_
            rotate_left
            ·simp only [Act.put,List.setIfInBounds_toArray,List.set_cons_zero,List.set_cons_succ,i64_w,i32_w]
             rfl
            refine pure_ (i :=10) (N :=some 53) (v :=undef) (a' :=?_) #[true,true,true,true,true,true,true,true,true,true,true,false,false] rfl rfl (any_of HT_.out (by kernel_rfl)) (fun _ _ _ h => h) (Or.inr ⟨by rfl,rfl⟩) ?_ ?_
            rotate_left
            ·simp only [Act.put,List.setIfInBounds_toArray,List.set_cons_zero,List.set_cons_succ,i64_w,i32_w]
             rfl
            refine pure_ (i :=11) (N :=some 54) (v :=?_) (a' :=?_) #[true,true,true,true,true,true,true,true,true,true,true,true,false] rfl rfl (any_of HT_.out (by kernel_rfl)) (fun _ _ _ h => h) (Or.inl ⟨by rfl,?_⟩) ?_ ?_
            rotate_left
            ·intro w'
             go_simp
             with_reducible rfl
            rotate_left
            ·simp only [Act.put,List.setIfInBounds_toArray,List.set_cons_zero,List.set_cons_succ,i64_w,i32_w]
             rfl
            refine pure_ (i :=12) (N :=some 7) (v :=?_) (a' :=?_) #[true,true,true,true,true,true,true,true,true,true,true,true,true] rfl rfl (any_of HT_.out (by kernel_rfl)) (fun _ _ _ h => h) (Or.inl ⟨by rfl,?_⟩) ?_ ?_
            rotate_left
            ·intro w'
             go_simp
             with_reducible rfl
            rotate_left
            ·simp only [Act.put,List.setIfInBounds_toArray,List.set_cons_zero,List.set_cons_succ,i64_w,i32_w]
             rfl
            refine done_ (done_of HT_.out (by kernel_rfl)) ?_
            try go_wp2
            go_roundg k3
            case measure => have :=HJ2.out;have :=HK2.out;have :=HK3.out;omega
            case rel => exact ⟨(true),(wrap64 (x8_3 + 1)),(by first | rfl | (simp;done) | (simp [*];done)),(by first | rfl | (simp;done) | (simp [*];done)),H',⟨by have :=HJ2.out;have :=HK2.out;have :=HK3.out;omega⟩,⟨by (with_reducible repeat (first | apply Kd.R_alloc | apply Kd.R_drewN | apply Kd.R_drew));exact HO_127001.out⟩,⟨by (with_reducible repeat (first | refine blk_drewN ?_ _ | refine blk_drew ?_ | refine blk_alloc ?_ _));exact BK125.out⟩,⟨by (with_reducible repeat (first | refine blk_drewN ?_ _ | refine blk_drew ?_ | refine blk_alloc ?_ _));exact BK126.out⟩,⟨by (with_reducible repeat (first | refine blk_drewN ?_ _ | refine blk_drew ?_ | refine blk_alloc ?_ _));exact BK145.out⟩,⟨by repeat (first | (with_reducible first | exact HI0.out | apply IsS56.alloc | apply IsS56.drewN | apply IsS56.drew | apply IsS56.set_1 | refine IsS56.far ?_ NB0_125.out _ | refine IsS56.far ?_ NB0_126.out _ | refine IsS56.far ?_ NB0_145.out _) | exact HI0.out)⟩,⟨by repeat (first | (with_reducible first | exact HK.out | apply KeepBut.set_ | apply keep_drewN | apply keep_drew | apply keep_alloc | refine keep_far ?_ GW125.out _ | refine keep_far ?_ GW126.out _ | refine keep_far ?_ GW145.out _) | exact HK.out)⟩,⟨by repeat (first | (with_reducible first | exact HB.out | apply below_alloc | apply pw_below_drewN | apply below_drew1 | refine below_set ?_ (IsS56.ge HI0.out) | refine below_set ?_ GE125.out | refine below_set ?_ GE126.out | refine below_set ?_ GE145.out) | exact HB.out)⟩⟩
           ·replace c39 :=Bool.eq_false_iff.mpr c39
            subst c39
            have H1 : (if 0 ≤ x8_3 then (pandectplay_Picks_Commit.l1 k3 x4_2 (wrap64 (1 + t135)) (((rd_T36 x127001_2 x8_3).f0).toList == t137.toList) (wrap64 (x8_3 + 1)) s0_0 t143 x127000_2 x127001_2 t137 (rd y139 t142)) else (none)) = some (r1,r2,r3) :=by rw [if_neg (show ¬ (false = true) by decide)] at H;exact H
            clear H
            have H :=H1
            clear H1
            by_cases c46 : 0 ≤ x8_3
            ·rw [if_pos c46] at H
             have c46b0 : decide (0 ≤ x8_3) = true :=decide_eq_true c46
             clear c46
             have H' :=Aside0.mk H
             clear H
             have hnb47 :=NB126_125.out
             have hnc47 :=NB125_126.out
             have hnb48 :=NB126_145.out
             have hnc48 :=NB145_126.out
             have hnb49 :=NB126_0.out
             have hnc49 :=NB0_126.out
             have hcz50_0 : wr.cell? ⟨gb126,0,none⟩ = some (.string x127000_2) :=(blk_cell BK126.out 0).trans rfl
             have hcz50_1 : wr.cell? ⟨gb126,1,none⟩ = some (u127001) :=(blk_cell BK126.out 1).trans rfl
             have hfz50_0 :=blk_frozen BK126.out 0
             have hfz50_1 :=blk_frozen BK126.out 1
             obtain ⟨Ao51,co51,eo51⟩ :=Kd.R_slice HO_127001.out
             subst eo51
             try go_wp2
             have n0_ :=Aside0.mk (Kd.R_drew HO_127001.out)
             have n1_ :=Aside0.mk (blk_drew BK125.out)
             have n2_ :=Aside0.mk (blk_drew BK126.out)
             have n3_ :=Aside0.mk (blk_drew BK145.out)
             have n4_ :=Aside0.mk (IsS56.drew HI0.out)
             have n5_ :=Aside0.mk (keep_drew HK.out)
             have n6_ :=Aside0.mk (below_drew1 HB.out)
             clear HO_127001
             clear BK125
             clear BK126
             clear BK145
             clear HI0
             clear HK
             clear HB
             have HO_127001 :=n0_
             have BK125 :=n1_
             have BK126 :=n2_
             have BK145 :=n3_
             have HI0 :=n4_
             have HK :=n5_
             have HB :=n6_
             clear n0_ n1_ n2_ n3_ n4_ n5_ n6_
             have p146 : 0 ≤ (x8_3 : Int) :=of_decide_eq_true (by first | (with_reducible assumption) | assumption)
             have q146 : x8_3 < (x127001_2.length : Int) :=of_decide_eq_true (by first | (with_reducible assumption) | assumption)
             obtain ⟨ad146,A146_2,c146_2,e146,hx146_0,hx146_1,hx146_2,hl146_2,hi146_2⟩ :=at_T36 (Kd.R_reads' HO_127001.out).2.2 x8_3 p146 q146
             cases e146
             obtain ⟨ce146,hce146,hMe146,hcc146⟩ :=Kd.R_get HO_127001.out z36 x8_3 p146 (by first | exact q146 | exact of_decide_eq_true (by first | (with_reducible assumption) | assumption) | (have e_ :=(Kd.R_reads' HO_127001.out).1;omega))
             obtain ⟨ve146_2,rfl,ge146_2⟩ :=k36_openM hMe146
             have hv146_2 :=hcc146 2 _ rfl
             rw [add_field _ _ 2 (by omega)] at hv146_2
             replace hv146_2 :=Option.some.inj (hv146_2.symm.trans hx146_2)
             rw [hv146_2] at ge146_2
             have HL146_2 :=Aside0.mk (show Kd.R k49 49 _ _ _ _ ((rd_T36 x127001_2 x8_3).f2) from ge146_2)
             clear hv146_2 ge146_2
             clear hcc146 hce146
             have HR146_2 :=Aside0.mk hi146_2
             have HC146_2 :=Aside0.mk hl146_2
             clear hi146_2 hl146_2
             replace p146 :=eq_true p146
             replace q146 :=eq_true q146
             refine start_ (n :=13) (S :=fun w' => w'.cell? ⟨gb126,0,none⟩ = some (.string x127000_2) ∧ w'.cell? ⟨gb126,1,none⟩ = some (.slice (some ad146) x127001_2.length co51) ∧ w'.cell? ⟨gb145,0,none⟩ = some (.string t137) ∧ w'.cell? ⟨gb145,1,none⟩ = some (.int .i64 (rd y139 t142)) ∧ w'.cell? ⟨gb145,2,none⟩ = some (.slice none 0 0) ∧ w'.cell? (ad146.add ((x8_3).toNat * 3)) = some (.string ((rd_T36 x127001_2 x8_3).f0)) ∧ w'.cell? ⟨(ad146.add ((x8_3).toNat * 3)).block,(ad146.add ((x8_3).toNat * 3)).off + 1,none⟩ = some (.int .i64 ((rd_T36 x127001_2 x8_3).f1)) ∧ w'.cell? ⟨(ad146.add ((x8_3).toNat * 3)).block,(ad146.add ((x8_3).toNat * 3)).off + 2,none⟩ = some (.slice A146_2 ((rd_T36 x127001_2 x8_3).f2).length c146_2)) (ds :=[]) #[false,false,false,false,false,false,false,false,false,false,false,false,false] (by kernel_rfl) rfl rfl ⟨(blk_cell BK126.out 0).trans rfl,(blk_cell BK126.out 1).trans rfl,(blk_cell BK145.out 0).trans rfl,(blk_cell BK145.out 1).trans rfl,(blk_cell BK145.out 2).trans rfl,hx146_0,hx146_1,hx146_2⟩ (fun hHeld => ?_);refine with_tabW pandectplay_Picks_Commit.tab12 pandectplay_Picks_Commit.bits12 (fun HT_ HW_ => ?_)
             generalize wr.drew = w52 at HO_127001 BK125 BK126 BK145 HI0 HK HB HL146_2 HR146_2 hx146_0 hx146_1 hx146_2 hHeld ⊢
             refine pure_ (i :=0) (N :=some 43) (v :=?_) (a' :=?_) #[true,false,false,false,false,false,false,false,false,false,false,false,false] rfl rfl (any_of HT_.out (by kernel_rfl)) (fun _ _ _ h => h) (Or.inl ⟨by rfl,?_⟩) ?_ ?_
             rotate_left
             ·intro w'
              go_simp
              with_reducible rfl
             rotate_left
             ·simp only [Act.put,List.setIfInBounds_toArray,List.set_cons_zero,List.set_cons_succ,i64_w,i32_w]
              rfl
             refine pure_ (i :=1) (N :=some 44) (v :=?_) (a' :=?_) #[true,true,false,false,false,false,false,false,false,false,false,false,false] rfl rfl (any_of HT_.out (by kernel_rfl)) (fun _ _ _ h => h) (Or.inl ⟨by rfl,?_⟩) ?_ ?_
             rotate_left
             ·intro w'
              go_simp
              with_reducible rfl
             rotate_left
             ·simp only [Act.put,List.setIfInBounds_toArray,List.set_cons_zero,List.set_cons_succ,i64_w,i32_w]
              rfl
             refine pure_ (i :=2) (N :=some 45) (v :=?_) (a' :=?_) #[true,true,true,false,false,false,false,false,false,false,false,false,false] rfl rfl (any_of HT_.out (by kernel_rfl)) (fun _ _ _ h => h) (Or.inl ⟨by rfl,?_⟩) ?_ ?_
             rotate_left
             ·intro w'
              go_simp
              with_reducible rfl
             rotate_left
             ·simp only [Act.put,List.setIfInBounds_toArray,List.set_cons_zero,List.set_cons_succ,i64_w,i32_w]
              rfl
             refine pure_ (i :=4) (N :=some 47) (v :=?_) (a' :=?_) #[true,true,true,false,true,false,false,false,false,false,false,false,false] rfl rfl (any_of HT_.out (by kernel_rfl)) (fun _ _ _ h => h) (Or.inl ⟨by rfl,?_⟩) ?_ ?_
             rotate_left
             ·intro w'
              go_simp
              with_reducible rfl
             rotate_left
             ·simp only [Act.put,List.setIfInBounds_toArray,List.set_cons_zero,List.set_cons_succ,i64_w,i32_w]
              rfl
             refine pure_ (i :=8) (N :=some 51) (v :=?_) (a' :=?_) #[true,true,true,false,true,false,false,false,true,false,false,false,false] rfl rfl (any_of HT_.out (by kernel_rfl)) (fun _ _ _ h => h) (Or.inl ⟨by rfl,?_⟩) ?_ ?_
             rotate_left
             ·intro w'
              go_simp
              with_reducible rfl
             rotate_left
             ·simp only [Act.put,List.setIfInBounds_toArray,List.set_cons_zero,List.set_cons_succ,i64_w,i32_w]
              rfl
             refine take_ (i :=3) (N :=some 46) (v :=?_) (a' :=?_) #[true,true,true,true,true,false,false,false,true,false,false,false,false] rfl rfl (take_ofW HT_.out HW_.out (by kernel_rfl)) (fun _ _ _ h => h) (Or.inl ⟨by rfl,?_⟩) hHeld ?_ ?_
             rotate_left
             ·rintro w' ⟨s0,s1,s2,s3,s4,s5,s6,s7⟩
              go_simp
              with_reducible rfl
             rotate_left
             ·simp only [Act.put,List.setIfInBounds_toArray,List.set_cons_zero,List.set_cons_succ,i64_w,i32_w]
              rfl
             refine pure_ (i :=5) (N :=some 48) (v :=?_) (a' :=?_) #[true,true,true,true,true,true,false,false,true,false,false,false,false] rfl rfl (any_of HT_.out (by kernel_rfl)) (fun _ _ _ h => h) (Or.inl ⟨by rfl,?_⟩) ?_ ?_
             rotate_left
             ·intro w'
              go_simp
              with_reducible rfl
             rotate_left
             ·simp only [Act.put,List.setIfInBounds_toArray,List.set_cons_zero,List.set_cons_succ,i64_w,i32_w]
              rfl
             refine pure_ (i :=6) (N :=some 49) (v :=?_) (a' :=?_) #[true,true,true,true,true,true,true,false,true,false,false,false,false] rfl rfl (any_of HT_.out (by kernel_rfl)) (fun _ _ _ h => h) (Or.inl ⟨by rfl,?_⟩) ?_ ?_
             rotate_left
             ·intro w'
              go_simp
              with_reducible rfl
             rotate_left
             ·simp only [Act.put,List.setIfInBounds_toArray,List.set_cons_zero,List.set_cons_succ,i64_w,i32_w]
              rfl
             refine take_ (i :=7) (N :=some 50) (v :=?_) (a' :=?_) #[true,true,true,true,true,true,true,true,true,false,false,false,false] rfl rfl (take_ofW HT_.out HW_.out (by kernel_rfl)) (fun _ _ _ h => h) (Or.inl ⟨by rfl,?_⟩) hHeld ?_ ?_
             rotate_left
             ·rintro w' ⟨s0,s1,s2,s3,s4,s5,s6,s7⟩
              go_simp
              with_reducible rfl
             rotate_left
             ·simp only [Act.put,List.setIfInBounds_toArray,List.set_cons_zero,List.set_cons_succ,i64_w,i32_w]
              rfl
             refine take_ (i :=9) (N :=some 52) (v :=?_) (a' :=?_) #[true,true,true,true,true,true,true,true,true,true,false,false,false] rfl rfl (take_ofW HT_.out HW_.out (by kernel_rfl)) (fun _ _ _ h => h) (Or.inl ⟨by rfl,?_⟩) hHeld ?_ ?_
             rotate_left
             ·rintro w' ⟨s0,s1,s2,s3,s4,s5,s6,s7⟩
              go_simp
              with_reducible rfl
             rotate_left
             ·simp only [Act.put,List.setIfInBounds_toArray,List.set_cons_zero,List.set_cons_succ,i64_w,i32_w]
              rfl
             refine pure_ (i :=10) (N :=some 53) (v :=?_) (a' :=?_) #[true,true,true,true,true,true,true,true,true,true,true,false,false] rfl rfl (any_of HT_.out (by kernel_rfl)) (fun _ _ _ h => h) (Or.inl ⟨by rfl,?_⟩) ?_ ?_
             rotate_left
             ·intro w'
              go_simp
              with_reducible rfl
             rotate_left
             ·simp only [Act.put,List.setIfInBounds_toArray,List.set_cons_zero,List.set_cons_succ,i64_w,i32_w]
              rfl
             refine pure_ (i :=11) (N :=some 54) (v :=?_) (a' :=?_) #[true,true,true,true,true,true,true,true,true,true,true,true,false] rfl rfl (any_of HT_.out (by kernel_rfl)) (fun _ _ _ h => h) (Or.inl ⟨by rfl,?_⟩) ?_ ?_
             rotate_left
             ·intro w'
              go_simp
              with_reducible rfl
             rotate_left
             ·simp only [Act.put,List.setIfInBounds_toArray,List.set_cons_zero,List.set_cons_succ,i64_w,i32_w]
              rfl
             refine pure_ (i :=12) (N :=some 7) (v :=?_) (a' :=?_) #[true,true,true,true,true,true,true,true,true,true,true,true,true] rfl rfl (any_of HT_.out (by kernel_rfl)) (fun _ _ _ h => h) (Or.inl ⟨by rfl,?_⟩) ?_ ?_
             rotate_left
             ·intro w'
              go_simp
              with_reducible rfl
             rotate_left
             ·simp only [Act.put,List.setIfInBounds_toArray,List.set_cons_zero,List.set_cons_succ,i64_w,i32_w]
              rfl
             refine done_ (done_of HT_.out (by kernel_rfl)) ?_
             try go_wp2
             go_roundg k3
             case measure => have :=HJ2.out;have :=HK2.out;have :=HK3.out;omega
             case rel => exact ⟨((((rd_T36 x127001_2 x8_3).f0).toList == t137.toList)),(wrap64 (x8_3 + 1)),(by first | rfl | (simp;done) | (simp [*];done)),(by first | rfl | (simp;done) | (simp [*];done)),H',⟨by have :=HJ2.out;have :=HK2.out;have :=HK3.out;omega⟩,⟨by (with_reducible repeat (first | apply Kd.R_alloc | apply Kd.R_drewN | apply Kd.R_drew));exact HO_127001.out⟩,⟨by (with_reducible repeat (first | refine blk_drewN ?_ _ | refine blk_drew ?_ | refine blk_alloc ?_ _));exact BK125.out⟩,⟨by (with_reducible repeat (first | refine blk_drewN ?_ _ | refine blk_drew ?_ | refine blk_alloc ?_ _));exact BK126.out⟩,⟨by (with_reducible repeat (first | refine blk_drewN ?_ _ | refine blk_drew ?_ | refine blk_alloc ?_ _));exact BK145.out⟩,⟨by repeat (first | (with_reducible first | exact HI0.out | apply IsS56.alloc | apply IsS56.drewN | apply IsS56.drew | apply IsS56.set_1 | refine IsS56.far ?_ NB0_125.out _ | refine IsS56.far ?_ NB0_126.out _ | refine IsS56.far ?_ NB0_145.out _) | exact HI0.out)⟩,⟨by repeat (first | (with_reducible first | exact HK.out | apply KeepBut.set_ | apply keep_drewN | apply keep_drew | apply keep_alloc | refine keep_far ?_ GW125.out _ | refine keep_far ?_ GW126.out _ | refine keep_far ?_ GW145.out _) | exact HK.out)⟩,⟨by repeat (first | (with_reducible first | exact HB.out | apply below_alloc | apply pw_below_drewN | apply below_drew1 | refine below_set ?_ (IsS56.ge HI0.out) | refine below_set ?_ GE125.out | refine below_set ?_ GE126.out | refine below_set ?_ GE145.out) | exact HB.out)⟩⟩
            ·rw [if_neg c46] at H
             exact absurd H (by simp)
          ·rw [if_neg c38] at H
           have c38b0 : decide (x8_3 < (x127001_2.length : Int)) = false :=decide_eq_false c38
           clear c38
           have HC53 :=Aside0.mk H
           clear H
           have hnb54 :=NB126_125.out
           have hnc54 :=NB125_126.out
           have hnb55 :=NB126_145.out
           have hnc55 :=NB145_126.out
           have hnb56 :=NB126_0.out
           have hnc56 :=NB0_126.out
           have hcz57_0 : wr.cell? ⟨gb126,0,none⟩ = some (.string x127000_2) :=(blk_cell BK126.out 0).trans rfl
           have hcz57_1 : wr.cell? ⟨gb126,1,none⟩ = some (u127001) :=(blk_cell BK126.out 1).trans rfl
           have hfz57_0 :=blk_frozen BK126.out 0
           have hfz57_1 :=blk_frozen BK126.out 1
           obtain ⟨Ao58,co58,eo58⟩ :=Kd.R_slice HO_127001.out
           subst eo58
           go_upto_region 13 with (fail)
           go_cut [60] (fun v60 wc => ∃ (kq : Nat) (x60_52 : Bool) (x1001_52 : Int),v60 = .bool x60_52 ∧ Aside0 (pandectplay_Picks_Commit.j3 kq x4_2 (wrap64 (1 + t135)) x60_52 s0_0 x1001_52 x127000_2 x127001_2 t137 (rd y139 t142) = some (r1,r2,r3)) ∧ Aside0 (kq ≤ k3) ∧ Aside0 (Kd.R k36 36 wc w.heap.size (fun k_ => k_ ≠ gb145) (.slice Ao58 x127001_2.length co58) x127001_2) ∧ Aside0 (wc.heap[gb125]? = some (.cells #[.string (⟨#[]⟩ : ByteArray),(.slice none 0 0)] 28 (0,0))) ∧ Aside0 (wc.heap[gb126]? = some (.cells #[.string x127000_2,(.slice Ao58 x127001_2.length co58)] 28 (0,0))) ∧ Aside0 (wc.heap[gb145]? = some (.cells #[.string t137,.int .i64 (rd y139 t142),(.slice none 0 0)] 36 (0,0))) ∧ Aside0 (IsS56 w0 wc g s0_0 x1001_52) ∧ Aside0 (KeepBut w wc g none) ∧ Aside0 (Below w0.heap.size w0 wc))
           case first =>
            have H :=HC53.out
            clear HC53
            by_cases c59 : x7_3 = true
            ·subst c59
             have H1 : ((pandectplay_Picks_Num.f s0_0 t143 9).bind fun bt147 => (pandectplay_Picks_Commit.j3 k3 x4_2 (wrap64 (1 + t135)) (decide (bt147.1 > 0)) s0_0 bt147.2 x127000_2 x127001_2 t137 (rd y139 t142))) = some (r1,r2,r3) :=by rw [if_pos rfl] at H;exact H
             clear H
             have H :=H1
             clear H1
             replace H :=Option.bind_eq_some_iff.mp H
             obtain ⟨⟨t147,t148⟩,A600,H⟩ :=H
             replace H : (pandectplay_Picks_Commit.j3 k3 x4_2 (wrap64 (1 + t135)) (decide (t147 > 0)) s0_0 t148 x127000_2 x127001_2 t137 (rd y139 t142)) = some (r1,r2,r3) :=H
             have A60 :=Aside0.mk A600
             clear A600
             have H' :=Aside0.mk H
             clear H
             go_wp2_with (first | (go_at_call 10;(with_reducible refine (pandectplay_Picks_Num.calls g s0_0 t143 9 t147 t148 w0 _ ?side1 ?side2 A60.out).mono ?_);(case side1 => repeat (first | (with_reducible first | exact HI0.out | apply IsS56.alloc | apply IsS56.drewN | apply IsS56.drew | apply IsS56.set_1 | refine IsS56.far ?_ NB0_125.out _ | refine IsS56.far ?_ NB0_126.out _ | refine IsS56.far ?_ NB0_145.out _) | exact HI0.out));(case side2 => repeat (first | (with_reducible first | exact HB.out | apply below_alloc | apply pw_below_drewN | apply below_drew1 | refine below_set ?_ (IsS56.ge HI0.out) | refine below_set ?_ GE125.out | refine below_set ?_ GE126.out | refine below_set ?_ GE145.out) | exact HB.out));rintro e w61 ⟨rfl,hi,hb,hk⟩;have n0_ :=Aside0.mk (Kd.R_mono (Kd.R_keep (IsS56.apart (show IsS56 w0 _ g s0_0 t143 from by repeat (first | (with_reducible first | exact HI0.out | apply IsS56.alloc | apply IsS56.drewN | apply IsS56.drew | apply IsS56.set_1 | refine IsS56.far ?_ NB0_125.out _ | refine IsS56.far ?_ NB0_126.out _ | refine IsS56.far ?_ NB0_145.out _) | exact HI0.out)) (by (with_reducible repeat (first | apply Kd.R_alloc | apply Kd.R_drewN | apply Kd.R_drew));exact HO_127001.out) (by decide)) hk (fun _ h => h.2)) (fun _ h => h.1));have n1_ :=Aside0.mk (KeepBut.blk hk (g' :=gb125) (o :=.cells #[.string (⟨#[]⟩ : ByteArray),.slice none 0 0] 28 (0,0)) (by (with_reducible repeat (first | refine blk_drewN ?_ _ | refine blk_drew ?_ | refine blk_alloc ?_ _));exact BK125.out) NB125_0.out (by simp));have n2_ :=Aside0.mk (KeepBut.blk hk (g' :=gb126) (o :=.cells #[.string x127000_2,.slice Ao58 x127001_2.length co58] 28 (0,0)) (by (with_reducible repeat (first | refine blk_drewN ?_ _ | refine blk_drew ?_ | refine blk_alloc ?_ _));exact BK126.out) NB126_0.out (by simp));have n3_ :=Aside0.mk (KeepBut.blk hk (g' :=gb145) (o :=.cells #[.string t137,.int .i64 (rd y139 t142),.slice none 0 0] 36 (0,0)) (by (with_reducible repeat (first | refine blk_drewN ?_ _ | refine blk_drew ?_ | refine blk_alloc ?_ _));exact BK145.out) NB145_0.out (by simp));have n4_ :=Aside0.mk (KeepBut.trans (by repeat (first | (with_reducible first | exact HK.out | apply KeepBut.set_ | apply keep_drewN | apply keep_drew | apply keep_alloc | refine keep_far ?_ GW125.out _ | refine keep_far ?_ GW126.out _ | refine keep_far ?_ GW145.out _) | exact HK.out)) hk (.inl rfl));have n5_ :=Aside0.mk (hb);have n6_ :=Aside0.mk (hi);clear HO_127001;clear BK125;clear BK126;clear BK145;clear HK;clear HB;clear HI0;have HO_127001 :=n0_;have BK125 :=n1_;have BK126 :=n2_;have BK145 :=n3_;have HK :=n4_;have HB :=n5_;have HI0 :=n6_;clear n0_ n1_ n2_ n3_ n4_ n5_ n6_;(try clear hb);(try clear hb2);(try clear hk);(try clear hi)))
             go_meet
             case rel => exact ⟨_,(decide (t147 > 0)),(t148),(by first | rfl | (simp;done) | (simp [*];done)),H',⟨by have :=HJ2.out;have :=HK2.out;have :=HK3.out;first | omega | exact Nat.le_refl _⟩,⟨by (with_reducible repeat (first | apply Kd.R_alloc | apply Kd.R_drewN | apply Kd.R_drew));exact HO_127001.out⟩,⟨by (with_reducible repeat (first | refine blk_drewN ?_ _ | refine blk_drew ?_ | refine blk_alloc ?_ _));exact BK125.out⟩,⟨by (with_reducible repeat (first | refine blk_drewN ?_ _ | refine blk_drew ?_ | refine blk_alloc ?_ _));exact BK126.out⟩,⟨by (with_reducible repeat (first | refine blk_drewN ?_ _ | refine blk_drew ?_ | refine blk_alloc ?_ _));exact BK145.out⟩,⟨by repeat (first | (with_reducible first | exact HI0.out | apply IsS56.alloc | apply IsS56.drewN | apply IsS56.drew | apply IsS56.set_1 | refine IsS56.far ?_ NB0_125.out _ | refine IsS56.far ?_ NB0_126.out _ | refine IsS56.far ?_ NB0_145.out _) | exact HI0.out)⟩,⟨by repeat (first | (with_reducible first | exact HK.out | apply KeepBut.set_ | apply keep_drewN | apply keep_drew | apply keep_alloc | refine keep_far ?_ GW125.out _ | refine keep_far ?_ GW126.out _ | refine keep_far ?_ GW145.out _) | exact HK.out)⟩,⟨by repeat (first | (with_reducible first | exact HB.out | apply below_alloc | apply pw_below_drewN | apply below_drew1 | refine below_set ?_ (IsS56.ge HI0.out) | refine below_set ?_ GE125.out | refine below_set ?_ GE126.out | refine below_set ?_ GE145.out) | exact HB.out)⟩⟩
            ·replace c59 :=Bool.eq_false_iff.mpr c59
             subst c59
             have H1 : (pandectplay_Picks_Commit.j3 k3 x4_2 (wrap64 (1 + t135)) false s0_0 t143 x127000_2 x127001_2 t137 (rd y139 t142)) = some (r1,r2,r3) :=by rw [if_neg (show ¬ (false = true) by decide)] at H;exact H
             clear H
             have H :=H1
             clear H1
             have H' :=Aside0.mk H
             clear H
             go_wp2
             go_meet
             case rel => exact ⟨_,(false),(t143),(by first | rfl | (simp;done) | (simp [*];done)),H',⟨by have :=HJ2.out;have :=HK2.out;have :=HK3.out;first | omega | exact Nat.le_refl _⟩,⟨by (with_reducible repeat (first | apply Kd.R_alloc | apply Kd.R_drewN | apply Kd.R_drew));exact HO_127001.out⟩,⟨by (with_reducible repeat (first | refine blk_drewN ?_ _ | refine blk_drew ?_ | refine blk_alloc ?_ _));exact BK125.out⟩,⟨by (with_reducible repeat (first | refine blk_drewN ?_ _ | refine blk_drew ?_ | refine blk_alloc ?_ _));exact BK126.out⟩,⟨by (with_reducible repeat (first | refine blk_drewN ?_ _ | refine blk_drew ?_ | refine blk_alloc ?_ _));exact BK145.out⟩,⟨by repeat (first | (with_reducible first | exact HI0.out | apply IsS56.alloc | apply IsS56.drewN | apply IsS56.drew | apply IsS56.set_1 | refine IsS56.far ?_ NB0_125.out _ | refine IsS56.far ?_ NB0_126.out _ | refine IsS56.far ?_ NB0_145.out _) | exact HI0.out)⟩,⟨by repeat (first | (with_reducible first | exact HK.out | apply KeepBut.set_ | apply keep_drewN | apply keep_drew | apply keep_alloc | refine keep_far ?_ GW125.out _ | refine keep_far ?_ GW126.out _ | refine keep_far ?_ GW145.out _) | exact HK.out)⟩,⟨by repeat (first | (with_reducible first | exact HB.out | apply below_alloc | apply pw_below_drewN | apply below_drew1 | refine below_set ?_ (IsS56.ge HI0.out) | refine below_set ?_ GE125.out | refine below_set ?_ GE126.out | refine below_set ?_ GE145.out) | exact HB.out)⟩⟩
           case rest =>
            clear HC53
            try clear c1
            try clear p1
            try clear q1
            try clear hx1
            try clear c2
            try clear p2
            try clear c3
            try clear c4
            try clear c5
            try clear c6
            try clear p6
            try clear c7
            try clear c10
            try clear c10b0
            try clear c10b1
            try clear c11
            try clear c12
            try clear c12b0
            try clear c13
            try clear c13b0
            try clear p13
            try clear q13
            try clear hx13
            try clear c14
            try clear p14
            try clear q14
            try clear hx14
            try clear c18
            try clear c19
            try clear c23
            try clear c23b0
            try clear c26
            try clear c26b0
            try clear c27
            try clear c27b0
            try clear c34
            try clear c35
            try clear c36
            try clear c38
            try clear c38b0
            try clear c39
            try clear c40
            try clear c41
            try clear c42
            try clear c46
            try clear c46b0
            try clear c47
            try clear c48
            try clear c49
            try clear c54
            try clear c55
            try clear c56
            try clear c59
            try clear hcz20_0
            try clear hcz20_1
            try clear hcz37_0
            try clear hcz37_1
            try clear hcz37_2
            try clear hcz43_0
            try clear hcz43_1
            try clear hcz50_0
            try clear hcz50_1
            try clear hcz57_0
            try clear hcz57_1
            try clear hcz8_0
            try clear hcz8_1
            try clear hfz20_0
            try clear hfz20_1
            try clear hfz37_0
            try clear hfz37_1
            try clear hfz37_2
            try clear hfz43_0
            try clear hfz43_1
            try clear hfz50_0
            try clear hfz50_1
            try clear hfz57_0
            try clear hfz57_1
            try clear hfz8_0
            try clear hfz8_1
            try clear hx134_0
            try clear hx144_0
            try clear hx146_0
            try clear hx146_1
            try clear hx146_2
            try clear p1
            try clear p13
            try clear p134
            try clear p14
            try clear p144
            try clear p146
            try clear p2
            try clear p6
            try clear q1
            try clear q13
            try clear q134
            try clear q14
            try clear q144
            try clear q146
            obtain ⟨kq,x60_52,x1001_52,rfl,HA,HJ52,HO_127001,BK125,BK126,BK145,HI0,HK,HB⟩ :=hcut
            cases kq with
            | zero => exact absurd HA.out (by simp [pandectplay_Picks_Commit.j3])
            | succ kj52 =>
             have H :=HA.out
             clear HA
             simp only [pandectplay_Picks_Commit.j3] at H
             by_cases c62 : x60_52 = true
             ·subst c62
              have H1 : (pandectplay_Picks_Commit.l0 kj52 (wrap64 (x4_2 + 1)) (wrap64 (1 + t135)) s0_0 x1001_52 x127000_2 x127001_2) = some (r1,r2,r3) :=by rw [if_pos rfl] at H;exact H
              clear H
              have H :=H1
              clear H1
              have H' :=Aside0.mk H
              clear H
              go_wp2
              go_roundg kj52
              case measure => have :=HJ2.out;have :=HK2.out;have :=HK3.out;have :=HJ52.out;omega
              case rel => exact ⟨(wrap64 (x4_2 + 1)),(x1001_52),(x127001_2),(.slice Ao58 x127001_2.length co58),(by first | rfl | (simp;done) | (simp [*];done)),H',⟨by have :=HJ2.out;have :=HK2.out;have :=HK3.out;have :=HJ52.out;omega⟩,⟨by (with_reducible repeat (first | apply Kd.R_alloc | apply Kd.R_drewN | apply Kd.R_drew));exact Kd.R_mono HO_127001.out (fun _ hk => trivial)⟩,⟨by (with_reducible repeat (first | refine blk_drewN ?_ _ | refine blk_drew ?_ | refine blk_alloc ?_ _));exact BK125.out⟩,⟨by (with_reducible repeat (first | refine blk_drewN ?_ _ | refine blk_drew ?_ | refine blk_alloc ?_ _));exact BK126.out⟩,⟨by repeat (first | (with_reducible first | exact HI0.out | apply IsS56.alloc | apply IsS56.drewN | apply IsS56.drew | apply IsS56.set_1 | refine IsS56.far ?_ NB0_125.out _ | refine IsS56.far ?_ NB0_126.out _ | refine IsS56.far ?_ NB0_145.out _) | exact HI0.out)⟩,⟨by repeat (first | (with_reducible first | exact HK.out | apply KeepBut.set_ | apply keep_drewN | apply keep_drew | apply keep_alloc | refine keep_far ?_ GW125.out _ | refine keep_far ?_ GW126.out _ | refine keep_far ?_ GW145.out _) | exact HK.out)⟩,⟨by repeat (first | (with_reducible first | exact HB.out | apply below_alloc | apply pw_below_drewN | apply below_drew1 | refine below_set ?_ (IsS56.ge HI0.out) | refine below_set ?_ GE125.out | refine below_set ?_ GE126.out | refine below_set ?_ GE145.out) | exact HB.out)⟩⟩
             ·replace c62 :=Bool.eq_false_iff.mpr c62
              subst c62
              have H1 : ((pandectplay_Picks_Num.f s0_0 x1001_52 4).bind fun bt149 => (pandectplay_Picks_Commit.l2 kj52 x4_2 (wrap64 (1 + t135)) (wrap64 (1 + bt149.1)) s0_0 bt149.2 x127000_2 x127001_2 t137 (rd y139 t142) ([] : List (S49)))) = some (r1,r2,r3) :=by rw [if_neg (show ¬ (false = true) by decide)] at H;exact H
              clear H
              have H :=H1
              clear H1
              replace H :=Option.bind_eq_some_iff.mp H
              obtain ⟨⟨t149,t150⟩,A630,H⟩ :=H
              replace H : (pandectplay_Picks_Commit.l2 kj52 x4_2 (wrap64 (1 + t135)) (wrap64 (1 + t149)) s0_0 t150 x127000_2 x127001_2 t137 (rd y139 t142) ([] : List (S49))) = some (r1,r2,r3) :=H
              have A63 :=Aside0.mk A630
              clear A630
              have H' :=Aside0.mk H
              clear H
              go_wp2_with (first | ((with_reducible refine gate_callee (f :=10) rfl ?_);refine goesL_ (some 62) rfl rfl Try.func10 (by kernel_rfl) rfl #[.pointer (some ⟨g,0,none⟩),.int .i64 4] rfl (by (try simp only [List.map_toArray,List.map_cons,List.map_nil]);first | done | rfl | (simp only [List.length_drop,List.length_take];rfl)) ?_;(with_reducible refine (pandectplay_Picks_Num.calls g s0_0 x1001_52 4 t149 t150 w0 _ ?side1 ?side2 A63.out).mono ?_);(case side1 => repeat (first | (with_reducible first | exact HI0.out | apply IsS56.alloc | apply IsS56.drewN | apply IsS56.drew | apply IsS56.set_1 | refine IsS56.far ?_ NB0_125.out _ | refine IsS56.far ?_ NB0_126.out _ | refine IsS56.far ?_ NB0_145.out _) | exact HI0.out));(case side2 => repeat (first | (with_reducible first | exact HB.out | apply below_alloc | apply pw_below_drewN | apply below_drew1 | refine below_set ?_ (IsS56.ge HI0.out) | refine below_set ?_ GE125.out | refine below_set ?_ GE126.out | refine below_set ?_ GE145.out) | exact HB.out));rintro e w64 ⟨rfl,hi,hb,hk⟩;refine ⟨_,rfl,?_⟩;have n0_ :=Aside0.mk (Kd.R_mono (Kd.R_keep (IsS56.apart (show IsS56 w0 _ g s0_0 x1001_52 from by repeat (first | (with_reducible first | exact HI0.out | apply IsS56.alloc | apply IsS56.drewN | apply IsS56.drew | apply IsS56.set_1 | refine IsS56.far ?_ NB0_125.out _ | refine IsS56.far ?_ NB0_126.out _ | refine IsS56.far ?_ NB0_145.out _) | exact HI0.out)) (by (with_reducible repeat (first | apply Kd.R_alloc | apply Kd.R_drewN | apply Kd.R_drew));exact HO_127001.out) (by decide)) hk (fun _ h => h.2)) (fun _ h => h.1));have n1_ :=Aside0.mk (KeepBut.blk hk (g' :=gb125) (o :=.cells #[.string (⟨#[]⟩ : ByteArray),.slice none 0 0] 28 (0,0)) (by (with_reducible repeat (first | refine blk_drewN ?_ _ | refine blk_drew ?_ | refine blk_alloc ?_ _));exact BK125.out) NB125_0.out (by simp));have n2_ :=Aside0.mk (KeepBut.blk hk (g' :=gb126) (o :=.cells #[.string x127000_2,.slice Ao58 x127001_2.length co58] 28 (0,0)) (by (with_reducible repeat (first | refine blk_drewN ?_ _ | refine blk_drew ?_ | refine blk_alloc ?_ _));exact BK126.out) NB126_0.out (by simp));have n3_ :=Aside0.mk (KeepBut.blk hk (g' :=gb145) (o :=.cells #[.string t137,.int .i64 (rd y139 t142),.slice none 0 0] 36 (0,0)) (by (with_reducible repeat (first | refine blk_drewN ?_ _ | refine blk_drew ?_ | refine blk_alloc ?_ _));exact BK145.out) NB145_0.out (by simp));have n4_ :=Aside0.mk (KeepBut.trans (by repeat (first | (with_reducible first | exact HK.out | apply KeepBut.set_ | apply keep_drewN | apply keep_drew | apply keep_alloc | refine keep_far ?_ GW125.out _ | refine keep_far ?_ GW126.out _ | refine keep_far ?_ GW145.out _) | exact HK.out)) hk (.inl rfl));have n5_ :=Aside0.mk (hb);have n6_ :=Aside0.mk (hi);clear HO_127001;clear BK125;clear BK126;clear BK145;clear HK;clear HB;clear HI0;have HO_127001 :=n0_;have BK125 :=n1_;have BK126 :=n2_;have BK145 :=n3_;have HK :=n4_;have HB :=n5_;have HI0 :=n6_;clear n0_ n1_ n2_ n3_ n4_ n5_ n6_;(try clear hb);(try clear hb2);(try clear hk);(try clear hi)))
              go_loopg [9] kj52 (fun kq v9 w' => ∃ (x9_5 : Int) (x1001_5 : Int) (x146002_5 : List (S49)) (u146002 : Value),v9 = .int .i64 x9_5 ∧ Aside0 (pandectplay_Picks_Commit.l2 kq x4_2 (wrap64 (1 + t135)) x9_5 s0_0 x1001_5 x127000_2 x127001_2 t137 (rd y139 t142) x146002_5 = some (r1,r2,r3)) ∧ Aside0 (kq ≤ kj52) ∧ Aside0 (Kd.R k36 36 w' w.heap.size (fun k_ => some k_ ≠ (u146002 : Value).ownBlock ∧ k_ ≠ gb145) (.slice Ao58 x127001_2.length co58) x127001_2) ∧ Aside0 (Kd.S k49 49 w' w.heap.size (fun _ => True) u146002 x146002_5) ∧ Aside0 (w'.heap[gb125]? = some (.cells #[.string (⟨#[]⟩ : ByteArray),(.slice none 0 0)] 28 (0,0))) ∧ Aside0 (w'.heap[gb126]? = some (.cells #[.string x127000_2,(.slice Ao58 x127001_2.length co58)] 28 (0,0))) ∧ Aside0 (w'.heap[gb145]? = some (.cells #[.string t137,.int .i64 (rd y139 t142),u146002] 36 (0,0))) ∧ Aside0 (IsS56 w0 w' g s0_0 x1001_5) ∧ Aside0 (KeepBut w w' g none) ∧ Aside0 (Below w0.heap.size w0 w'))
              case atStart => exact ⟨(wrap64 (1 + t149)),(t150),(([] : List (S49))),(.slice none 0 0),(by first | rfl | (simp;done) | (simp [*];done)),H',⟨Nat.le_refl _⟩,⟨by (with_reducible repeat (first | apply Kd.R_alloc | apply Kd.R_drewN | apply Kd.R_drew));exact Kd.R_mono HO_127001.out (fun _ hk => ⟨(by simp [Value.ownBlock]),hk⟩)⟩,⟨by first | exact Kd.S_nil _ _ _ _ _ | exact Kd.N_nil _ _ _ _ _ | exact Kd.V_nil _ _ _ _ _ | exact Kd.Q_nil _ _ _ _ _ | exact Kd.R_nil _ _ _ _ _⟩,⟨by (with_reducible repeat (first | refine blk_drewN ?_ _ | refine blk_drew ?_ | refine blk_alloc ?_ _));exact BK125.out⟩,⟨by (with_reducible repeat (first | refine blk_drewN ?_ _ | refine blk_drew ?_ | refine blk_alloc ?_ _));exact BK126.out⟩,⟨by (with_reducible repeat (first | refine blk_drewN ?_ _ | refine blk_drew ?_ | refine blk_alloc ?_ _));exact BK145.out⟩,⟨by repeat (first | (with_reducible first | exact HI0.out | apply IsS56.alloc | apply IsS56.drewN | apply IsS56.drew | apply IsS56.set_1 | refine IsS56.far ?_ NB0_125.out _ | refine IsS56.far ?_ NB0_126.out _ | refine IsS56.far ?_ NB0_145.out _) | exact HI0.out)⟩,⟨by repeat (first | (with_reducible first | exact HK.out | apply KeepBut.set_ | apply keep_drewN | apply keep_drew | apply keep_alloc | refine keep_far ?_ GW125.out _ | refine keep_far ?_ GW126.out _ | refine keep_far ?_ GW145.out _) | exact HK.out)⟩,⟨by repeat (first | (with_reducible first | exact HB.out | apply below_alloc | apply pw_below_drewN | apply below_drew1 | refine below_set ?_ (IsS56.ge HI0.out) | refine below_set ?_ GE125.out | refine below_set ?_ GE126.out | refine below_set ?_ GE145.out) | exact HB.out)⟩⟩
              case round =>
               clear H'
               try clear c1
               try clear p1
               try clear q1
               try clear hx1
               try clear c2
               try clear p2
               try clear c3
               try clear c4
               try clear c5
               try clear c6
               try clear p6
               try clear c7
               try clear c10
               try clear c10b0
               try clear c10b1
               try clear c11
               try clear c12
               try clear c12b0
               try clear c13
               try clear c13b0
               try clear p13
               try clear q13
               try clear hx13
               try clear c14
               try clear p14
               try clear q14
               try clear hx14
               try clear c18
               try clear c19
               try clear c23
               try clear c23b0
               try clear c26
               try clear c26b0
               try clear c27
               try clear c27b0
               try clear c34
               try clear c35
               try clear c36
               try clear c38
               try clear c38b0
               try clear c39
               try clear c40
               try clear c41
               try clear c42
               try clear c46
               try clear c46b0
               try clear c47
               try clear c48
               try clear c49
               try clear c54
               try clear c55
               try clear c56
               try clear c59
               try clear c62
               try clear p64
               try clear hcz20_0
               try clear hcz20_1
               try clear hcz37_0
               try clear hcz37_1
               try clear hcz37_2
               try clear hcz43_0
               try clear hcz43_1
               try clear hcz50_0
               try clear hcz50_1
               try clear hcz57_0
               try clear hcz57_1
               try clear hcz8_0
               try clear hcz8_1
               try clear hfz20_0
               try clear hfz20_1
               try clear hfz37_0
               try clear hfz37_1
               try clear hfz37_2
               try clear hfz43_0
               try clear hfz43_1
               try clear hfz50_0
               try clear hfz50_1
               try clear hfz57_0
               try clear hfz57_1
               try clear hfz8_0
               try clear hfz8_1
               try clear hx134_0
               try clear hx144_0
               try clear hx146_0
               try clear hx146_1
               try clear hx146_2
               try clear p1
               try clear p13
               try clear p134
               try clear p14
               try clear p144
               try clear p146
               try clear p2
               try clear p6
               try clear q1
               try clear q13
               try clear q134
               try clear q14
               try clear q144
               try clear q146
               obtain ⟨x9_5,x1001_5,x146002_5,u146002,rfl,HA,HK5,HO_127001,HO_146002,BK125,BK126,BK145,HI0,HK,HB⟩ :=hrel
               cases gk with
               | zero => exact absurd HA.out (by simp [pandectplay_Picks_Commit.l2])
               | succ k5 =>
                have H :=HA.out
                clear HA
                simp only [pandectplay_Picks_Commit.l2] at H
                by_cases c65 : x9_5 > 0
                ·rw [if_pos c65] at H
                 have c65b0 : decide (0 < x9_5) = true :=decide_eq_true c65
                 clear c65
                 replace H :=Option.bind_eq_some_iff.mp H
                 obtain ⟨⟨t151,t152⟩,A660,H⟩ :=H
                 replace H : ((pandectplay_Picks_Data.f k5 s0_0 t152).bind fun bt153 => (if x146002_5.length < 3518437208883 then (pandectplay_Picks_Commit.l2 k5 x4_2 (wrap64 (1 + t135)) (wrap64 (x9_5 - 1)) s0_0 bt153.2 x127000_2 x127001_2 t137 (rd y139 t142) (x146002_5 ++ [(⟨t151,bt153.1⟩ : S49)])) else (none))) = some (r1,r2,r3) :=H
                 have A66 :=Aside0.mk A660
                 clear A660
                 replace H :=Option.bind_eq_some_iff.mp H
                 obtain ⟨⟨t153,t156⟩,A670,H⟩ :=H
                 replace H : (if x146002_5.length < 3518437208883 then (pandectplay_Picks_Commit.l2 k5 x4_2 (wrap64 (1 + t135)) (wrap64 (x9_5 - 1)) s0_0 t156 x127000_2 x127001_2 t137 (rd y139 t142) (x146002_5 ++ [(⟨t151,t153⟩ : S49)])) else (none)) = some (r1,r2,r3) :=H
                 have A67 :=Aside0.mk A670
                 clear A670
                 by_cases c68 : x146002_5.length < 3518437208883
                 ·rw [if_pos c68] at H
                  have LMc68 :=Aside0.mk c68
                  clear c68
                  obtain ⟨y157,hy157⟩ : ∃ y_ : List (S49),y_ = (x146002_5 ++ [(⟨t151,t153⟩ : S49)]) :=⟨_,rfl⟩
                  replace H : (pandectplay_Picks_Commit.l2 k5 x4_2 (wrap64 (1 + t135)) (wrap64 (x9_5 - 1)) s0_0 t156 x127000_2 x127001_2 t137 (rd y139 t142) y157) = some (r1,r2,r3) :=by first | (rw [hy157];with_reducible exact H) | (have H2_ :=(Option.bind_some _ _).symm.trans H;rw [hy157];with_reducible exact H2_) | (have H2_ :=(Option.bind_some _ _).symm.trans H;with_reducible exact H2_) | with_reducible exact H | (rw [hy157];exact H) | exact H
                  have Ny157 :=Aside0.mk hy157
                  clear hy157
                  have H' :=Aside0.mk H
                  clear H
                  try go_wp2
                  have n0_ :=Aside0.mk (Kd.R_drew HO_127001.out)
                  have n1_ :=Aside0.mk (Kd.S_drew HO_146002.out)
                  have n2_ :=Aside0.mk (blk_drew BK125.out)
                  have n3_ :=Aside0.mk (blk_drew BK126.out)
                  have n4_ :=Aside0.mk (blk_drew BK145.out)
                  have n5_ :=Aside0.mk (IsS56.drew HI0.out)
                  have n6_ :=Aside0.mk (keep_drew HK.out)
                  have n7_ :=Aside0.mk (below_drew1 HB.out)
                  clear HO_127001
                  clear HO_146002
                  clear BK125
                  clear BK126
                  clear BK145
                  clear HI0
                  clear HK
                  clear HB
                  have HO_127001 :=n0_
                  have HO_146002 :=n1_
                  have BK125 :=n2_
                  have BK126 :=n3_
                  have BK145 :=n4_
                  have HI0 :=n5_
                  have HK :=n6_
                  have HB :=n7_
                  clear n0_ n1_ n2_ n3_ n4_ n5_ n6_ n7_
                  refine start_ (n :=11) (S :=fun w' => w'.cell? ⟨gb145,0,none⟩ = some (.string t137) ∧ w'.cell? ⟨gb145,1,none⟩ = some (.int .i64 (rd y139 t142)) ∧ w'.cell? ⟨gb145,2,none⟩ = some (u146002)) (ds :=[10]) #[false,false,false,false,false,false,false,false,false,false,false] (by kernel_rfl) rfl rfl ⟨(blk_cell BK145.out 0).trans rfl,(blk_cell BK145.out 1).trans rfl,(blk_cell BK145.out 2).trans rfl⟩ (fun hHeld => ?_);refine with_tabW pandectplay_Picks_Commit.tab17 pandectplay_Picks_Commit.bits17 (fun HT_ HW_ => ?_)
                  generalize wr.drew = w69 at HO_127001 HO_146002 BK125 BK126 BK145 HI0 HK HB hHeld ⊢
                  refine pure_ (i :=0) (N :=some 68) (v :=?_) (a' :=?_) #[true,false,false,false,false,false,false,false,false,false,false] rfl rfl (any_of HT_.out (by kernel_rfl)) (fun _ _ _ h => h) (Or.inl ⟨by rfl,?_⟩) ?_ ?_
                  rotate_left
                  ·intro w'
                   go_simp
                   with_reducible rfl
                  rotate_left
                  ·simp only [Act.put,List.setIfInBounds_toArray,List.set_cons_zero,List.set_cons_succ,i64_w,i32_w]
                   rfl
                  refine pure_ (i :=2) (N :=some 70) (v :=?_) (a' :=?_) #[true,false,true,false,false,false,false,false,false,false,false] rfl rfl (any_of HT_.out (by kernel_rfl)) (fun _ _ _ h => h) (Or.inl ⟨by rfl,?_⟩) ?_ ?_
                  rotate_left
                  ·intro w'
                   go_simp
                   with_reducible rfl
                  rotate_left
                  ·simp only [Act.put,List.setIfInBounds_toArray,List.set_cons_zero,List.set_cons_succ,i64_w,i32_w]
                   rfl
                  refine pure_ (i :=4) (N :=some 72) (v :=?_) (a' :=?_) #[true,false,true,false,true,false,false,false,false,false,false] rfl rfl (any_of HT_.out (by kernel_rfl)) (fun _ _ _ h => h) (Or.inl ⟨by rfl,?_⟩) ?_ ?_
                  rotate_left
                  ·intro w'
                   go_simp
                   with_reducible rfl
                  rotate_left
                  ·simp only [Act.put,List.setIfInBounds_toArray,List.set_cons_zero,List.set_cons_succ,i64_w,i32_w]
                   rfl
                  refine take_ (i :=1) (N :=some 69) (v :=?_) (a' :=?_) #[true,true,true,false,true,false,false,false,false,false,false] rfl rfl (take_ofW HT_.out HW_.out (by kernel_rfl)) (fun _ _ _ h => h) (Or.inl ⟨by rfl,?_⟩) hHeld ?_ ?_
                  rotate_left
                  ·rintro w' ⟨s0,s1,s2⟩
                   go_simp
                   with_reducible rfl
                  rotate_left
                  ·simp only [Act.put,List.setIfInBounds_toArray,List.set_cons_zero,List.set_cons_succ,i64_w,i32_w]
                   rfl
                  refine one_ (i :=3) (N :=some 71) #[true,true,true,true,true,false,false,false,false,false,false] rfl rfl (one_of HT_.out (by kernel_rfl)) (by decide) (fun K hK => ?_)
                  refine goes_ Try.func12 (by kernel_rfl) rfl #[.pointer (some ⟨g,0,none⟩)] (by rfl) rfl rfl (by (try simp only [List.map_toArray,List.map_cons,List.map_nil]);first | done | rfl | (simp only [List.length_drop,List.length_take];rfl)) ?_
                  with_reducible refine (pandectplay_Picks_Kind.calls g s0_0 x1001_5 t151 t152 w0 _ ?side1 ?side2 A66.out).mono ?_
                  (case side1 => repeat (first | (with_reducible first | exact HI0.out | apply IsS56.alloc | apply IsS56.drewN | apply IsS56.drew | apply IsS56.set_1 | refine IsS56.far ?_ NB0_125.out _ | refine IsS56.far ?_ NB0_126.out _ | refine IsS56.far ?_ NB0_145.out _) | exact HI0.out))
                  (case side2 => repeat (first | (with_reducible first | exact HB.out | apply below_alloc | apply pw_below_drewN | apply below_drew1 | refine below_set ?_ (IsS56.ge HI0.out) | refine below_set ?_ GE125.out | refine below_set ?_ GE126.out | refine below_set ?_ GE145.out) | exact HB.out))
                  rintro e w70 ⟨rfl,hi,hb,hk⟩
                  refine ⟨_,rfl,?_⟩
                  have n0_ :=Aside0.mk (Kd.R_mono (Kd.R_keep (IsS56.apart (show IsS56 w0 _ g s0_0 x1001_5 from by repeat (first | (with_reducible first | exact HI0.out | apply IsS56.alloc | apply IsS56.drewN | apply IsS56.drew | apply IsS56.set_1 | refine IsS56.far ?_ NB0_125.out _ | refine IsS56.far ?_ NB0_126.out _ | refine IsS56.far ?_ NB0_145.out _) | exact HI0.out)) (by (with_reducible repeat (first | apply Kd.R_alloc | apply Kd.R_drewN | apply Kd.R_drew));exact HO_127001.out) (by decide)) hk (fun _ h => h.2)) (fun _ h => h.1))
                  have n1_ :=Aside0.mk (Kd.S_mono (Kd.S_keep (IsS56.apartS (show IsS56 w0 _ g s0_0 x1001_5 from by repeat (first | (with_reducible first | exact HI0.out | apply IsS56.alloc | apply IsS56.drewN | apply IsS56.drew | apply IsS56.set_1 | refine IsS56.far ?_ NB0_125.out _ | refine IsS56.far ?_ NB0_126.out _ | refine IsS56.far ?_ NB0_145.out _) | exact HI0.out)) (by (with_reducible repeat (first | apply Kd.S_alloc | apply Kd.S_drewN | apply Kd.S_drew));exact HO_146002.out) (by decide)) hk (fun _ h => h.2)) (fun _ h => h.1))
                  have n2_ :=Aside0.mk (KeepBut.blk hk (g' :=gb125) (o :=.cells #[.string (⟨#[]⟩ : ByteArray),.slice none 0 0] 28 (0,0)) (by (with_reducible repeat (first | refine blk_drewN ?_ _ | refine blk_drew ?_ | refine blk_alloc ?_ _));exact BK125.out) NB125_0.out (by simp))
                  have n3_ :=Aside0.mk (KeepBut.blk hk (g' :=gb126) (o :=.cells #[.string x127000_2,.slice Ao58 x127001_2.length co58] 28 (0,0)) (by (with_reducible repeat (first | refine blk_drewN ?_ _ | refine blk_drew ?_ | refine blk_alloc ?_ _));exact BK126.out) NB126_0.out (by simp))
                  have n4_ :=Aside0.mk (KeepBut.blk hk (g' :=gb145) (o :=.cells #[.string t137,.int .i64 (rd y139 t142),u146002] 36 (0,0)) (by (with_reducible repeat (first | refine blk_drewN ?_ _ | refine blk_drew ?_ | refine blk_alloc ?_ _));exact BK145.out) NB145_0.out (by simp))
                  have n5_ :=Aside0.mk (KeepBut.trans (by repeat (first | (with_reducible first | exact HK.out | apply KeepBut.set_ | apply keep_drewN | apply keep_drew | apply keep_alloc | refine keep_far ?_ GW125.out _ | refine keep_far ?_ GW126.out _ | refine keep_far ?_ GW145.out _) | exact HK.out)) hk (.inl rfl))
                  have n6_ :=Aside0.mk (hb)
                  have n7_ :=Aside0.mk (hi)
                  clear HO_127001
                  clear HO_146002
                  clear BK125
                  clear BK126
                  clear BK145
                  clear HK
                  clear HB
                  clear HI0
                  have HO_127001 :=n0_
                  have HO_146002 :=n1_
                  have BK125 :=n2_
                  have BK126 :=n3_
                  have BK145 :=n4_
                  have HK :=n5_
                  have HB :=n6_
                  have HI0 :=n7_
                  clear n0_ n1_ n2_ n3_ n4_ n5_ n6_ n7_
                  (try clear hb)
                  (try clear hb2)
                  (try clear hk)
                  (try clear hi)
                  refine hK.out _ _ ⟨(blk_cell BK145.out 0).trans rfl,(blk_cell BK145.out 1).trans rfl,(blk_cell BK145.out 2).trans rfl⟩ (fun hHeld => ?_)
                  clear hK K
                  refine norm_ (a' :=?_) ?_ ?_
                  rotate_left
                  ·show Act.put _ (some 71) _ = _
                   simp only [Act.put,List.setIfInBounds_toArray,List.set_cons_zero,List.set_cons_succ,i64_w,i32_w]
                   rfl
                  refine one_ (i :=5) (N :=some 73) #[true,true,true,true,true,true,false,false,false,false,false] rfl rfl (one_of HT_.out (by kernel_rfl)) (by decide) (fun K hK => ?_)
                  refine goes_ Try.func13 (by kernel_rfl) rfl #[.pointer (some ⟨g,0,none⟩)] (by rfl) rfl rfl (by (try simp only [List.map_toArray,List.map_cons,List.map_nil]);first | done | rfl | (simp only [List.length_drop,List.length_take];rfl)) ?_
                  with_reducible refine (pandectplay_Picks_Data.calls k5 g s0_0 t152 t153 t156 w0 _ ?side1 ?side2 A67.out).mono ?_
                  (case side1 => repeat (first | (with_reducible first | exact HI0.out | apply IsS56.alloc | apply IsS56.drewN | apply IsS56.drew | apply IsS56.set_1 | refine IsS56.far ?_ NB0_125.out _ | refine IsS56.far ?_ NB0_126.out _ | refine IsS56.far ?_ NB0_145.out _) | exact HI0.out))
                  (case side2 => repeat (first | (with_reducible first | exact HB.out | apply below_alloc | apply pw_below_drewN | apply below_drew1 | refine below_set ?_ (IsS56.ge HI0.out) | refine below_set ?_ GE125.out | refine below_set ?_ GE126.out | refine below_set ?_ GE145.out) | exact HB.out))
                  rintro e w71 ⟨v154,rfl,ho0,hi,hb,hk⟩
                  refine ⟨_,rfl,?_⟩
                  have n0_ :=Aside0.mk (Kd.R_mono (Kd.R_told (Kd.R_oldK (IsS56.apart (show IsS56 w0 _ g s0_0 t152 from by repeat (first | (with_reducible first | exact HI0.out | apply IsS56.alloc | apply IsS56.drewN | apply IsS56.drew | apply IsS56.set_1 | refine IsS56.far ?_ NB0_125.out _ | refine IsS56.far ?_ NB0_126.out _ | refine IsS56.far ?_ NB0_145.out _) | exact HI0.out)) (by (with_reducible repeat (first | apply Kd.R_alloc | apply Kd.R_drewN | apply Kd.R_drew));exact HO_127001.out) (by decide)) hk) (Kd.R_base ho0)) (fun _ h_ => h_.1))
                  have n1_ :=Aside0.mk (Kd.S_mono (Kd.S_told (Kd.S_oldK (IsS56.apartS (show IsS56 w0 _ g s0_0 t152 from by repeat (first | (with_reducible first | exact HI0.out | apply IsS56.alloc | apply IsS56.drewN | apply IsS56.drew | apply IsS56.set_1 | refine IsS56.far ?_ NB0_125.out _ | refine IsS56.far ?_ NB0_126.out _ | refine IsS56.far ?_ NB0_145.out _) | exact HI0.out)) (by (with_reducible repeat (first | apply Kd.S_alloc | apply Kd.S_drewN | apply Kd.S_drew));exact HO_146002.out) (by decide)) hk) (Kd.R_base ho0)) (fun _ h_ => h_.1))
                  have n2_ :=Aside0.mk (KeepBut.blk hk (g' :=gb125) (o :=.cells #[.string (⟨#[]⟩ : ByteArray),.slice none 0 0] 28 (0,0)) (by (with_reducible repeat (first | refine blk_drewN ?_ _ | refine blk_drew ?_ | refine blk_alloc ?_ _));exact BK125.out) NB125_0.out (by simp))
                  have n3_ :=Aside0.mk (KeepBut.blk hk (g' :=gb126) (o :=.cells #[.string x127000_2,.slice Ao58 x127001_2.length co58] 28 (0,0)) (by (with_reducible repeat (first | refine blk_drewN ?_ _ | refine blk_drew ?_ | refine blk_alloc ?_ _));exact BK126.out) NB126_0.out (by simp))
                  have n4_ :=Aside0.mk (KeepBut.blk hk (g' :=gb145) (o :=.cells #[.string t137,.int .i64 (rd y139 t142),u146002] 36 (0,0)) (by (with_reducible repeat (first | refine blk_drewN ?_ _ | refine blk_drew ?_ | refine blk_alloc ?_ _));exact BK145.out) NB145_0.out (by simp))
                  have n5_ :=Aside0.mk (Kd.R_lower ho0 (keep_size (w :=w) (g :=g) (row :=none) (by repeat (first | (with_reducible first | exact HK.out | apply KeepBut.set_ | apply keep_drewN | apply keep_drew | apply keep_alloc | refine keep_far ?_ GW125.out _ | refine keep_far ?_ GW126.out _ | refine keep_far ?_ GW145.out _) | exact HK.out))))
                  have n6_ :=Aside0.mk (KeepBut.trans (by repeat (first | (with_reducible first | exact HK.out | apply KeepBut.set_ | apply keep_drewN | apply keep_drew | apply keep_alloc | refine keep_far ?_ GW125.out _ | refine keep_far ?_ GW126.out _ | refine keep_far ?_ GW145.out _) | exact HK.out)) hk (.inl rfl))
                  have n7_ :=Aside0.mk (hb)
                  have n8_ :=Aside0.mk (hi)
                  clear HO_127001
                  clear HO_146002
                  clear BK125
                  clear BK126
                  clear BK145
                  clear HK
                  clear HB
                  clear HI0
                  have HO_127001 :=n0_
                  have HO_146002 :=n1_
                  have BK125 :=n2_
                  have BK126 :=n3_
                  have BK145 :=n4_
                  have HO155 :=n5_
                  have HK :=n6_
                  have HB :=n7_
                  have HI0 :=n8_
                  clear n0_ n1_ n2_ n3_ n4_ n5_ n6_ n7_ n8_
                  (try clear hb)
                  (try clear hb2)
                  (try clear hk)
                  (try clear hi)
                  (try clear ho0)
                  obtain ⟨Ao72,co72,eo72⟩ :=Kd.R_slice HO155.out
                  (first | subst eo72 | (injection eo72 with f1_ f2_ f3_;have f4_ :=f1_.symm;have f5_ :=f3_.symm;clear f1_ f2_ f3_;subst f4_;subst f5_))
                  refine hK.out _ _ ⟨(blk_cell BK145.out 0).trans rfl,(blk_cell BK145.out 1).trans rfl,(blk_cell BK145.out 2).trans rfl⟩ (fun hHeld => ?_)
                  clear hK K
                  refine norm_ (a' :=?_) ?_ ?_
                  rotate_left
                  ·show Act.put _ (some 73) _ = _
                   simp only [Act.put,List.setIfInBounds_toArray,List.set_cons_zero,List.set_cons_succ,i64_w,i32_w]
                   rfl
                  refine pure_ (i :=6) (N :=some 74) (v :=?_) (a' :=?_) #[true,true,true,true,true,true,true,false,false,false,false] rfl rfl (any_of HT_.out (by kernel_rfl)) (fun _ _ _ h => h) (Or.inl ⟨by rfl,?_⟩) ?_ ?_
                  rotate_left
                  ·intro w'
                   go_simp
                   with_reducible rfl
                  rotate_left
                  ·simp only [Act.put,List.setIfInBounds_toArray,List.set_cons_zero,List.set_cons_succ,i64_w,i32_w]
                   rfl
                  refine one_ (i :=7) (N :=some 75) #[true,true,true,true,true,true,true,true,false,false,false] rfl rfl (one_of HT_.out (by kernel_rfl)) (by decide) (fun K hK => ?_)
                  refine value_ (w1 :=?_) (v :=?_) (by rfl) rfl ?_ ?_
                  rotate_left 2
                  ·go_simp
                   constructor
                   ·rfl
                   ·rfl
                  refine hK.out _ _ ⟨(blk_cell (blk_alloc BK145.out _) 0).trans rfl,(blk_cell (blk_alloc BK145.out _) 1).trans rfl,(blk_cell (blk_alloc BK145.out _) 2).trans rfl⟩ (fun hHeld => ?_)
                  clear hK K
                  refine norm_ (a' :=?_) ?_ ?_
                  rotate_left
                  ·show Act.put _ (some 75) _ = _
                   simp only [Act.put,List.setIfInBounds_toArray,List.set_cons_zero,List.set_cons_succ,i64_w,i32_w]
                   rfl
                  refine one_ (i :=8) (N :=some 76) #[true,true,true,true,true,true,true,true,true,false,false] rfl rfl (one_of HT_.out (by kernel_rfl)) (by decide) (fun K hK => ?_)
                  refine Kd.S_append_step k49 w.heap.size (by rfl) (.tmp 69) (.tmp 75) 34 49 (.agg #[(.string ⟨#[]⟩),(.slice none 0 0)]) 40 rfl Try.underlying34 info49 rfl (by decide) (by omega) u146002 x146002_5 (⟨t151,t153⟩ : S49) [.string t151,.slice Ao72 t153.length co72] (fun _ => True) (fun k_ => some k_ = (.slice Ao72 t153.length co72 : Value).ownBlock) rfl rfl ?aP (fun k_ hk_ => ((Kd.R_mono (ok' :=fun k_ => ((fun _ => True)) k_ ∧ some k_ ≠ (u146002 : Value).ownBlock) (Kd.R_apart' (HO155.out) (Kd.S_typed HO_146002.out) (by decide)) (fun k_ hk => ⟨trivial,hk.2⟩))).1 k_ hk_.symm) ?aF ?aO (Below.refl _ _) ?aS ?aL ?_
                  (case aP => exact k49_mkM _ _ _ (⟨t151,t153⟩ : S49) (Kd.R_mono (Kd.R_tight rfl (Kd.R_mono (ok' :=fun k_ => ((fun _ => True)) k_ ∧ some k_ ≠ (u146002 : Value).ownBlock) (Kd.R_apart' (HO155.out) (Kd.S_typed HO_146002.out) (by decide)) (fun k_ hk => ⟨trivial,hk.2⟩))) (fun _ h_ => h_)))
                  (case aF => exact (fun _ _ => trivial))
                  (case aO => exact (by (with_reducible repeat (first | apply Kd.S_alloc | apply Kd.S_drewN | apply Kd.S_drew));exact Kd.S_mono HO_146002.out (fun k_ hk => ⟨trivial,fun e_ => hk.2 e_⟩)))
                  (case aS => exact (keep_size (w :=w) (g :=g) (row :=none) (by repeat (first | (with_reducible first | exact HK.out | apply KeepBut.set_ | apply keep_drewN | apply keep_drew | apply keep_alloc | refine keep_far ?_ GW125.out _ | refine keep_far ?_ GW126.out _ | refine keep_far ?_ GW145.out _) | exact HK.out))))
                  (case aL => have :=LMc68.out;omega)
                  intro v158 w73 ho hb hg hat
                  rw [← Ny157.out] at ho
                  have n0_ :=Aside0.mk (Kd.R_after (ok :=(fun k_ => some k_ ≠ (.slice Ao72 t153.length co72 : Value).ownBlock ∧ k_ ≠ gb145)) (by (with_reducible repeat (first | apply Kd.R_alloc | apply Kd.R_drewN | apply Kd.R_drew));exact Kd.R_mono HO_127001.out (fun _ hk => ⟨⟨hk.2,hk.1.2⟩,hk.1.1⟩)) hg hat)
                  have n1_ :=Aside0.mk (blk_grown (g :=gb125) (o :=.cells #[.string (⟨#[]⟩ : ByteArray),.slice none 0 0] 28 (0,0)) (by (with_reducible repeat (first | refine blk_drewN ?_ _ | refine blk_drew ?_ | refine blk_alloc ?_ _));exact BK125.out) hg (Kd.S_ne HO_146002.out BK125.out (by decide)))
                  have n2_ :=Aside0.mk (blk_grown (g :=gb126) (o :=.cells #[.string x127000_2,.slice Ao58 x127001_2.length co58] 28 (0,0)) (by (with_reducible repeat (first | refine blk_drewN ?_ _ | refine blk_drew ?_ | refine blk_alloc ?_ _));exact BK126.out) hg (Kd.S_ne HO_146002.out BK126.out (by decide)))
                  have n3_ :=Aside0.mk (blk_grown (g :=gb145) (o :=.cells #[.string t137,.int .i64 (rd y139 t142),u146002] 36 (0,0)) (by (with_reducible repeat (first | refine blk_drewN ?_ _ | refine blk_drew ?_ | refine blk_alloc ?_ _));exact BK145.out) hg (Kd.S_ne HO_146002.out BK145.out (by decide)))
                  have n4_ :=Aside0.mk (IsS56.grown (by repeat (first | (with_reducible first | exact HI0.out | apply IsS56.alloc | apply IsS56.drewN | apply IsS56.drew | apply IsS56.set_1 | refine IsS56.far ?_ NB0_125.out _ | refine IsS56.far ?_ NB0_126.out _ | refine IsS56.far ?_ NB0_145.out _) | exact HI0.out)) hg (IsS56.own_neS HI0.out HO_146002.out (by decide)))
                  have n5_ :=Aside0.mk (below_weaken (by repeat (first | (with_reducible first | exact HB.out | apply below_alloc | apply pw_below_drewN | apply below_drew1 | refine below_set ?_ (IsS56.ge HI0.out) | refine below_set ?_ GE125.out | refine below_set ?_ GE126.out | refine below_set ?_ GE145.out) | exact HB.out)) HL.out hb)
                  have n6_ :=Aside0.mk (KeepBut.trans (by repeat (first | (with_reducible first | exact HK.out | apply KeepBut.set_ | apply keep_drewN | apply keep_drew | apply keep_alloc | refine keep_far ?_ GW125.out _ | refine keep_far ?_ GW126.out _ | refine keep_far ?_ GW145.out _) | exact HK.out)) (KeepBut.of_grown hg g) (Kd.S_base2 HO_146002.out))
                  have n7_ :=Aside0.mk (ho)
                  clear HO_127001
                  clear BK125
                  clear BK126
                  clear BK145
                  clear HI0
                  clear HB
                  clear HK
                  clear HO_146002
                  clear HO155
                  have HO_127001 :=n0_
                  have BK125 :=n1_
                  have BK126 :=n2_
                  have BK145 :=n3_
                  have HI0 :=n4_
                  have HB :=n5_
                  have HK :=n6_
                  have HO159 :=n7_
                  clear n0_ n1_ n2_ n3_ n4_ n5_ n6_ n7_
                  clear ho hb hg hat
                  obtain ⟨Ao74,co74,eo74⟩ :=Kd.S_slice HO159.out
                  (first | subst eo74 | (injection eo74 with f1_ f2_ f3_;have f4_ :=f1_.symm;have f5_ :=f3_.symm;clear f1_ f2_ f3_;subst f4_;subst f5_))
                  refine hK.out _ _ ⟨(blk_cell BK145.out 0).trans rfl,(blk_cell BK145.out 1).trans rfl,(blk_cell BK145.out 2).trans rfl⟩ (fun hHeld => ?_)
                  clear hK K
                  refine norm_ (a' :=?_) ?_ ?_
                  rotate_left
                  ·show Act.put _ (some 76) _ = _
                   simp only [Act.put,List.setIfInBounds_toArray,List.set_cons_zero,List.set_cons_succ,i64_w,i32_w]
                   rfl
                  refine pure_ (i :=9) (N :=some 77) (v :=?_) (a' :=?_) #[true,true,true,true,true,true,true,true,true,true,false] rfl rfl (any_of HT_.out (by kernel_rfl)) (fun _ _ _ h => h) (Or.inl ⟨by rfl,?_⟩) ?_ ?_
                  rotate_left
                  ·intro w'
                   go_simp
                   with_reducible rfl
                  rotate_left
                  ·simp only [Act.put,List.setIfInBounds_toArray,List.set_cons_zero,List.set_cons_succ,i64_w,i32_w]
                   rfl
                  refine last_ (i :=10) (N :=none) #[true,true,true,true,true,true,true,true,true,true,true] rfl rfl (one_of HT_.out (by kernel_rfl)) (by decide) (fun K hK => ?_)
                  have hs75 : w73.cell? ⟨gb145,2,none⟩ = some (u146002) :=(blk_cell BK145.out 2).trans rfl
                  have hfs75 :=blk_frozen BK145.out 2
                  have hns75_0 :=NB125_145.out
                  have hns75_1 :=NB126_145.out
                  have hms75_0 :=NB145_125.out
                  have hms75_1 :=NB145_126.out
                  refine skip_ (w1 :=?_) (by rfl) rfl ?_ ?_
                  rotate_left
                  ·go_simp
                   rfl
                  refine hK.out _ _ ?_
                  clear hK K
                  refine done_ (done_of HT_.out (by kernel_rfl)) ?_
                  try go_wp2
                  go_roundg k5
                  case measure => have :=HJ2.out;have :=HK2.out;have :=HK3.out;have :=HJ52.out;have :=HK5.out;omega
                  case rel => exact ⟨(wrap64 (x9_5 - 1)),(t156),(y157),(.slice Ao74 y157.length co74),(by first | rfl | (simp;done) | (simp [*];done)),H',⟨by have :=HJ2.out;have :=HK2.out;have :=HK3.out;have :=HJ52.out;have :=HK5.out;omega⟩,⟨by (with_reducible repeat (first | apply Kd.R_alloc | apply Kd.R_drewN | apply Kd.R_drew));exact Kd.R_mono (Kd.R_far (p :=⟨gb145,2,none⟩) (Kd.R_mono HO_127001.out (fun k_ hk => (⟨hk,hk.1.2⟩ : _ ∧ k_ ≠ gb145))) (fun _ hk => hk.2) (.slice Ao74 y157.length co74)) (fun _ hk => ⟨hk.1.2,hk.1.1.2⟩)⟩,⟨by (with_reducible repeat (first | apply Kd.S_alloc | apply Kd.S_drewN | apply Kd.S_drew));exact Kd.S_mono (Kd.S_far (p :=⟨gb145,2,none⟩) (Kd.S_types HO159.out BK145.out (by decide)) (fun _ hk => hk.2) (.slice Ao74 y157.length co74)) (fun _ hk => trivial)⟩,⟨by (with_reducible repeat (first | refine blk_drewN ?_ _ | refine blk_drew ?_ | refine blk_alloc ?_ _));refine blk_far ?_ NB125_145.out _;(with_reducible repeat (first | refine blk_drewN ?_ _ | refine blk_drew ?_ | refine blk_alloc ?_ _));exact BK125.out⟩,⟨by (with_reducible repeat (first | refine blk_drewN ?_ _ | refine blk_drew ?_ | refine blk_alloc ?_ _));refine blk_far ?_ NB126_145.out _;(with_reducible repeat (first | refine blk_drewN ?_ _ | refine blk_drew ?_ | refine blk_alloc ?_ _));exact BK126.out⟩,⟨by (with_reducible repeat (first | refine blk_drewN ?_ _ | refine blk_drew ?_ | refine blk_alloc ?_ _));refine blk_put (cs :=#[.string t137,.int .i64 (rd y139 t142),u146002]) ?_ 2 _ rfl;(with_reducible repeat (first | refine blk_drewN ?_ _ | refine blk_drew ?_ | refine blk_alloc ?_ _));exact BK145.out⟩,⟨by repeat (first | (with_reducible first | exact HI0.out | apply IsS56.alloc | apply IsS56.drewN | apply IsS56.drew | apply IsS56.set_1 | refine IsS56.far ?_ NB0_125.out _ | refine IsS56.far ?_ NB0_126.out _ | refine IsS56.far ?_ NB0_145.out _) | exact HI0.out)⟩,⟨by repeat (first | (with_reducible first | exact HK.out | apply KeepBut.set_ | apply keep_drewN | apply keep_drew | apply keep_alloc | refine keep_far ?_ GW125.out _ | refine keep_far ?_ GW126.out _ | refine keep_far ?_ GW145.out _) | exact HK.out)⟩,⟨by repeat (first | (with_reducible first | exact HB.out | apply below_alloc | apply pw_below_drewN | apply below_drew1 | refine below_set ?_ (IsS56.ge HI0.out) | refine below_set ?_ GE125.out | refine below_set ?_ GE126.out | refine below_set ?_ GE145.out) | exact HB.out)⟩⟩
                 ·rw [if_neg c68] at H
                  exact absurd H (by simp)
                ·rw [if_neg c65] at H
                 have c65b0 : decide (0 < x9_5) = false :=decide_eq_false c65
                 clear c65
                 by_cases c76 : x127001_2.length < 2932031007402
                 ·rw [if_pos c76] at H
                  have LMc76 :=Aside0.mk c76
                  clear c76
                  obtain ⟨y160,hy160⟩ : ∃ y_ : List (S36),y_ = (x127001_2 ++ [(⟨t137,(rd y139 t142),x146002_5⟩ : S36)]) :=⟨_,rfl⟩
                  replace H : (pandectplay_Picks_Commit.l0 k5 (wrap64 (x4_2 + 1)) (wrap64 (1 + t135)) s0_0 x1001_5 x127000_2 y160) = some (r1,r2,r3) :=by first | (rw [hy160];with_reducible exact H) | (have H2_ :=(Option.bind_some _ _).symm.trans H;rw [hy160];with_reducible exact H2_) | (have H2_ :=(Option.bind_some _ _).symm.trans H;with_reducible exact H2_) | with_reducible exact H | (rw [hy160];exact H) | exact H
                  have Ny160 :=Aside0.mk hy160
                  clear hy160
                  have H' :=Aside0.mk H
                  clear H
                  have hnb77 :=NB126_125.out
                  have hnc77 :=NB125_126.out
                  have hnb78 :=NB126_145.out
                  have hnc78 :=NB145_126.out
                  have hnb79 :=NB126_0.out
                  have hnc79 :=NB0_126.out
                  have hcz80_0 : wr.cell? ⟨gb126,0,none⟩ = some (.string x127000_2) :=(blk_cell BK126.out 0).trans rfl
                  have hcz80_1 : wr.cell? ⟨gb126,1,none⟩ = some (.slice Ao58 x127001_2.length co58) :=(blk_cell BK126.out 1).trans rfl
                  have hfz80_0 :=blk_frozen BK126.out 0
                  have hfz80_1 :=blk_frozen BK126.out 1
                  have hnb81 :=NB145_125.out
                  have hnc81 :=NB125_145.out
                  have hnb82 :=NB145_0.out
                  have hnc82 :=NB0_145.out
                  have hcz83_0 : wr.cell? ⟨gb145,0,none⟩ = some (.string t137) :=(blk_cell BK145.out 0).trans rfl
                  have hcz83_1 : wr.cell? ⟨gb145,1,none⟩ = some (.int .i64 (rd y139 t142)) :=(blk_cell BK145.out 1).trans rfl
                  have hcz83_2 : wr.cell? ⟨gb145,2,none⟩ = some (u146002) :=(blk_cell BK145.out 2).trans rfl
                  have hfz83_0 :=blk_frozen BK145.out 0
                  have hfz83_1 :=blk_frozen BK145.out 1
                  have hfz83_2 :=blk_frozen BK145.out 2
                  obtain ⟨Ao85,co85,eo85⟩ :=Kd.S_slice HO_146002.out
                  subst eo85
                  go_wp2_with (first | ((with_reducible refine gate_builtin (b :=.append) (xs :=#[.tmp 79,.tmp 81]) rfl ?_);at_builtin;refine Kd.R_append k36 w.heap.size rfl (.tmp 79) (.tmp 81) 26 36 (.agg #[(.string ⟨#[]⟩),(.int .i64 0),(.slice none 0 0)]) 48 rfl Try.underlying26 info36 rfl (by decide) (by omega) (.slice Ao58 x127001_2.length co58) x127001_2 (⟨t137,(rd y139 t142),x146002_5⟩ : S36) [.string t137,.int .i64 (rd y139 t142),.slice Ao85 x146002_5.length co85] (fun k_ => k_ ≠ gb145) (fun k_ => ((fun k_ => k_ ≠ gb145)) k_ ∧ some k_ ≠ (.slice Ao58 x127001_2.length co58 : Value).ownBlock) rfl rfl ?aP (fun _ hk => hk) ?aF ?aO (Below.refl _ _) ?aS ?aL ?_;(case aP => exact k36_mkM _ _ _ (⟨t137,(rd y139 t142),x146002_5⟩ : S36) (Kd.R_mono (Kd.R_types (Kd.R_apart' ((Kd.S_R HO_146002.out)) (Kd.R_typed HO_127001.out) (by decide)) BK145.out (by decide)) (fun k_ hk => ⟨hk.2,hk.1.2⟩)));(case aF => exact (fun k_ hk => Kd.freshB (g :=gb145) (o :=.cells #[.string t137,.int .i64 (rd y139 t142),.slice Ao85 x146002_5.length co85] 36 (0,0)) (by (with_reducible repeat (first | refine blk_drewN ?_ _ | refine blk_drew ?_ | refine blk_alloc ?_ _));exact BK145.out) k_ hk));(case aO => exact (by (with_reducible repeat (first | apply Kd.R_alloc | apply Kd.R_drewN | apply Kd.R_drew));exact Kd.R_mono HO_127001.out (fun _ hk => hk.2)));(case aS => exact (keep_size (w :=w) (g :=g) (row :=none) (by repeat (first | (with_reducible first | exact HK.out | apply KeepBut.set_ | apply keep_drewN | apply keep_drew | apply keep_alloc | refine keep_far ?_ GW125.out _ | refine keep_far ?_ GW126.out _ | refine keep_far ?_ GW145.out _) | exact HK.out))));(case aL => have :=LMc76.out;omega);intro v161 w84 ho hb hg hat;rw [← Ny160.out] at ho;have n0_ :=Aside0.mk (blk_grown (g :=gb125) (o :=.cells #[.string (⟨#[]⟩ : ByteArray),.slice none 0 0] 28 (0,0)) (by (with_reducible repeat (first | refine blk_drewN ?_ _ | refine blk_drew ?_ | refine blk_alloc ?_ _));exact BK125.out) hg (Kd.R_ne HO_127001.out BK125.out (by decide)));have n1_ :=Aside0.mk (blk_grown (g :=gb126) (o :=.cells #[.string x127000_2,.slice Ao58 x127001_2.length co58] 28 (0,0)) (by (with_reducible repeat (first | refine blk_drewN ?_ _ | refine blk_drew ?_ | refine blk_alloc ?_ _));exact BK126.out) hg (Kd.R_ne HO_127001.out BK126.out (by decide)));have n2_ :=Aside0.mk (blk_grown (g :=gb145) (o :=.cells #[.string t137,.int .i64 (rd y139 t142),.slice Ao85 x146002_5.length co85] 36 (0,0)) (by (with_reducible repeat (first | refine blk_drewN ?_ _ | refine blk_drew ?_ | refine blk_alloc ?_ _));exact BK145.out) hg (Kd.R_away HO_127001.out (fun _ hk => hk.2)));have n3_ :=Aside0.mk (IsS56.grown (by repeat (first | (with_reducible first | exact HI0.out | apply IsS56.alloc | apply IsS56.drewN | apply IsS56.drew | apply IsS56.set_1 | refine IsS56.far ?_ NB0_125.out _ | refine IsS56.far ?_ NB0_126.out _ | refine IsS56.far ?_ NB0_145.out _) | exact HI0.out)) hg (IsS56.own_ne HI0.out HO_127001.out (by decide)));have n4_ :=Aside0.mk (below_weaken (by repeat (first | (with_reducible first | exact HB.out | apply below_alloc | apply pw_below_drewN | apply below_drew1 | refine below_set ?_ (IsS56.ge HI0.out) | refine below_set ?_ GE125.out | refine below_set ?_ GE126.out | refine below_set ?_ GE145.out) | exact HB.out)) HL.out hb);have n5_ :=Aside0.mk (KeepBut.trans (by repeat (first | (with_reducible first | exact HK.out | apply KeepBut.set_ | apply keep_drewN | apply keep_drew | apply keep_alloc | refine keep_far ?_ GW125.out _ | refine keep_far ?_ GW126.out _ | refine keep_far ?_ GW145.out _) | exact HK.out)) (KeepBut.of_grown hg g) (Kd.R_base2 HO_127001.out));have n6_ :=Aside0.mk (ho);clear BK125;clear BK126;clear BK145;clear HI0;clear HB;clear HK;clear HO_127001;clear HO_146002;have BK125 :=n0_;have BK126 :=n1_;have BK145 :=n2_;have HI0 :=n3_;have HB :=n4_;have HK :=n5_;have HO162 :=n6_;clear n0_ n1_ n2_ n3_ n4_ n5_ n6_;clear ho hb hg hat;obtain ⟨Ao86,co86,eo86⟩ :=Kd.R_slice HO162.out;subst eo86;have hcz87_0 : w84.cell? ⟨gb126,0,none⟩ = some (.string x127000_2) :=(blk_cell BK126.out 0).trans rfl;have hcz87_1 : w84.cell? ⟨gb126,1,none⟩ = some (.slice Ao58 x127001_2.length co58) :=(blk_cell BK126.out 1).trans rfl;have hfz87_0 :=blk_frozen BK126.out 0;have hfz87_1 :=blk_frozen BK126.out 1))
                  go_roundg k5
                  case measure => have :=HJ2.out;have :=HK2.out;have :=HK3.out;have :=HJ52.out;have :=HK5.out;omega
                  case rel => exact ⟨(wrap64 (x4_2 + 1)),(x1001_5),(y160),(.slice Ao86 y160.length co86),(by first | rfl | (simp;done) | (simp [*];done)),H',⟨by have :=HJ2.out;have :=HK2.out;have :=HK3.out;have :=HJ52.out;have :=HK5.out;omega⟩,⟨by (with_reducible repeat (first | apply Kd.R_alloc | apply Kd.R_drewN | apply Kd.R_drew));exact Kd.R_mono (Kd.R_far (p :=⟨gb126,1,none⟩) (Kd.R_types HO162.out BK126.out (by decide)) (fun _ hk => hk.2) (.slice Ao86 y160.length co86)) (fun _ hk => trivial)⟩,⟨by (with_reducible repeat (first | refine blk_drewN ?_ _ | refine blk_drew ?_ | refine blk_alloc ?_ _));refine blk_far ?_ NB125_126.out _;(with_reducible repeat (first | refine blk_drewN ?_ _ | refine blk_drew ?_ | refine blk_alloc ?_ _));exact BK125.out⟩,⟨by (with_reducible repeat (first | refine blk_drewN ?_ _ | refine blk_drew ?_ | refine blk_alloc ?_ _));refine blk_put (cs :=#[.string x127000_2,.slice Ao58 x127001_2.length co58]) ?_ 1 _ rfl;(with_reducible repeat (first | refine blk_drewN ?_ _ | refine blk_drew ?_ | refine blk_alloc ?_ _));exact BK126.out⟩,⟨by repeat (first | (with_reducible first | exact HI0.out | apply IsS56.alloc | apply IsS56.drewN | apply IsS56.drew | apply IsS56.set_1 | refine IsS56.far ?_ NB0_125.out _ | refine IsS56.far ?_ NB0_126.out _ | refine IsS56.far ?_ NB0_145.out _) | exact HI0.out)⟩,⟨by repeat (first | (with_reducible first | exact HK.out | apply KeepBut.set_ | apply keep_drewN | apply keep_drew | apply keep_alloc | refine keep_far ?_ GW125.out _ | refine keep_far ?_ GW126.out _ | refine keep_far ?_ GW145.out _) | exact HK.out)⟩,⟨by repeat (first | (with_reducible first | exact HB.out | apply below_alloc | apply pw_below_drewN | apply below_drew1 | refine below_set ?_ (IsS56.ge HI0.out) | refine below_set ?_ GE125.out | refine below_set ?_ GE126.out | refine below_set ?_ GE145.out) | exact HB.out)⟩⟩
                 ·rw [if_neg c76] at H
                  exact absurd H (by simp)
       ·rw [if_neg c27] at H
        exact absurd H (by simp)
      ·rw [if_neg c26] at H
       exact absurd H (by simp)
     ·rw [if_neg c23] at H
      have c23b0 : decide (x4_2 < (wrap64 (1 + t135))) = false :=decide_eq_false c23
      clear c23
      simp only [Option.some.injEq,Prod.mk.injEq] at H
      obtain ⟨rfl,rfl,rfl⟩ :=H
      have hnb88 :=NB126_125.out
      have hnc88 :=NB125_126.out
      have hnb89 :=NB126_0.out
      have hnc89 :=NB0_126.out
      have hcz90_0 : wr.cell? ⟨gb126,0,none⟩ = some (.string x127000_2) :=(blk_cell BK126.out 0).trans rfl
      have hcz90_1 : wr.cell? ⟨gb126,1,none⟩ = some (u127001) :=(blk_cell BK126.out 1).trans rfl
      have hfz90_0 :=blk_frozen BK126.out 0
      have hfz90_1 :=blk_frozen BK126.out 1
      have hnb91 :=NB125_0.out
      have hnc91 :=NB0_125.out
      have hcz92_0 : wr.cell? ⟨gb125,0,none⟩ = some (.string (⟨#[]⟩ : ByteArray)) :=(blk_cell BK125.out 0).trans rfl
      have hcz92_1 : wr.cell? ⟨gb125,1,none⟩ = some (.slice none 0 0) :=(blk_cell BK125.out 1).trans rfl
      have hfz92_0 :=blk_frozen BK125.out 0
      have hfz92_1 :=blk_frozen BK125.out 1
      obtain ⟨Ao93,co93,eo93⟩ :=Kd.R_slice HO_127001.out
      subst eo93
      go_wp2
      refine bodyPost_ret (results_cell_row rfl _ _ gb125 28 #[.string x127000_2,.slice Ao93 x127001_2.length co93] (0,0) _ rfl (by (with_reducible repeat (first | refine blk_drewN ?_ _ | refine blk_drew ?_ | refine blk_alloc ?_ _));refine blk_put (cs :=#[.string x127000_2,.slice none 0 0]) ?_ 1 _ rfl;(with_reducible repeat (first | refine blk_drewN ?_ _ | refine blk_drew ?_ | refine blk_alloc ?_ _));refine blk_put (cs :=#[.string (⟨#[]⟩ : ByteArray),.slice none 0 0]) ?_ 0 _ rfl;(with_reducible repeat (first | refine blk_drewN ?_ _ | refine blk_drew ?_ | refine blk_alloc ?_ _));exact BK125.out) Try.underlying28 rfl (by kernel_rfl)) rfl ?_
      exact ⟨_,by first | rfl | (simp [errW_none,errW_some] <;> rfl) | (simp [*,errW_none,errW_some] <;> rfl),by (with_reducible repeat (first | apply Kd.R_alloc | apply Kd.R_drewN | apply Kd.R_drew));exact Kd.R_mono (Kd.R_far (p :=⟨gb125,1,none⟩) (Kd.R_far (p :=⟨gb125,0,none⟩) (Kd.R_types HO_127001.out BK125.out (by decide)) (fun _ hk => hk.2) (.string x127000_2)) (fun _ hk => hk.2) (.slice Ao93 x127001_2.length co93)) (fun _ hk => trivial),by repeat (first | (with_reducible first | exact HI0.out | apply IsS56.alloc | apply IsS56.drewN | apply IsS56.drew | apply IsS56.set_1 | refine IsS56.far ?_ NB0_125.out _ | refine IsS56.far ?_ NB0_126.out _) | exact HI0.out),by repeat (first | (with_reducible first | exact HB.out | apply below_alloc | apply pw_below_drewN | apply below_drew1 | refine below_set ?_ (IsS56.ge HI0.out) | refine below_set ?_ GE125.out | refine below_set ?_ GE126.out) | exact HB.out),by repeat (first | (with_reducible first | exact HK.out | apply KeepBut.set_ | apply keep_drewN | apply keep_drew | apply keep_alloc | refine keep_far ?_ GW125.out _ | refine keep_far ?_ GW126.out _) | exact HK.out)⟩
end Go.Proofs.Ytfelkchmeiijfaa.P2
