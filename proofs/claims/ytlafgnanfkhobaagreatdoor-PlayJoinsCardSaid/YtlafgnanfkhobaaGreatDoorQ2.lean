-- Written for this claim by a program, out of the translation.
import Derived.Test.YtlafgnanfkhobaaGreatDoorQ0
import Derived.Test.YtlafgnanfkhobaaGreatDoorQ1
namespace Go.Proofs.YtlafgnanfkhobaaGreatDoor.P2
open Go.RowKit Go.Proofs.YtlafgnanfkhobaaGreatDoorW.PrintWords Go.Proofs.YtlafgnanfkhobaaGreatDoorW.PrintLast Go.Proofs.YtlafgnanfkhobaaGreatDoorW.PrintMore
attribute [local go_sem] max2_int min2_int max_two min_two max_three min_three max_four min_four
set_option linter.unusedVariables false
set_option linter.unusedSimpArgs false
mutual
def play_reader_commit.l0 : Nat → Int → ByteArray → Bool → ByteArray → List (S83) → Option (ByteArray × (List (S83)) × ByteArray × Bool)
 | 0,_,_,_,_,_ => none
 | k + 1,x5,x1000,x1001,x116000,x116001 => if x5 > 0 then ((play_reader_text.f k x1000 x1001).bind fun bt124 => ((play_reader_num.f k bt124.2.1 bt124.2.2 8).bind fun bt129 => ((play_reader_num.f k bt129.2.1 bt129.2.2 1).bind fun bt133 => (play_reader_commit.l1 k x5 (Int.tmod bt133.1 7) bt133.2.1 bt133.2.2 x116000 x116001 (strOfNums bt124.1) (wrap64 (bt129.1)) ([] : List (S85)))))) else (some (x116000,x116001,x1000,x1001))
def play_reader_commit.l1 : Nat → Int → Int → ByteArray → Bool → ByteArray → List (S83) → ByteArray → Int → List (S85) → Option (ByteArray × (List (S83)) × ByteArray × Bool)
 | 0,_,_,_,_,_,_,_,_,_ => none
 | k + 1,x5,x7,x1000,x1001,x116000,x116001,x133000,x133001,x133002 => if x7 > 0 then ((play_reader_text.f k x1000 x1001).bind fun bt136 => ((play_reader_text.f k bt136.2.1 bt136.2.2).bind fun bt141 => (if x133002.length < 3518437208883 then (play_reader_commit.l1 k x5 (IntKind.u64.wrap (x7 - 1)) bt141.2.1 bt141.2.2 x116000 x116001 x133000 x133001 (x133002 ++ [(⟨strOfNums bt136.1,bt141.1⟩ : S85)])) else (none)))) else (if x116001.length < 2932031007402 then (play_reader_commit.l0 k (IntKind.u64.wrap (x5 - 1)) x1000 x1001 x116000 (x116001 ++ [(⟨x133000,x133001,x133002⟩ : S83)])) else (none))
end
def play_reader_commit.f (k : Nat) (s0_0 : ByteArray) (s0_1 : Bool) : Option (ByteArray × (List (S83)) × ByteArray × Bool) :=(play_reader_text.f k s0_0 s0_1).bind fun bt116 => ((play_reader_num.f k bt116.2.1 bt116.2.2 1).bind fun bt121 => (play_reader_commit.l0 k (Int.tmod bt121.1 6) bt121.2.1 bt121.2.2 (strOfNums bt116.1) ([] : List (S83))))
theorem play_reader_commit.mono_l : ∀ k,(∀ y0 y1 y2 y3 y4,LeO (play_reader_commit.l0 k y0 y1 y2 y3 y4) (play_reader_commit.l0 (k + 1) y0 y1 y2 y3 y4)) ∧ (∀ y0 y1 y2 y3 y4 y5 y6 y7 y8,LeO (play_reader_commit.l1 k y0 y1 y2 y3 y4 y5 y6 y7 y8) (play_reader_commit.l1 (k + 1) y0 y1 y2 y3 y4 y5 y6 y7 y8))
 | 0 => ⟨fun _ _ _ _ _ r h => by simp [play_reader_commit.l0] at h,fun _ _ _ _ _ _ _ _ _ r h => by simp [play_reader_commit.l1] at h⟩
 | k + 1 => by
  obtain ⟨ih0,ih1⟩ :=play_reader_commit.mono_l k
  refine ⟨?_,?_⟩
  ·intro y0 y1 y2 y3 y4
   unfold play_reader_commit.l0
   repeat' first
   | (with_reducible exact ih0 _ _ _ _ _)
   | (with_reducible exact ih1 _ _ _ _ _ _ _ _ _)
   | (with_reducible exact play_reader_num.mono _ _ _ _)
   | (with_reducible exact play_reader_text.mono _ _ _)
   | (with_reducible exact LeO.refl _)
   | (with_reducible exact LeO.none _)
   | (with_reducible refine LeO.ite ?_ ?_)
   | (with_reducible refine LeO.bind ?_ (fun _ => ?_))
   | exact ih0 _ _ _ _ _
   | exact ih1 _ _ _ _ _ _ _ _ _
   | exact play_reader_num.mono _ _ _ _
   | exact play_reader_text.mono _ _ _
   | exact LeO.none _
   | refine LeO.ite ?_ ?_
   | refine LeO.bind ?_ (fun _ => ?_)
  ·intro y0 y1 y2 y3 y4 y5 y6 y7 y8
   unfold play_reader_commit.l1
   repeat' first
   | (with_reducible exact ih0 _ _ _ _ _)
   | (with_reducible exact ih1 _ _ _ _ _ _ _ _ _)
   | (with_reducible exact play_reader_num.mono _ _ _ _)
   | (with_reducible exact play_reader_text.mono _ _ _)
   | (with_reducible exact LeO.refl _)
   | (with_reducible exact LeO.none _)
   | (with_reducible refine LeO.ite ?_ ?_)
   | (with_reducible refine LeO.bind ?_ (fun _ => ?_))
   | exact ih0 _ _ _ _ _
   | exact ih1 _ _ _ _ _ _ _ _ _
   | exact play_reader_num.mono _ _ _ _
   | exact play_reader_text.mono _ _ _
   | exact LeO.none _
   | refine LeO.ite ?_ ?_
   | refine LeO.bind ?_ (fun _ => ?_)
theorem play_reader_commit.mono : ∀ a0 a1 k,LeO (play_reader_commit.f k a0 a1) (play_reader_commit.f (k + 1) a0 a1) :=by
 intro a0 a1 k
 obtain ⟨ih0,ih1⟩ :=play_reader_commit.mono_l k
 unfold play_reader_commit.f
 repeat' first
   | (with_reducible exact ih0 _ _ _ _ _)
   | (with_reducible exact ih1 _ _ _ _ _ _ _ _ _)
   | (with_reducible exact play_reader_num.mono _ _ _ _)
   | (with_reducible exact play_reader_text.mono _ _ _)
   | (with_reducible exact LeO.refl _)
   | (with_reducible exact LeO.none _)
   | (with_reducible refine LeO.ite ?_ ?_)
   | (with_reducible refine LeO.bind ?_ (fun _ => ?_))
   | exact ih0 _ _ _ _ _
   | exact ih1 _ _ _ _ _ _ _ _ _
   | exact play_reader_num.mono _ _ _ _
   | exact play_reader_text.mono _ _ _
   | exact LeO.none _
   | refine LeO.ite ?_ ?_
   | refine LeO.bind ?_ (fun _ => ?_)
def play_reader_commit.T6 : Bool × List (List Nat × List Nat) :=(true,[([],[]),([0],[0]),([1],[1]),([],[]),([3,1],[3]),([4],[4]),([2,5],[2,5]),([],[]),([7,6,4,0,1,2,3,4,5,6,7],[6,7])])
def play_reader_commit.B6 : List Nat :=[0,1,3,0,11,27,63,0,255]
theorem play_reader_commit.tab6 : rtab .any (opsOf Tryz.f26 6) = play_reader_commit.T6 :=by kernel_rfl
theorem play_reader_commit.bits6 : waitsOk play_reader_commit.T6.2 play_reader_commit.B6 = true :=by kernel_rfl
def play_reader_commit.T10 : Bool × List (List Nat × List Nat) :=(true,[([],[]),([0],[0]),([],[]),([2],[2]),([3],[3]),([],[]),([5,3],[5]),([4,6],[4,6]),([7],[7]),([1,8,6],[1,8]),([0,1,2,3,4,5,6,7,8,9],[]),([10,9,9,0,1,2,3,4,5,6,7,8,9],[9,10])])
def play_reader_commit.B10 : List Nat :=[0,1,0,4,12,0,44,124,252,511,1023,2047]
theorem play_reader_commit.tab10 : rtab .any (opsOf Tryz.f26 10) = play_reader_commit.T10 :=by kernel_rfl
theorem play_reader_commit.bits10 : waitsOk play_reader_commit.T10.2 play_reader_commit.B10 = true :=by kernel_rfl
set_option maxHeartbeats 8000000 in
set_option maxRecDepth 100000 in
theorem play_reader_commit.calls (k : Nat) (g : Nat) (s0_0 : ByteArray) (s0_1 : Bool) (r1 : ByteArray) (r2 : List (S83)) (r3 : ByteArray) (r4 : Bool) (w0 w : World) (hI : I51 w0 w g s0_0 s0_1) (hB : Below w0.heap.size w0 w) (h : play_reader_commit.f k s0_0 s0_1 = some (r1,r2,r3,r4)) :
  Calls Tryz.prog 26 #[.pointer (some ⟨g,0,none⟩)] w fun e w' => ∃ v1_ : Value,e = .returned (.agg #[.string r1,v1_]) ∧ Kd.R k83 83 w' w.heap.size (fun _ => True) v1_ r2 ∧ I51 w0 w' g r3 r4 ∧ Below w0.heap.size w0 w' ∧ KeepBut w w' g none :=by
 have hu43 :=Tryz.underlying43
 have hu83 :=Tryz.underlying83
 have hu85 :=Tryz.underlying85
 have HI0 :=AZ0.mk hI
 have HK :=AZ0.mk (KeepBut.refl w g none)
 have HL :=AZ0.mk hB.size
 clear hI
 have HW0 :=AZ0.mk hB.size
 have HB :=AZ0.mk hB
 clear hB
 have H : ((play_reader_text.f k s0_0 s0_1).bind fun bt116 => ((play_reader_num.f k bt116.2.1 bt116.2.2 1).bind fun bt121 => (play_reader_commit.l0 k (Int.tmod bt121.1 6) bt121.2.1 bt121.2.2 (strOfNums bt116.1) ([] : List (S83))))) = some (r1,r2,r3,r4) :=h
 clear h
 replace H :=Option.bind_eq_some_iff.mp H
 obtain ⟨⟨t116,t119,t120⟩,A20,H⟩ :=H
 replace H : ((play_reader_num.f k t119 t120 1).bind fun bt121 => (play_reader_commit.l0 k (Int.tmod bt121.1 6) bt121.2.1 bt121.2.2 (strOfNums t116) ([] : List (S83)))) = some (r1,r2,r3,r4) :=H
 have A2 :=AZ0.mk A20
 clear A20
 replace H :=Option.bind_eq_some_iff.mp H
 obtain ⟨⟨t121,t122,t123⟩,A30,H⟩ :=H
 replace H : (play_reader_commit.l0 k (Int.tmod t121 6) t122 t123 (strOfNums t116) ([] : List (S83))) = some (r1,r2,r3,r4) :=H
 have A3 :=AZ0.mk A30
 clear A30
 have H' :=AZ0.mk H
 clear H
 go_enter Tryz.func26,Tryz.ntmps26
 go_wp2_with (first | ((with_reducible refine gate_dst (N :=2) rfl ?_);refine box_event ?hg (N :=2) ?hd (cs :=#[.string ⟨#[]⟩,.slice none 0 0]) (t :=43) ?hr ?_;(case hd => rfl);(case hg => rfl);(case hr => first | (go_simp;done) | (go_simp;rfl));intro gb115 hg w4 hbox hb;have n0_ :=AZ0.mk (I51.below (by repeat (first | (with_reducible first | exact HI0.out | apply I51.alloc | apply I51.drewN | apply I51.drew | apply I51.set_0 | apply I51.set_1) | exact HI0.out)) hb);have n1_ :=AZ0.mk (KeepBut.trans (by repeat (first | (with_reducible first | exact HK.out | apply KeepBut.set_ | apply kpN | apply keep_drew | apply keep_alloc) | exact HK.out)) (KeepBut.of_below hb g none) (.inl rfl));have n2_ :=AZ0.mk (below_step (by repeat (first | (with_reducible first | exact HB.out | apply bwa | apply pwN | apply bw1 | refine bws ?_ (I51.ge HI0.out)) | exact HB.out)) hb);have n3_ :=AZ0.mk (hbox);have n4_ :=AZ0.mk ((by rw [hg];exact (keep_size (w :=w) (g :=g) (row :=none) (by repeat (first | (with_reducible first | exact HK.out | apply KeepBut.set_ | apply kpN | apply keep_drew | apply keep_alloc) | exact HK.out))) : w.heap.size ≤ gb115));have n5_ :=AZ0.mk ((Nat.le_trans HW0.out (by rw [hg];exact (keep_size (w :=w) (g :=g) (row :=none) (by repeat (first | (with_reducible first | exact HK.out | apply KeepBut.set_ | apply kpN | apply keep_drew | apply keep_alloc) | exact HK.out))) : w.heap.size ≤ gb115) : w0.heap.size ≤ gb115));have n6_ :=AZ0.mk ((by rw [hg];exact Nat.ne_of_lt (I51.lt (show I51 w0 _ g s0_0 s0_1 from by repeat (first | (with_reducible first | exact HI0.out | apply I51.alloc | apply I51.drewN | apply I51.drew | apply I51.set_0 | apply I51.set_1) | exact HI0.out))) : g ≠ gb115));have n7_ :=AZ0.mk ((by rw [hg];exact Nat.ne_of_gt (I51.lt (show I51 w0 _ g s0_0 s0_1 from by repeat (first | (with_reducible first | exact HI0.out | apply I51.alloc | apply I51.drewN | apply I51.drew | apply I51.set_0 | apply I51.set_1) | exact HI0.out))) : gb115 ≠ g));clear HI0;clear HK;clear HB;have HI0 :=n0_;have HK :=n1_;have HB :=n2_;have BK115 :=n3_;have GW115 :=n4_;have GE115 :=n5_;have NB0_115 :=n6_;have NB115_0 :=n7_;clear n0_ n1_ n2_ n3_ n4_ n5_ n6_ n7_;clear hb hbox hg) | ((with_reducible refine gate_clos rfl ?_);refine goesLC_ (some 13) rfl rfl Tryz.func15 (by kernel_rfl) rfl #[.pointer (some ⟨g,0,none⟩)] rfl rfl (by (try simp only [List.map_toArray,List.map_cons,List.map_nil]);first | done | rfl | (simp only [List.length_drop,List.length_take];rfl)) ?_;(with_reducible refine (play_reader_text.calls k g s0_0 s0_1 t116 t119 t120 w0 _ ?side1 ?side2 A2.out).mono ?_);(case side1 => repeat (first | (with_reducible first | exact HI0.out | apply I51.alloc | apply I51.drewN | apply I51.drew | apply I51.set_0 | apply I51.set_1 | refine I51.far ?_ NB0_115.out _) | exact HI0.out));(case side2 => repeat (first | (with_reducible first | exact HB.out | apply bwa | apply pwN | apply bw1 | refine bws ?_ (I51.ge HI0.out) | refine bws ?_ GE115.out) | exact HB.out));rintro e w5 ⟨v117,rfl,ho0,hi,hb,hk⟩;refine ⟨_,rfl,?_⟩;have n0_ :=AZ0.mk (KeepBut.blk hk (g' :=gb115) (o :=.cells #[.string ⟨#[]⟩,.slice none 0 0] 43 (0,0)) (by (with_reducible repeat (first | apply bkN | apply bkd | apply bka));exact BK115.out) NB115_0.out (by simp));have n1_ :=AZ0.mk (Kd.R_lower ho0 (keep_size (w :=w) (g :=g) (row :=none) (by repeat (first | (with_reducible first | exact HK.out | apply KeepBut.set_ | apply kpN | apply keep_drew | apply keep_alloc | refine keep_far ?_ GW115.out _) | exact HK.out))));have n2_ :=AZ0.mk (KeepBut.trans (by repeat (first | (with_reducible first | exact HK.out | apply KeepBut.set_ | apply kpN | apply keep_drew | apply keep_alloc | refine keep_far ?_ GW115.out _) | exact HK.out)) hk (.inl rfl));have n3_ :=AZ0.mk (hb);have n4_ :=AZ0.mk (hi);clear BK115;clear HK;clear HB;clear HI0;have BK115 :=n0_;have HO118 :=n1_;have HK :=n2_;have HB :=n3_;have HI0 :=n4_;clear n0_ n1_ n2_ n3_ n4_;(try clear hb);(try clear hb2);(try clear hk);(try clear hi);(try clear ho0);have hcv6 :=own_string (P :=Tryz.prog) Tryz.underlying22 Tryz.underlying5 Tryz.underlying9 (Kd.own_of_R HO118.out);have hnb7 :=NB115_0.out;have hnc7 :=NB0_115.out;have hcz8_0 : w5.cell? ⟨gb115,0,none⟩ = some (.string ⟨#[]⟩) :=(bkc BK115.out 0).trans rfl;have hcz8_1 : w5.cell? ⟨gb115,1,none⟩ = some (.slice none 0 0) :=(bkc BK115.out 1).trans rfl;have hfz8_0 :=bkz BK115.out 0;have hfz8_1 :=bkz BK115.out 1) | ((with_reducible refine gate_clos rfl ?_);refine goesLC_ (some 17) rfl rfl Tryz.func13 (by kernel_rfl) rfl #[.pointer (some ⟨g,0,none⟩),.int .i64 1] rfl rfl (by (try simp only [List.map_toArray,List.map_cons,List.map_nil]);first | done | rfl | (simp only [List.length_drop,List.length_take];rfl)) ?_;(with_reducible refine (play_reader_num.calls k g t119 t120 1 t121 t122 t123 w0 _ ?side1 ?side2 A3.out).mono ?_);(case side1 => repeat (first | (with_reducible first | exact HI0.out | apply I51.alloc | apply I51.drewN | apply I51.drew | apply I51.set_0 | apply I51.set_1 | refine I51.far ?_ NB0_115.out _) | exact HI0.out));(case side2 => repeat (first | (with_reducible first | exact HB.out | apply bwa | apply pwN | apply bw1 | refine bws ?_ (I51.ge HI0.out) | refine bws ?_ GE115.out) | exact HB.out));rintro e w9 ⟨rfl,hi,hb,hk⟩;refine ⟨_,rfl,?_⟩;have n0_ :=AZ0.mk (KeepBut.blk hk (g' :=gb115) (o :=.cells #[.string (strOfNums t116),.slice none 0 0] 43 (0,0)) (by (with_reducible repeat (first | apply bkN | apply bkd | apply bka));refine blk_put (cs :=#[.string ⟨#[]⟩,.slice none 0 0]) ?_ 0 _ rfl;(with_reducible repeat (first | apply bkN | apply bkd | apply bka));exact BK115.out) NB115_0.out (by simp));have n1_ :=AZ0.mk (Kd.R_mono (Kd.R_keep (I51.apart (show I51 w0 _ g t119 t120 from by repeat (first | (with_reducible first | exact HI0.out | apply I51.alloc | apply I51.drewN | apply I51.drew | apply I51.set_0 | apply I51.set_1 | refine I51.far ?_ NB0_115.out _) | exact HI0.out)) (by (with_reducible repeat (first | apply Kd.R_alloc | apply Kd.R_drewN | apply Kd.R_drew));exact (Kd.R_mono (Kd.R_far (p :=⟨gb115,0,none⟩) (Kd.R_types HO118.out BK115.out (by decide)) (fun _ hk => hk.2) (.string (strOfNums t116))) (fun _ h_ => h_.1))) (by decide)) hk (fun _ h => h.2)) (fun _ h => h.1));have n2_ :=AZ0.mk (KeepBut.trans (by repeat (first | (with_reducible first | exact HK.out | apply KeepBut.set_ | apply kpN | apply keep_drew | apply keep_alloc | refine keep_far ?_ GW115.out _) | exact HK.out)) hk (.inl rfl));have n3_ :=AZ0.mk (hb);have n4_ :=AZ0.mk (hi);clear BK115;clear HO118;clear HK;clear HB;clear HI0;have BK115 :=n0_;have HO118 :=n1_;have HK :=n2_;have HB :=n3_;have HI0 :=n4_;clear n0_ n1_ n2_ n3_ n4_;(try clear hb);(try clear hb2);(try clear hk);(try clear hi)))
 go_loopg [5] k (fun kq v5 w' => ∃ (x5_1 : Int) (x1000_1 : ByteArray) (x1001_1 : Bool) (x116001_1 : List (S83)) (u116001 : Value),v5 = .int .u64 x5_1 ∧ AZ0 (play_reader_commit.l0 kq x5_1 x1000_1 x1001_1 (strOfNums t116) x116001_1 = some (r1,r2,r3,r4)) ∧ AZ0 (kq ≤ k) ∧ AZ0 (Kd.R k83 83 w' w.heap.size (fun _ => True) u116001 x116001_1) ∧ AZ0 (w'.heap[gb115]? = some (.cells #[.string (strOfNums t116),u116001] 43 (0,0))) ∧ AZ0 (I51 w0 w' g x1000_1 x1001_1) ∧ AZ0 (KeepBut w w' g none) ∧ AZ0 (Below w0.heap.size w0 w'))
 case atStart => exact ⟨(Int.tmod t121 6),(t122),(t123),(([] : List (S83))),(.slice none 0 0),(by first | rfl | (simp;done) | (simp [*];done)),H',⟨Nat.le_refl _⟩,⟨by first | exact Kd.R_nil _ _ _ _ _ | exact Kd.N_nil _ _ _ _ _ | exact Kd.V_nil _ _ _ _ _ | exact Kd.Q_nil _ _ _ _ _ | exact Kd.S_nil _ _ _ _ _⟩,⟨by (with_reducible repeat (first | apply bkN | apply bkd | apply bka));exact BK115.out⟩,⟨by repeat (first | (with_reducible first | exact HI0.out | apply I51.alloc | apply I51.drewN | apply I51.drew | apply I51.set_0 | apply I51.set_1 | refine I51.far ?_ NB0_115.out _) | exact HI0.out)⟩,⟨by repeat (first | (with_reducible first | exact HK.out | apply KeepBut.set_ | apply kpN | apply keep_drew | apply keep_alloc | refine keep_far ?_ GW115.out _) | exact HK.out)⟩,⟨by repeat (first | (with_reducible first | exact HB.out | apply bwa | apply pwN | apply bw1 | refine bws ?_ (I51.ge HI0.out) | refine bws ?_ GE115.out) | exact HB.out)⟩⟩
 case round =>
  clear H'
  try clear c1
  try clear c2
  try clear p2
  try clear hcv6
  try clear c7
  try clear hcz8_0
  try clear hcz8_1
  try clear hfz8_0
  try clear hfz8_1
  obtain ⟨x5_1,x1000_1,x1001_1,x116001_1,u116001,rfl,HA,HK1,HO_116001,BK115,HI0,HK,HB⟩ :=hrel
  cases gk with
  | zero => exact absurd HA.out (by simp [play_reader_commit.l0])
  | succ k1 =>
   have H :=HA.out
   clear HA
   simp only [play_reader_commit.l0] at H
   by_cases c10 : x5_1 > 0
   ·rw [if_pos c10] at H
    have c10b0 : decide (0 < x5_1) = true :=decide_eq_true c10
    clear c10
    replace H :=Option.bind_eq_some_iff.mp H
    obtain ⟨⟨t124,t127,t128⟩,A110,H⟩ :=H
    replace H : ((play_reader_num.f k1 t127 t128 8).bind fun bt129 => ((play_reader_num.f k1 bt129.2.1 bt129.2.2 1).bind fun bt133 => (play_reader_commit.l1 k1 x5_1 (Int.tmod bt133.1 7) bt133.2.1 bt133.2.2 (strOfNums t116) x116001_1 (strOfNums t124) (wrap64 (bt129.1)) ([] : List (S85))))) = some (r1,r2,r3,r4) :=H
    have A11 :=AZ0.mk A110
    clear A110
    replace H :=Option.bind_eq_some_iff.mp H
    obtain ⟨⟨t129,t130,t131⟩,A120,H⟩ :=H
    replace H : ((play_reader_num.f k1 t130 t131 1).bind fun bt133 => (play_reader_commit.l1 k1 x5_1 (Int.tmod bt133.1 7) bt133.2.1 bt133.2.2 (strOfNums t116) x116001_1 (strOfNums t124) (wrap64 (t129)) ([] : List (S85)))) = some (r1,r2,r3,r4) :=H
    have A12 :=AZ0.mk A120
    clear A120
    replace H :=Option.bind_eq_some_iff.mp H
    obtain ⟨⟨t133,t134,t135⟩,A130,H⟩ :=H
    replace H : (play_reader_commit.l1 k1 x5_1 (Int.tmod t133 7) t134 t135 (strOfNums t116) x116001_1 (strOfNums t124) (wrap64 (t129)) ([] : List (S85))) = some (r1,r2,r3,r4) :=H
    have A13 :=AZ0.mk A130
    clear A130
    have H' :=AZ0.mk H
    clear H
    try go_wp2
    have n0_ :=AZ0.mk (Kd.R_drew HO_116001.out)
    have n1_ :=AZ0.mk (bkd BK115.out)
    have n2_ :=AZ0.mk (I51.drew HI0.out)
    have n3_ :=AZ0.mk (keep_drew HK.out)
    have n4_ :=AZ0.mk (bw1 HB.out)
    clear HO_116001
    clear BK115
    clear HI0
    clear HK
    clear HB
    have HO_116001 :=n0_
    have BK115 :=n1_
    have HI0 :=n2_
    have HK :=n3_
    have HB :=n4_
    clear n0_ n1_ n2_ n3_ n4_
    refine start_ (n :=9) (S :=fun w' => True) (ds :=[]) #[false,false,false,false,false,false,false,false,false] (by kernel_rfl) rfl rfl trivial (fun hHeld => ?_);refine with_tabW play_reader_commit.tab6 play_reader_commit.bits6 (fun HT_ HW_ => ?_)
    generalize wr.drew = w14 at HO_116001 BK115 HI0 HK HB hHeld ⊢
    refine pure_ (i :=0) (N :=some 23) (v :=?_) (a' :=?_) #[true,false,false,false,false,false,false,false,false] rfl rfl (any_of HT_.out (by kernel_rfl)) (fun _ _ _ h => h) (Or.inl ⟨by rfl,?_⟩) ?_ ?_
    rotate_left
    ·intro w'
     go_simp
     with_reducible rfl
    rotate_left
    ·simp only [Act.put,List.setIfInBounds_toArray,List.set_cons_zero,List.set_cons_succ,i64_w,i32_w]
     rfl
    refine pure_ (i :=3) (N :=some 26) (v :=?_) (a' :=?_) #[true,false,false,true,false,false,false,false,false] rfl rfl (any_of HT_.out (by kernel_rfl)) (fun _ _ _ h => h) (Or.inl ⟨by rfl,?_⟩) ?_ ?_
    rotate_left
    ·intro w'
     go_simp
     with_reducible rfl
    rotate_left
    ·simp only [Act.put,List.setIfInBounds_toArray,List.set_cons_zero,List.set_cons_succ,i64_w,i32_w]
     rfl
    refine join_ (σ :=Value × Nat) 1 #[true,true,true,true,true,true,true,true,false] (fun s_ => [(24,s_.1),(25,.string (strOfNums t124)),(27,.int .u64 t129),(6,.pointer (some ⟨s_.2,0,none⟩)),(28,.int .i64 (wrap64 (t129))),(29,.agg #[.string (strOfNums t124),.int .i64 (wrap64 (t129)),.slice none 0 0])]) (fun s_ w' => (Kd.R (Kd.int .u8) 5 w' w.heap.size (fun _ => True) s_.1 t124) ∧ (Kd.R k83 83 w' w.heap.size (fun k_ => some k_ ≠ (s_.1 : Value).ownBlock ∧ k_ ≠ s_.2) u116001 x116001_1) ∧ (w'.heap[gb115]? = some (.cells #[.string (strOfNums t116),u116001] 43 (0,0))) ∧ (w'.heap[s_.2]? = some (.cells #[.string ⟨#[]⟩,.int .i64 0,.slice none 0 0] 83 (0,0))) ∧ (w.heap.size ≤ s_.2) ∧ (w0.heap.size ≤ s_.2) ∧ (g ≠ s_.2) ∧ (s_.2 ≠ g) ∧ (gb115 ≠ s_.2) ∧ (s_.2 ≠ gb115) ∧ (I51 w0 w' g t130 t131) ∧ (KeepBut w w' g none) ∧ (Below w0.heap.size w0 w')) ?_ ?_
    rotate_left
    ·intro hJ1_2_4_7
     refine join_ (σ :=Value) 2 #[true,true,true,true,true,true,true,false,false] (fun s_ => [(24,s_),(25,.string (strOfNums t124)),(27,.int .u64 t129),(28,.int .i64 (wrap64 (t129))),(29,.agg #[.string (strOfNums t124),.int .i64 (wrap64 (t129)),.slice none 0 0])]) (fun s_ w' => (Kd.R (Kd.int .u8) 5 w' w.heap.size (fun _ => True) s_ t124) ∧ (Kd.R k83 83 w' w.heap.size (fun k_ => some k_ ≠ (s_ : Value).ownBlock) u116001 x116001_1) ∧ (w'.heap[gb115]? = some (.cells #[.string (strOfNums t116),u116001] 43 (0,0))) ∧ (I51 w0 w' g t130 t131) ∧ (KeepBut w w' g none) ∧ (Below w0.heap.size w0 w')) ?_ ?_
     rotate_left
     ·intro hJ1_2_4
      refine join_ (σ :=Value × Nat) 4 #[true,true,true,true,false,false,false,true,false] (fun s_ => [(24,s_.1),(25,.string (strOfNums t124)),(6,.pointer (some ⟨s_.2,0,none⟩))]) (fun s_ w' => (Kd.R (Kd.int .u8) 5 w' w.heap.size (fun _ => True) s_.1 t124) ∧ (Kd.R k83 83 w' w.heap.size (fun k_ => some k_ ≠ (s_.1 : Value).ownBlock ∧ k_ ≠ s_.2) u116001 x116001_1) ∧ (w'.heap[gb115]? = some (.cells #[.string (strOfNums t116),u116001] 43 (0,0))) ∧ (w'.heap[s_.2]? = some (.cells #[.string ⟨#[]⟩,.int .i64 0,.slice none 0 0] 83 (0,0))) ∧ (w.heap.size ≤ s_.2) ∧ (w0.heap.size ≤ s_.2) ∧ (g ≠ s_.2) ∧ (s_.2 ≠ g) ∧ (gb115 ≠ s_.2) ∧ (s_.2 ≠ gb115) ∧ (I51 w0 w' g t127 t128) ∧ (KeepBut w w' g none) ∧ (Below w0.heap.size w0 w')) ?_ ?_
      rotate_left
      ·intro hJ1_2_7
       refine join_ (σ :=Value × Nat) 3 #[true,true,false,true,true,true,false,true,false] (fun s_ => [(24,s_.1),(27,.int .u64 t129),(6,.pointer (some ⟨s_.2,0,none⟩)),(28,.int .i64 (wrap64 (t129)))]) (fun s_ w' => (Kd.R (Kd.int .u8) 5 w' w.heap.size (fun _ => True) s_.1 t124) ∧ (Kd.R k83 83 w' w.heap.size (fun k_ => some k_ ≠ (s_.1 : Value).ownBlock ∧ k_ ≠ s_.2) u116001 x116001_1) ∧ (w'.heap[gb115]? = some (.cells #[.string (strOfNums t116),u116001] 43 (0,0))) ∧ (w'.heap[s_.2]? = some (.cells #[.string ⟨#[]⟩,.int .i64 0,.slice none 0 0] 83 (0,0))) ∧ (w.heap.size ≤ s_.2) ∧ (w0.heap.size ≤ s_.2) ∧ (g ≠ s_.2) ∧ (s_.2 ≠ g) ∧ (gb115 ≠ s_.2) ∧ (s_.2 ≠ gb115) ∧ (I51 w0 w' g t130 t131) ∧ (KeepBut w w' g none) ∧ (Below w0.heap.size w0 w')) ?_ ?_
       rotate_left
       ·intro hJ1_4_7
        refine join_ (σ :=Value) 5 #[true,true,true,true,false,false,false,false,false] (fun s_ => [(24,s_),(25,.string (strOfNums t124))]) (fun s_ w' => (Kd.R (Kd.int .u8) 5 w' w.heap.size (fun _ => True) s_ t124) ∧ (Kd.R k83 83 w' w.heap.size (fun k_ => some k_ ≠ (s_ : Value).ownBlock) u116001 x116001_1) ∧ (w'.heap[gb115]? = some (.cells #[.string (strOfNums t116),u116001] 43 (0,0))) ∧ (I51 w0 w' g t127 t128) ∧ (KeepBut w w' g none) ∧ (Below w0.heap.size w0 w')) ?_ ?_
        rotate_left
        ·intro hJ1_2
         refine join_ (σ :=Value) 4 #[true,true,false,true,true,true,false,false,false] (fun s_ => [(24,s_),(27,.int .u64 t129),(28,.int .i64 (wrap64 (t129)))]) (fun s_ w' => (Kd.R (Kd.int .u8) 5 w' w.heap.size (fun _ => True) s_ t124) ∧ (Kd.R k83 83 w' w.heap.size (fun k_ => some k_ ≠ (s_ : Value).ownBlock) u116001 x116001_1) ∧ (w'.heap[gb115]? = some (.cells #[.string (strOfNums t116),u116001] 43 (0,0))) ∧ (I51 w0 w' g t130 t131) ∧ (KeepBut w w' g none) ∧ (Below w0.heap.size w0 w')) ?_ ?_
         rotate_left
         ·intro hJ1_4
          refine join_ (σ :=Value × Nat) 5 #[true,true,false,true,false,false,false,true,false] (fun s_ => [(24,s_.1),(6,.pointer (some ⟨s_.2,0,none⟩))]) (fun s_ w' => (Kd.R (Kd.int .u8) 5 w' w.heap.size (fun _ => True) s_.1 t124) ∧ (Kd.R k83 83 w' w.heap.size (fun k_ => some k_ ≠ (s_.1 : Value).ownBlock ∧ k_ ≠ s_.2) u116001 x116001_1) ∧ (w'.heap[gb115]? = some (.cells #[.string (strOfNums t116),u116001] 43 (0,0))) ∧ (w'.heap[s_.2]? = some (.cells #[.string ⟨#[]⟩,.int .i64 0,.slice none 0 0] 83 (0,0))) ∧ (w.heap.size ≤ s_.2) ∧ (w0.heap.size ≤ s_.2) ∧ (g ≠ s_.2) ∧ (s_.2 ≠ g) ∧ (gb115 ≠ s_.2) ∧ (s_.2 ≠ gb115) ∧ (I51 w0 w' g t127 t128) ∧ (KeepBut w w' g none) ∧ (Below w0.heap.size w0 w')) ?_ ?_
          rotate_left
          ·intro hJ1_7
           refine join_ (σ :=Value) 6 #[true,true,false,true,false,false,false,false,false] (fun s_ => [(24,s_)]) (fun s_ w' => (Kd.R (Kd.int .u8) 5 w' w.heap.size (fun _ => True) s_ t124) ∧ (Kd.R k83 83 w' w.heap.size (fun k_ => some k_ ≠ (s_ : Value).ownBlock) u116001 x116001_1) ∧ (w'.heap[gb115]? = some (.cells #[.string (strOfNums t116),u116001] 43 (0,0))) ∧ (I51 w0 w' g t127 t128) ∧ (KeepBut w w' g none) ∧ (Below w0.heap.size w0 w')) ?_ ?_
           rotate_left
           ·intro hJ1
            refine join_ (σ :=Nat) 6 #[true,false,false,true,false,false,false,true,false] (fun s_ => [(6,.pointer (some ⟨s_,0,none⟩))]) (fun s_ w' => (Kd.R k83 83 w' w.heap.size (fun k_ => k_ ≠ s_) u116001 x116001_1) ∧ (w'.heap[gb115]? = some (.cells #[.string (strOfNums t116),u116001] 43 (0,0))) ∧ (w'.heap[s_]? = some (.cells #[.string ⟨#[]⟩,.int .i64 0,.slice none 0 0] 83 (0,0))) ∧ (w.heap.size ≤ s_) ∧ (w0.heap.size ≤ s_) ∧ (g ≠ s_) ∧ (s_ ≠ g) ∧ (gb115 ≠ s_) ∧ (s_ ≠ gb115) ∧ (I51 w0 w' g x1000_1 x1001_1) ∧ (KeepBut w w' g none) ∧ (Below w0.heap.size w0 w')) ?_ ?_
            rotate_left
            ·intro hJ7
             refine two_ (i :=1) (j :=7) (Ni :=some 24) (Nj :=some 6) #[true,true,false,true,false,false,false,false,false] #[true,false,false,true,false,false,false,true,false] rfl rfl rfl rfl (two_of HT_.out (by kernel_rfl)) (by decide) (by decide) (fun K hK => ?_) (fun K hK => ?_)
             ·skip
              refine goesC_ Tryz.func15 (by kernel_rfl) rfl #[.pointer (some ⟨g,0,none⟩)] (by rfl) rfl rfl rfl (by (try simp only [List.map_toArray,List.map_cons,List.map_nil]);first | done | rfl | (simp only [List.length_drop,List.length_take];rfl)) ?_
              with_reducible refine (play_reader_text.calls k1 g x1000_1 x1001_1 t124 t127 t128 w0 _ ?side1 ?side2 A11.out).mono ?_
              (case side1 => repeat (first | (with_reducible first | exact HI0.out | apply I51.alloc | apply I51.drewN | apply I51.drew | apply I51.set_0 | apply I51.set_1 | refine I51.far ?_ NB0_115.out _) | exact HI0.out))
              (case side2 => repeat (first | (with_reducible first | exact HB.out | apply bwa | apply pwN | apply bw1 | refine bws ?_ (I51.ge HI0.out) | refine bws ?_ GE115.out) | exact HB.out))
              rintro e w15 ⟨v125,rfl,ho0,hi,hb,hk⟩
              refine ⟨_,rfl,?_⟩
              have n0_ :=AZ0.mk (Kd.R_mono (Kd.R_told (Kd.R_oldK (I51.apart (show I51 w0 _ g x1000_1 x1001_1 from by repeat (first | (with_reducible first | exact HI0.out | apply I51.alloc | apply I51.drewN | apply I51.drew | apply I51.set_0 | apply I51.set_1 | refine I51.far ?_ NB0_115.out _) | exact HI0.out)) (by (with_reducible repeat (first | apply Kd.R_alloc | apply Kd.R_drewN | apply Kd.R_drew));exact HO_116001.out) (by decide)) hk) (Kd.R_base ho0)) (fun _ h_ => h_.1))
              have n1_ :=AZ0.mk (KeepBut.blk hk (g' :=gb115) (o :=.cells #[.string (strOfNums t116),u116001] 43 (0,0)) (by (with_reducible repeat (first | apply bkN | apply bkd | apply bka));exact BK115.out) NB115_0.out (by simp))
              have n2_ :=AZ0.mk (Kd.R_lower ho0 (keep_size (w :=w) (g :=g) (row :=none) (by repeat (first | (with_reducible first | exact HK.out | apply KeepBut.set_ | apply kpN | apply keep_drew | apply keep_alloc | refine keep_far ?_ GW115.out _) | exact HK.out))))
              have n3_ :=AZ0.mk (KeepBut.trans (by repeat (first | (with_reducible first | exact HK.out | apply KeepBut.set_ | apply kpN | apply keep_drew | apply keep_alloc | refine keep_far ?_ GW115.out _) | exact HK.out)) hk (.inl rfl))
              have n4_ :=AZ0.mk (hb)
              have n5_ :=AZ0.mk (hi)
              clear HO_116001
              clear BK115
              clear HK
              clear HB
              clear HI0
              have HO_116001 :=n0_
              have BK115 :=n1_
              have HO126 :=n2_
              have HK :=n3_
              have HB :=n4_
              have HI0 :=n5_
              clear n0_ n1_ n2_ n3_ n4_ n5_
              (try clear hb)
              (try clear hb2)
              (try clear hk)
              (try clear hi)
              (try clear ho0)
              refine hK.out _ _ trivial (fun hHeld => ?_)
              clear hK K
              refine norm_ (a' :=?_) ?_ ?_
              rotate_left
              ·show Act.put _ (some 24) _ = _
               simp only [Act.put,List.setIfInBounds_toArray,List.set_cons_zero,List.set_cons_succ,i64_w,i32_w]
               rfl
              exact norm_ (by first | (simp only [putAll,Act.put,List.setIfInBounds_toArray,List.set_cons_zero,List.set_cons_succ];done) | (simp only [putAll,Act.put,List.setIfInBounds_toArray,List.set_cons_zero,List.set_cons_succ];rfl)) (hJ1 (v125) _ ⟨(by (with_reducible repeat (first | apply Kd.R_alloc | apply Kd.R_drewN | apply Kd.R_drew));exact HO126.out),(by (with_reducible repeat (first | apply Kd.R_alloc | apply Kd.R_drewN | apply Kd.R_drew));exact Kd.R_mono HO_116001.out (fun _ hk => hk.2)),(by (with_reducible repeat (first | apply bkN | apply bkd | apply bka));exact BK115.out),(by repeat (first | (with_reducible first | exact HI0.out | apply I51.alloc | apply I51.drewN | apply I51.drew | apply I51.set_0 | apply I51.set_1 | refine I51.far ?_ NB0_115.out _) | exact HI0.out)),(by repeat (first | (with_reducible first | exact HK.out | apply KeepBut.set_ | apply kpN | apply keep_drew | apply keep_alloc | refine keep_far ?_ GW115.out _) | exact HK.out)),(by repeat (first | (with_reducible first | exact HB.out | apply bwa | apply pwN | apply bw1 | refine bws ?_ (I51.ge HI0.out) | refine bws ?_ GE115.out) | exact HB.out))⟩)
             ·skip
              refine box_step ?hg (N :=6) ?hd (cs :=#[.string ⟨#[]⟩,.int .i64 0,.slice none 0 0]) (t :=83) ?hr ?_;(case hd => rfl);(case hg => rfl);(case hr => first | (go_simp;done) | (go_simp;rfl))
              intro gb132 hg w15 hbox hb
              have n0_ :=AZ0.mk (Kd.R_below (Kd.R_elderB (by (with_reducible repeat (first | apply Kd.R_alloc | apply Kd.R_drewN | apply Kd.R_drew));exact HO_116001.out) gb132 (Nat.le_of_eq hg.symm)) hb)
              have n1_ :=AZ0.mk (blk_below (g :=gb115) (o :=.cells #[.string (strOfNums t116),u116001] 43 (0,0)) (by (with_reducible repeat (first | apply bkN | apply bkd | apply bka));exact BK115.out) hb)
              have n2_ :=AZ0.mk (I51.below (by repeat (first | (with_reducible first | exact HI0.out | apply I51.alloc | apply I51.drewN | apply I51.drew | apply I51.set_0 | apply I51.set_1 | refine I51.far ?_ NB0_115.out _) | exact HI0.out)) hb)
              have n3_ :=AZ0.mk (KeepBut.trans (by repeat (first | (with_reducible first | exact HK.out | apply KeepBut.set_ | apply kpN | apply keep_drew | apply keep_alloc | refine keep_far ?_ GW115.out _) | exact HK.out)) (KeepBut.of_below hb g none) (.inl rfl))
              have n4_ :=AZ0.mk (below_step (by repeat (first | (with_reducible first | exact HB.out | apply bwa | apply pwN | apply bw1 | refine bws ?_ (I51.ge HI0.out) | refine bws ?_ GE115.out) | exact HB.out)) hb)
              have n5_ :=AZ0.mk (hbox)
              have n6_ :=AZ0.mk ((by rw [hg];exact (keep_size (w :=w) (g :=g) (row :=none) (by repeat (first | (with_reducible first | exact HK.out | apply KeepBut.set_ | apply kpN | apply keep_drew | apply keep_alloc | refine keep_far ?_ GW115.out _) | exact HK.out))) : w.heap.size ≤ gb132))
              have n7_ :=AZ0.mk ((Nat.le_trans HW0.out (by rw [hg];exact (keep_size (w :=w) (g :=g) (row :=none) (by repeat (first | (with_reducible first | exact HK.out | apply KeepBut.set_ | apply kpN | apply keep_drew | apply keep_alloc | refine keep_far ?_ GW115.out _) | exact HK.out))) : w.heap.size ≤ gb132) : w0.heap.size ≤ gb132))
              have n8_ :=AZ0.mk ((by rw [hg];exact Nat.ne_of_lt (blk_lt (g :=gb115) (o :=.cells #[.string (strOfNums t116),u116001] 43 (0,0)) (by (with_reducible repeat (first | apply bkN | apply bkd | apply bka));exact BK115.out)) : gb115 ≠ gb132))
              have n9_ :=AZ0.mk ((by rw [hg];exact Nat.ne_of_gt (blk_lt (g :=gb115) (o :=.cells #[.string (strOfNums t116),u116001] 43 (0,0)) (by (with_reducible repeat (first | apply bkN | apply bkd | apply bka));exact BK115.out)) : gb132 ≠ gb115))
              have n10_ :=AZ0.mk ((by rw [hg];exact Nat.ne_of_lt (I51.lt (show I51 w0 _ g x1000_1 x1001_1 from by repeat (first | (with_reducible first | exact HI0.out | apply I51.alloc | apply I51.drewN | apply I51.drew | apply I51.set_0 | apply I51.set_1 | refine I51.far ?_ NB0_115.out _) | exact HI0.out))) : g ≠ gb132))
              have n11_ :=AZ0.mk ((by rw [hg];exact Nat.ne_of_gt (I51.lt (show I51 w0 _ g x1000_1 x1001_1 from by repeat (first | (with_reducible first | exact HI0.out | apply I51.alloc | apply I51.drewN | apply I51.drew | apply I51.set_0 | apply I51.set_1 | refine I51.far ?_ NB0_115.out _) | exact HI0.out))) : gb132 ≠ g))
              clear HO_116001
              clear BK115
              clear HI0
              clear HK
              clear HB
              have HO_116001 :=n0_
              have BK115 :=n1_
              have HI0 :=n2_
              have HK :=n3_
              have HB :=n4_
              have BK132 :=n5_
              have GW132 :=n6_
              have GE132 :=n7_
              have NB115_132 :=n8_
              have NB132_115 :=n9_
              have NB0_132 :=n10_
              have NB132_0 :=n11_
              clear n0_ n1_ n2_ n3_ n4_ n5_ n6_ n7_ n8_ n9_ n10_ n11_
              clear hb hbox hg
              refine hK.out _ _ trivial (fun hHeld => ?_)
              clear hK K
              refine norm_ (a' :=?_) ?_ ?_
              rotate_left
              ·show Act.put _ (some 6) _ = _
               simp only [Act.put,List.setIfInBounds_toArray,List.set_cons_zero,List.set_cons_succ,i64_w,i32_w]
               rfl
              exact norm_ (by first | (simp only [putAll,Act.put,List.setIfInBounds_toArray,List.set_cons_zero,List.set_cons_succ];done) | (simp only [putAll,Act.put,List.setIfInBounds_toArray,List.set_cons_zero,List.set_cons_succ];rfl)) (hJ7 (gb132) _ ⟨(by (with_reducible repeat (first | apply Kd.R_alloc | apply Kd.R_drewN | apply Kd.R_drew));exact Kd.R_mono HO_116001.out (fun _ hk => hk.2)),(by (with_reducible repeat (first | apply bkN | apply bkd | apply bka));exact BK115.out),(by (with_reducible repeat (first | apply bkN | apply bkd | apply bka));exact BK132.out),GW132.out,GE132.out,NB0_132.out,NB132_0.out,NB115_132.out,NB132_115.out,(by repeat (first | (with_reducible first | exact HI0.out | apply I51.alloc | apply I51.drewN | apply I51.drew | apply I51.set_0 | apply I51.set_1 | refine I51.far ?_ NB0_115.out _ | refine I51.far ?_ NB0_132.out _) | exact HI0.out)),(by repeat (first | (with_reducible first | exact HK.out | apply KeepBut.set_ | apply kpN | apply keep_drew | apply keep_alloc | refine keep_far ?_ GW115.out _ | refine keep_far ?_ GW132.out _) | exact HK.out)),(by repeat (first | (with_reducible first | exact HB.out | apply bwa | apply pwN | apply bw1 | refine bws ?_ (I51.ge HI0.out) | refine bws ?_ GE115.out | refine bws ?_ GE132.out) | exact HB.out))⟩)
            ·skip
             rintro gb132 w16 ⟨h0_,h1_,h2_,h3_,h4_,h5_,h6_,h7_,h8_,h9_,h10_,h11_⟩
             have n0_ : AZ0 (Kd.R k83 83 w16 w.heap.size (fun k_ => k_ ≠ gb132) u116001 x116001_1) :=⟨h0_⟩
             have n1_ : AZ0 (w16.heap[gb115]? = some (.cells #[.string (strOfNums t116),u116001] 43 (0,0))) :=⟨h1_⟩
             have n2_ : AZ0 (w16.heap[gb132]? = some (.cells #[.string ⟨#[]⟩,.int .i64 0,.slice none 0 0] 83 (0,0))) :=⟨h2_⟩
             have n3_ : AZ0 (w.heap.size ≤ gb132) :=⟨h3_⟩
             have n4_ : AZ0 (w0.heap.size ≤ gb132) :=⟨h4_⟩
             have n5_ : AZ0 (g ≠ gb132) :=⟨h5_⟩
             have n6_ : AZ0 (gb132 ≠ g) :=⟨h6_⟩
             have n7_ : AZ0 (gb115 ≠ gb132) :=⟨h7_⟩
             have n8_ : AZ0 (gb132 ≠ gb115) :=⟨h8_⟩
             have n9_ : AZ0 (I51 w0 w16 g x1000_1 x1001_1) :=⟨h9_⟩
             have n10_ : AZ0 (KeepBut w w16 g none) :=⟨h10_⟩
             have n11_ : AZ0 (Below w0.heap.size w0 w16) :=⟨h11_⟩
             clear HO_116001
             clear BK115
             clear HI0
             clear HK
             clear HB
             clear h0_ h1_ h2_ h3_ h4_ h5_ h6_ h7_ h8_ h9_ h10_ h11_
             have HO_116001 :=n0_
             have BK115 :=n1_
             have BK132 :=n2_
             have GW132 :=n3_
             have GE132 :=n4_
             have NB0_132 :=n5_
             have NB132_0 :=n6_
             have NB115_132 :=n7_
             have NB132_115 :=n8_
             have HI0 :=n9_
             have HK :=n10_
             have HB :=n11_
             clear n0_ n1_ n2_ n3_ n4_ n5_ n6_ n7_ n8_ n9_ n10_ n11_
             have hHeld :=trivial
             refine norm_ (a' :=?_) ?_ ?_
             rotate_left
             ·simp only [putAll,Act.put,List.setIfInBounds_toArray,List.set_cons_zero,List.set_cons_succ]
              rfl
             refine one_ (i :=1) (N :=some 24) #[true,true,false,true,false,false,false,true,false] rfl rfl (one_of HT_.out (by kernel_rfl)) (by decide) (fun K hK => ?_)
             refine goesC_ Tryz.func15 (by kernel_rfl) rfl #[.pointer (some ⟨g,0,none⟩)] (by rfl) rfl rfl rfl (by (try simp only [List.map_toArray,List.map_cons,List.map_nil]);first | done | rfl | (simp only [List.length_drop,List.length_take];rfl)) ?_
             with_reducible refine (play_reader_text.calls k1 g x1000_1 x1001_1 t124 t127 t128 w0 _ ?side1 ?side2 A11.out).mono ?_
             (case side1 => repeat (first | (with_reducible first | exact HI0.out | apply I51.alloc | apply I51.drewN | apply I51.drew | apply I51.set_0 | apply I51.set_1 | refine I51.far ?_ NB0_115.out _ | refine I51.far ?_ NB0_132.out _) | exact HI0.out))
             (case side2 => repeat (first | (with_reducible first | exact HB.out | apply bwa | apply pwN | apply bw1 | refine bws ?_ (I51.ge HI0.out) | refine bws ?_ GE115.out | refine bws ?_ GE132.out) | exact HB.out))
             rintro e w17 ⟨v125,rfl,ho0,hi,hb,hk⟩
             refine ⟨_,rfl,?_⟩
             have n0_ :=AZ0.mk (Kd.R_mono (Kd.R_told (Kd.R_oldK (I51.apart (show I51 w0 _ g x1000_1 x1001_1 from by repeat (first | (with_reducible first | exact HI0.out | apply I51.alloc | apply I51.drewN | apply I51.drew | apply I51.set_0 | apply I51.set_1 | refine I51.far ?_ NB0_115.out _ | refine I51.far ?_ NB0_132.out _) | exact HI0.out)) (by (with_reducible repeat (first | apply Kd.R_alloc | apply Kd.R_drewN | apply Kd.R_drew));exact HO_116001.out) (by decide)) hk) (Kd.R_base ho0)) (fun _ h_ => h_.1))
             have n1_ :=AZ0.mk (KeepBut.blk hk (g' :=gb115) (o :=.cells #[.string (strOfNums t116),u116001] 43 (0,0)) (by (with_reducible repeat (first | apply bkN | apply bkd | apply bka));exact BK115.out) NB115_0.out (by simp))
             have n2_ :=AZ0.mk (KeepBut.blk hk (g' :=gb132) (o :=.cells #[.string ⟨#[]⟩,.int .i64 0,.slice none 0 0] 83 (0,0)) (by (with_reducible repeat (first | apply bkN | apply bkd | apply bka));exact BK132.out) NB132_0.out (by simp))
             have n3_ :=AZ0.mk (Kd.R_lower ho0 (keep_size (w :=w) (g :=g) (row :=none) (by repeat (first | (with_reducible first | exact HK.out | apply KeepBut.set_ | apply kpN | apply keep_drew | apply keep_alloc | refine keep_far ?_ GW115.out _ | refine keep_far ?_ GW132.out _) | exact HK.out))))
             have n4_ :=AZ0.mk (KeepBut.trans (by repeat (first | (with_reducible first | exact HK.out | apply KeepBut.set_ | apply kpN | apply keep_drew | apply keep_alloc | refine keep_far ?_ GW115.out _ | refine keep_far ?_ GW132.out _) | exact HK.out)) hk (.inl rfl))
             have n5_ :=AZ0.mk (hb)
             have n6_ :=AZ0.mk (hi)
             clear HO_116001
             clear BK115
             clear BK132
             clear HK
             clear HB
             clear HI0
             have HO_116001 :=n0_
             have BK115 :=n1_
             have BK132 :=n2_
             have HO126 :=n3_
             have HK :=n4_
             have HB :=n5_
             have HI0 :=n6_
             clear n0_ n1_ n2_ n3_ n4_ n5_ n6_
             (try clear hb)
             (try clear hb2)
             (try clear hk)
             (try clear hi)
             (try clear ho0)
             refine hK.out _ _ trivial (fun hHeld => ?_)
             clear hK K
             refine norm_ (a' :=?_) ?_ ?_
             rotate_left
             ·show Act.put _ (some 24) _ = _
              simp only [Act.put,List.setIfInBounds_toArray,List.set_cons_zero,List.set_cons_succ,i64_w,i32_w]
              rfl
             exact norm_ (by first | (simp only [putAll,Act.put,List.setIfInBounds_toArray,List.set_cons_zero,List.set_cons_succ];done) | (simp only [putAll,Act.put,List.setIfInBounds_toArray,List.set_cons_zero,List.set_cons_succ];rfl)) (hJ1_7 (v125,gb132) _ ⟨(by (with_reducible repeat (first | apply Kd.R_alloc | apply Kd.R_drewN | apply Kd.R_drew));exact HO126.out),(by (with_reducible repeat (first | apply Kd.R_alloc | apply Kd.R_drewN | apply Kd.R_drew));exact Kd.R_mono HO_116001.out (fun _ hk => ⟨hk.2,hk.1⟩)),(by (with_reducible repeat (first | apply bkN | apply bkd | apply bka));exact BK115.out),(by (with_reducible repeat (first | apply bkN | apply bkd | apply bka));exact BK132.out),GW132.out,GE132.out,NB0_132.out,NB132_0.out,NB115_132.out,NB132_115.out,(by repeat (first | (with_reducible first | exact HI0.out | apply I51.alloc | apply I51.drewN | apply I51.drew | apply I51.set_0 | apply I51.set_1 | refine I51.far ?_ NB0_115.out _ | refine I51.far ?_ NB0_132.out _) | exact HI0.out)),(by repeat (first | (with_reducible first | exact HK.out | apply KeepBut.set_ | apply kpN | apply keep_drew | apply keep_alloc | refine keep_far ?_ GW115.out _ | refine keep_far ?_ GW132.out _) | exact HK.out)),(by repeat (first | (with_reducible first | exact HB.out | apply bwa | apply pwN | apply bw1 | refine bws ?_ (I51.ge HI0.out) | refine bws ?_ GE115.out | refine bws ?_ GE132.out) | exact HB.out))⟩)
           ·skip
            rintro v125 w16 ⟨h0_,h1_,h2_,h3_,h4_,h5_⟩
            have n0_ : AZ0 (Kd.R (Kd.int .u8) 5 w16 w.heap.size (fun _ => True) v125 t124) :=⟨h0_⟩
            have n1_ : AZ0 (Kd.R k83 83 w16 w.heap.size (fun k_ => some k_ ≠ (v125 : Value).ownBlock) u116001 x116001_1) :=⟨h1_⟩
            have n2_ : AZ0 (w16.heap[gb115]? = some (.cells #[.string (strOfNums t116),u116001] 43 (0,0))) :=⟨h2_⟩
            have n3_ : AZ0 (I51 w0 w16 g t127 t128) :=⟨h3_⟩
            have n4_ : AZ0 (KeepBut w w16 g none) :=⟨h4_⟩
            have n5_ : AZ0 (Below w0.heap.size w0 w16) :=⟨h5_⟩
            clear HO_116001
            clear BK115
            clear HI0
            clear HK
            clear HB
            clear h0_ h1_ h2_ h3_ h4_ h5_
            have HO126 :=n0_
            have HO_116001 :=n1_
            have BK115 :=n2_
            have HI0 :=n3_
            have HK :=n4_
            have HB :=n5_
            clear n0_ n1_ n2_ n3_ n4_ n5_
            have hHeld :=trivial
            refine norm_ (a' :=?_) ?_ ?_
            rotate_left
            ·simp only [putAll,Act.put,List.setIfInBounds_toArray,List.set_cons_zero,List.set_cons_succ]
             rfl
            refine three_ (i :=2) (j :=4) (k :=7) (Ni :=some 25) (Nj :=some 27) (Nk :=some 6) #[true,true,true,true,false,false,false,false,false] #[true,true,false,true,true,false,false,false,false] #[true,true,false,true,false,false,false,true,false] rfl rfl rfl rfl rfl rfl (three_of HT_.out (by kernel_rfl)) (by decide) (by decide) (by decide) (fun K hK => ?_) (fun K hK => ?_) (fun K hK => ?_)
            ·skip
             have hcv17 :=own_string (P :=Tryz.prog) Tryz.underlying22 Tryz.underlying5 Tryz.underlying9 (Kd.own_of_R HO126.out)
             refine value_ (w1 :=?_) (v :=?_) (by rfl) rfl ?_ ?_
             rotate_left 2
             ·go_simp
              constructor
              ·rfl
              ·rfl
             clear hcv17
             refine hK.out _ _ trivial (fun hHeld => ?_)
             clear hK K
             refine norm_ (a' :=?_) ?_ ?_
             rotate_left
             ·show Act.put _ (some 25) _ = _
              simp only [Act.put,List.setIfInBounds_toArray,List.set_cons_zero,List.set_cons_succ,i64_w,i32_w]
              rfl
             exact norm_ (by first | (simp only [putAll,Act.put,List.setIfInBounds_toArray,List.set_cons_zero,List.set_cons_succ];done) | (simp only [putAll,Act.put,List.setIfInBounds_toArray,List.set_cons_zero,List.set_cons_succ];rfl)) (hJ1_2 (v125) _ ⟨(by (with_reducible repeat (first | apply Kd.R_alloc | apply Kd.R_drewN | apply Kd.R_drew));exact HO126.out),(by (with_reducible repeat (first | apply Kd.R_alloc | apply Kd.R_drewN | apply Kd.R_drew));exact HO_116001.out),(by (with_reducible repeat (first | apply bkN | apply bkd | apply bka));exact BK115.out),(by repeat (first | (with_reducible first | exact HI0.out | apply I51.alloc | apply I51.drewN | apply I51.drew | apply I51.set_0 | apply I51.set_1 | refine I51.far ?_ NB0_115.out _) | exact HI0.out)),(by repeat (first | (with_reducible first | exact HK.out | apply KeepBut.set_ | apply kpN | apply keep_drew | apply keep_alloc | refine keep_far ?_ GW115.out _) | exact HK.out)),(by repeat (first | (with_reducible first | exact HB.out | apply bwa | apply pwN | apply bw1 | refine bws ?_ (I51.ge HI0.out) | refine bws ?_ GE115.out) | exact HB.out))⟩)
            ·skip
             refine goesC_ Tryz.func13 (by kernel_rfl) rfl #[.pointer (some ⟨g,0,none⟩),.int .i64 8] (by rfl) rfl rfl rfl (by (try simp only [List.map_toArray,List.map_cons,List.map_nil]);first | done | rfl | (simp only [List.length_drop,List.length_take];rfl)) ?_
             with_reducible refine (play_reader_num.calls k1 g t127 t128 8 t129 t130 t131 w0 _ ?side1 ?side2 A12.out).mono ?_
             (case side1 => repeat (first | (with_reducible first | exact HI0.out | apply I51.alloc | apply I51.drewN | apply I51.drew | apply I51.set_0 | apply I51.set_1 | refine I51.far ?_ NB0_115.out _) | exact HI0.out))
             (case side2 => repeat (first | (with_reducible first | exact HB.out | apply bwa | apply pwN | apply bw1 | refine bws ?_ (I51.ge HI0.out) | refine bws ?_ GE115.out) | exact HB.out))
             rintro e w17 ⟨rfl,hi,hb,hk⟩
             refine ⟨_,rfl,?_⟩
             have n0_ :=AZ0.mk (Kd.R_mono (Kd.R_keep (I51.apart (show I51 w0 _ g t127 t128 from by repeat (first | (with_reducible first | exact HI0.out | apply I51.alloc | apply I51.drewN | apply I51.drew | apply I51.set_0 | apply I51.set_1 | refine I51.far ?_ NB0_115.out _) | exact HI0.out)) (by (with_reducible repeat (first | apply Kd.R_alloc | apply Kd.R_drewN | apply Kd.R_drew));exact HO_116001.out) (by decide)) hk (fun _ h => h.2)) (fun _ h => h.1))
             have n1_ :=AZ0.mk (KeepBut.blk hk (g' :=gb115) (o :=.cells #[.string (strOfNums t116),u116001] 43 (0,0)) (by (with_reducible repeat (first | apply bkN | apply bkd | apply bka));exact BK115.out) NB115_0.out (by simp))
             have n2_ :=AZ0.mk (Kd.R_mono (Kd.R_keep (I51.apart (show I51 w0 _ g t127 t128 from by repeat (first | (with_reducible first | exact HI0.out | apply I51.alloc | apply I51.drewN | apply I51.drew | apply I51.set_0 | apply I51.set_1 | refine I51.far ?_ NB0_115.out _) | exact HI0.out)) (by (with_reducible repeat (first | apply Kd.R_alloc | apply Kd.R_drewN | apply Kd.R_drew));exact HO126.out) (by decide)) hk (fun _ h => h.2)) (fun _ h => h.1))
             have n3_ :=AZ0.mk (KeepBut.trans (by repeat (first | (with_reducible first | exact HK.out | apply KeepBut.set_ | apply kpN | apply keep_drew | apply keep_alloc | refine keep_far ?_ GW115.out _) | exact HK.out)) hk (.inl rfl))
             have n4_ :=AZ0.mk (hb)
             have n5_ :=AZ0.mk (hi)
             clear HO_116001
             clear BK115
             clear HO126
             clear HK
             clear HB
             clear HI0
             have HO_116001 :=n0_
             have BK115 :=n1_
             have HO126 :=n2_
             have HK :=n3_
             have HB :=n4_
             have HI0 :=n5_
             clear n0_ n1_ n2_ n3_ n4_ n5_
             (try clear hb)
             (try clear hb2)
             (try clear hk)
             (try clear hi)
             refine hK.out _ _ trivial (fun hHeld => ?_)
             clear hK K
             refine norm_ (a' :=?_) ?_ ?_
             rotate_left
             ·show Act.put _ (some 27) _ = _
              simp only [Act.put,List.setIfInBounds_toArray,List.set_cons_zero,List.set_cons_succ,i64_w,i32_w]
              rfl
             refine pure_ (i :=5) (N :=some 28) (v :=?_) (a' :=?_) #[true,true,false,true,true,true,false,false,false] rfl rfl (any_of HT_.out (by kernel_rfl)) (fun _ _ _ h => h) (Or.inl ⟨by rfl,?_⟩) ?_ ?_
             rotate_left
             ·intro w'
              go_simp
              with_reducible rfl
             rotate_left
             ·simp only [Act.put,List.setIfInBounds_toArray,List.set_cons_zero,List.set_cons_succ,i64_w,i32_w]
              rfl
             exact norm_ (by first | (simp only [putAll,Act.put,List.setIfInBounds_toArray,List.set_cons_zero,List.set_cons_succ];done) | (simp only [putAll,Act.put,List.setIfInBounds_toArray,List.set_cons_zero,List.set_cons_succ];rfl)) (hJ1_4 (v125) _ ⟨(by (with_reducible repeat (first | apply Kd.R_alloc | apply Kd.R_drewN | apply Kd.R_drew));exact HO126.out),(by (with_reducible repeat (first | apply Kd.R_alloc | apply Kd.R_drewN | apply Kd.R_drew));exact HO_116001.out),(by (with_reducible repeat (first | apply bkN | apply bkd | apply bka));exact BK115.out),(by repeat (first | (with_reducible first | exact HI0.out | apply I51.alloc | apply I51.drewN | apply I51.drew | apply I51.set_0 | apply I51.set_1 | refine I51.far ?_ NB0_115.out _) | exact HI0.out)),(by repeat (first | (with_reducible first | exact HK.out | apply KeepBut.set_ | apply kpN | apply keep_drew | apply keep_alloc | refine keep_far ?_ GW115.out _) | exact HK.out)),(by repeat (first | (with_reducible first | exact HB.out | apply bwa | apply pwN | apply bw1 | refine bws ?_ (I51.ge HI0.out) | refine bws ?_ GE115.out) | exact HB.out))⟩)
            ·skip
             refine box_step ?hg (N :=6) ?hd (cs :=#[.string ⟨#[]⟩,.int .i64 0,.slice none 0 0]) (t :=83) ?hr ?_;(case hd => rfl);(case hg => rfl);(case hr => first | (go_simp;done) | (go_simp;rfl))
             intro gb132 hg w17 hbox hb
             have n0_ :=AZ0.mk (Kd.R_below (Kd.R_elderB (by (with_reducible repeat (first | apply Kd.R_alloc | apply Kd.R_drewN | apply Kd.R_drew));exact HO_116001.out) gb132 (Nat.le_of_eq hg.symm)) hb)
             have n1_ :=AZ0.mk (Kd.R_below (by (with_reducible repeat (first | apply Kd.R_alloc | apply Kd.R_drewN | apply Kd.R_drew));exact HO126.out) hb)
             have n2_ :=AZ0.mk (blk_below (g :=gb115) (o :=.cells #[.string (strOfNums t116),u116001] 43 (0,0)) (by (with_reducible repeat (first | apply bkN | apply bkd | apply bka));exact BK115.out) hb)
             have n3_ :=AZ0.mk (I51.below (by repeat (first | (with_reducible first | exact HI0.out | apply I51.alloc | apply I51.drewN | apply I51.drew | apply I51.set_0 | apply I51.set_1 | refine I51.far ?_ NB0_115.out _) | exact HI0.out)) hb)
             have n4_ :=AZ0.mk (KeepBut.trans (by repeat (first | (with_reducible first | exact HK.out | apply KeepBut.set_ | apply kpN | apply keep_drew | apply keep_alloc | refine keep_far ?_ GW115.out _) | exact HK.out)) (KeepBut.of_below hb g none) (.inl rfl))
             have n5_ :=AZ0.mk (below_step (by repeat (first | (with_reducible first | exact HB.out | apply bwa | apply pwN | apply bw1 | refine bws ?_ (I51.ge HI0.out) | refine bws ?_ GE115.out) | exact HB.out)) hb)
             have n6_ :=AZ0.mk (hbox)
             have n7_ :=AZ0.mk ((by rw [hg];exact (keep_size (w :=w) (g :=g) (row :=none) (by repeat (first | (with_reducible first | exact HK.out | apply KeepBut.set_ | apply kpN | apply keep_drew | apply keep_alloc | refine keep_far ?_ GW115.out _) | exact HK.out))) : w.heap.size ≤ gb132))
             have n8_ :=AZ0.mk ((Nat.le_trans HW0.out (by rw [hg];exact (keep_size (w :=w) (g :=g) (row :=none) (by repeat (first | (with_reducible first | exact HK.out | apply KeepBut.set_ | apply kpN | apply keep_drew | apply keep_alloc | refine keep_far ?_ GW115.out _) | exact HK.out))) : w.heap.size ≤ gb132) : w0.heap.size ≤ gb132))
             have n9_ :=AZ0.mk ((by rw [hg];exact Nat.ne_of_lt (blk_lt (g :=gb115) (o :=.cells #[.string (strOfNums t116),u116001] 43 (0,0)) (by (with_reducible repeat (first | apply bkN | apply bkd | apply bka));exact BK115.out)) : gb115 ≠ gb132))
             have n10_ :=AZ0.mk ((by rw [hg];exact Nat.ne_of_gt (blk_lt (g :=gb115) (o :=.cells #[.string (strOfNums t116),u116001] 43 (0,0)) (by (with_reducible repeat (first | apply bkN | apply bkd | apply bka));exact BK115.out)) : gb132 ≠ gb115))
             have n11_ :=AZ0.mk ((by rw [hg];exact Nat.ne_of_lt (I51.lt (show I51 w0 _ g t127 t128 from by repeat (first | (with_reducible first | exact HI0.out | apply I51.alloc | apply I51.drewN | apply I51.drew | apply I51.set_0 | apply I51.set_1 | refine I51.far ?_ NB0_115.out _) | exact HI0.out))) : g ≠ gb132))
             have n12_ :=AZ0.mk ((by rw [hg];exact Nat.ne_of_gt (I51.lt (show I51 w0 _ g t127 t128 from by repeat (first | (with_reducible first | exact HI0.out | apply I51.alloc | apply I51.drewN | apply I51.drew | apply I51.set_0 | apply I51.set_1 | refine I51.far ?_ NB0_115.out _) | exact HI0.out))) : gb132 ≠ g))
             clear HO_116001
             clear HO126
             clear BK115
             clear HI0
             clear HK
             clear HB
             have HO_116001 :=n0_
             have HO126 :=n1_
             have BK115 :=n2_
             have HI0 :=n3_
             have HK :=n4_
             have HB :=n5_
             have BK132 :=n6_
             have GW132 :=n7_
             have GE132 :=n8_
             have NB115_132 :=n9_
             have NB132_115 :=n10_
             have NB0_132 :=n11_
             have NB132_0 :=n12_
             clear n0_ n1_ n2_ n3_ n4_ n5_ n6_ n7_ n8_ n9_ n10_ n11_ n12_
             clear hb hbox hg
             refine hK.out _ _ trivial (fun hHeld => ?_)
             clear hK K
             refine norm_ (a' :=?_) ?_ ?_
             rotate_left
             ·show Act.put _ (some 6) _ = _
              simp only [Act.put,List.setIfInBounds_toArray,List.set_cons_zero,List.set_cons_succ,i64_w,i32_w]
              rfl
             exact norm_ (by first | (simp only [putAll,Act.put,List.setIfInBounds_toArray,List.set_cons_zero,List.set_cons_succ];done) | (simp only [putAll,Act.put,List.setIfInBounds_toArray,List.set_cons_zero,List.set_cons_succ];rfl)) (hJ1_7 (v125,gb132) _ ⟨(by (with_reducible repeat (first | apply Kd.R_alloc | apply Kd.R_drewN | apply Kd.R_drew));exact HO126.out),(by (with_reducible repeat (first | apply Kd.R_alloc | apply Kd.R_drewN | apply Kd.R_drew));exact HO_116001.out),(by (with_reducible repeat (first | apply bkN | apply bkd | apply bka));exact BK115.out),(by (with_reducible repeat (first | apply bkN | apply bkd | apply bka));exact BK132.out),GW132.out,GE132.out,NB0_132.out,NB132_0.out,NB115_132.out,NB132_115.out,(by repeat (first | (with_reducible first | exact HI0.out | apply I51.alloc | apply I51.drewN | apply I51.drew | apply I51.set_0 | apply I51.set_1 | refine I51.far ?_ NB0_115.out _ | refine I51.far ?_ NB0_132.out _) | exact HI0.out)),(by repeat (first | (with_reducible first | exact HK.out | apply KeepBut.set_ | apply kpN | apply keep_drew | apply keep_alloc | refine keep_far ?_ GW115.out _ | refine keep_far ?_ GW132.out _) | exact HK.out)),(by repeat (first | (with_reducible first | exact HB.out | apply bwa | apply pwN | apply bw1 | refine bws ?_ (I51.ge HI0.out) | refine bws ?_ GE115.out | refine bws ?_ GE132.out) | exact HB.out))⟩)
          ·skip
           rintro ⟨v125,gb132⟩ w17 ⟨h0_,h1_,h2_,h3_,h4_,h5_,h6_,h7_,h8_,h9_,h10_,h11_,h12_⟩
           have n0_ : AZ0 (Kd.R (Kd.int .u8) 5 w17 w.heap.size (fun _ => True) v125 t124) :=⟨h0_⟩
           have n1_ : AZ0 (Kd.R k83 83 w17 w.heap.size (fun k_ => some k_ ≠ (v125 : Value).ownBlock ∧ k_ ≠ gb132) u116001 x116001_1) :=⟨h1_⟩
           have n2_ : AZ0 (w17.heap[gb115]? = some (.cells #[.string (strOfNums t116),u116001] 43 (0,0))) :=⟨h2_⟩
           have n3_ : AZ0 (w17.heap[gb132]? = some (.cells #[.string ⟨#[]⟩,.int .i64 0,.slice none 0 0] 83 (0,0))) :=⟨h3_⟩
           have n4_ : AZ0 (w.heap.size ≤ gb132) :=⟨h4_⟩
           have n5_ : AZ0 (w0.heap.size ≤ gb132) :=⟨h5_⟩
           have n6_ : AZ0 (g ≠ gb132) :=⟨h6_⟩
           have n7_ : AZ0 (gb132 ≠ g) :=⟨h7_⟩
           have n8_ : AZ0 (gb115 ≠ gb132) :=⟨h8_⟩
           have n9_ : AZ0 (gb132 ≠ gb115) :=⟨h9_⟩
           have n10_ : AZ0 (I51 w0 w17 g t127 t128) :=⟨h10_⟩
           have n11_ : AZ0 (KeepBut w w17 g none) :=⟨h11_⟩
           have n12_ : AZ0 (Below w0.heap.size w0 w17) :=⟨h12_⟩
           clear HO_116001
           clear BK115
           clear HI0
           clear HK
           clear HB
           clear h0_ h1_ h2_ h3_ h4_ h5_ h6_ h7_ h8_ h9_ h10_ h11_ h12_
           have HO126 :=n0_
           have HO_116001 :=n1_
           have BK115 :=n2_
           have BK132 :=n3_
           have GW132 :=n4_
           have GE132 :=n5_
           have NB0_132 :=n6_
           have NB132_0 :=n7_
           have NB115_132 :=n8_
           have NB132_115 :=n9_
           have HI0 :=n10_
           have HK :=n11_
           have HB :=n12_
           clear n0_ n1_ n2_ n3_ n4_ n5_ n6_ n7_ n8_ n9_ n10_ n11_ n12_
           have hHeld :=trivial
           refine norm_ (a' :=?_) ?_ ?_
           rotate_left
           ·simp only [putAll,Act.put,List.setIfInBounds_toArray,List.set_cons_zero,List.set_cons_succ]
            rfl
           refine two_ (i :=2) (j :=4) (Ni :=some 25) (Nj :=some 27) #[true,true,true,true,false,false,false,true,false] #[true,true,false,true,true,false,false,true,false] rfl rfl rfl rfl (two_of HT_.out (by kernel_rfl)) (by decide) (by decide) (fun K hK => ?_) (fun K hK => ?_)
           ·skip
            have hcv18 :=own_string (P :=Tryz.prog) Tryz.underlying22 Tryz.underlying5 Tryz.underlying9 (Kd.own_of_R HO126.out)
            refine value_ (w1 :=?_) (v :=?_) (by rfl) rfl ?_ ?_
            rotate_left 2
            ·go_simp
             constructor
             ·rfl
             ·rfl
            clear hcv18
            refine hK.out _ _ trivial (fun hHeld => ?_)
            clear hK K
            refine norm_ (a' :=?_) ?_ ?_
            rotate_left
            ·show Act.put _ (some 25) _ = _
             simp only [Act.put,List.setIfInBounds_toArray,List.set_cons_zero,List.set_cons_succ,i64_w,i32_w]
             rfl
            exact norm_ (by first | (simp only [putAll,Act.put,List.setIfInBounds_toArray,List.set_cons_zero,List.set_cons_succ];done) | (simp only [putAll,Act.put,List.setIfInBounds_toArray,List.set_cons_zero,List.set_cons_succ];rfl)) (hJ1_2_7 (v125,gb132) _ ⟨(by (with_reducible repeat (first | apply Kd.R_alloc | apply Kd.R_drewN | apply Kd.R_drew));exact HO126.out),(by (with_reducible repeat (first | apply Kd.R_alloc | apply Kd.R_drewN | apply Kd.R_drew));exact HO_116001.out),(by (with_reducible repeat (first | apply bkN | apply bkd | apply bka));exact BK115.out),(by (with_reducible repeat (first | apply bkN | apply bkd | apply bka));exact BK132.out),GW132.out,GE132.out,NB0_132.out,NB132_0.out,NB115_132.out,NB132_115.out,(by repeat (first | (with_reducible first | exact HI0.out | apply I51.alloc | apply I51.drewN | apply I51.drew | apply I51.set_0 | apply I51.set_1 | refine I51.far ?_ NB0_115.out _ | refine I51.far ?_ NB0_132.out _) | exact HI0.out)),(by repeat (first | (with_reducible first | exact HK.out | apply KeepBut.set_ | apply kpN | apply keep_drew | apply keep_alloc | refine keep_far ?_ GW115.out _ | refine keep_far ?_ GW132.out _) | exact HK.out)),(by repeat (first | (with_reducible first | exact HB.out | apply bwa | apply pwN | apply bw1 | refine bws ?_ (I51.ge HI0.out) | refine bws ?_ GE115.out | refine bws ?_ GE132.out) | exact HB.out))⟩)
           ·skip
            refine goesC_ Tryz.func13 (by kernel_rfl) rfl #[.pointer (some ⟨g,0,none⟩),.int .i64 8] (by rfl) rfl rfl rfl (by (try simp only [List.map_toArray,List.map_cons,List.map_nil]);first | done | rfl | (simp only [List.length_drop,List.length_take];rfl)) ?_
            with_reducible refine (play_reader_num.calls k1 g t127 t128 8 t129 t130 t131 w0 _ ?side1 ?side2 A12.out).mono ?_
            (case side1 => repeat (first | (with_reducible first | exact HI0.out | apply I51.alloc | apply I51.drewN | apply I51.drew | apply I51.set_0 | apply I51.set_1 | refine I51.far ?_ NB0_115.out _ | refine I51.far ?_ NB0_132.out _) | exact HI0.out))
            (case side2 => repeat (first | (with_reducible first | exact HB.out | apply bwa | apply pwN | apply bw1 | refine bws ?_ (I51.ge HI0.out) | refine bws ?_ GE115.out | refine bws ?_ GE132.out) | exact HB.out))
            rintro e w18 ⟨rfl,hi,hb,hk⟩
            refine ⟨_,rfl,?_⟩
            have n0_ :=AZ0.mk (Kd.R_mono (Kd.R_keep (I51.apart (show I51 w0 _ g t127 t128 from by repeat (first | (with_reducible first | exact HI0.out | apply I51.alloc | apply I51.drewN | apply I51.drew | apply I51.set_0 | apply I51.set_1 | refine I51.far ?_ NB0_115.out _ | refine I51.far ?_ NB0_132.out _) | exact HI0.out)) (by (with_reducible repeat (first | apply Kd.R_alloc | apply Kd.R_drewN | apply Kd.R_drew));exact HO_116001.out) (by decide)) hk (fun _ h => h.2)) (fun _ h => h.1))
            have n1_ :=AZ0.mk (KeepBut.blk hk (g' :=gb115) (o :=.cells #[.string (strOfNums t116),u116001] 43 (0,0)) (by (with_reducible repeat (first | apply bkN | apply bkd | apply bka));exact BK115.out) NB115_0.out (by simp))
            have n2_ :=AZ0.mk (Kd.R_mono (Kd.R_keep (I51.apart (show I51 w0 _ g t127 t128 from by repeat (first | (with_reducible first | exact HI0.out | apply I51.alloc | apply I51.drewN | apply I51.drew | apply I51.set_0 | apply I51.set_1 | refine I51.far ?_ NB0_115.out _ | refine I51.far ?_ NB0_132.out _) | exact HI0.out)) (by (with_reducible repeat (first | apply Kd.R_alloc | apply Kd.R_drewN | apply Kd.R_drew));exact HO126.out) (by decide)) hk (fun _ h => h.2)) (fun _ h => h.1))
            have n3_ :=AZ0.mk (KeepBut.blk hk (g' :=gb132) (o :=.cells #[.string ⟨#[]⟩,.int .i64 0,.slice none 0 0] 83 (0,0)) (by (with_reducible repeat (first | apply bkN | apply bkd | apply bka));exact BK132.out) NB132_0.out (by simp))
            have n4_ :=AZ0.mk (KeepBut.trans (by repeat (first | (with_reducible first | exact HK.out | apply KeepBut.set_ | apply kpN | apply keep_drew | apply keep_alloc | refine keep_far ?_ GW115.out _ | refine keep_far ?_ GW132.out _) | exact HK.out)) hk (.inl rfl))
            have n5_ :=AZ0.mk (hb)
            have n6_ :=AZ0.mk (hi)
            clear HO_116001
            clear BK115
            clear HO126
            clear BK132
            clear HK
            clear HB
            clear HI0
            have HO_116001 :=n0_
            have BK115 :=n1_
            have HO126 :=n2_
            have BK132 :=n3_
            have HK :=n4_
            have HB :=n5_
            have HI0 :=n6_
            clear n0_ n1_ n2_ n3_ n4_ n5_ n6_
            (try clear hb)
            (try clear hb2)
            (try clear hk)
            (try clear hi)
            refine hK.out _ _ trivial (fun hHeld => ?_)
            clear hK K
            refine norm_ (a' :=?_) ?_ ?_
            rotate_left
            ·show Act.put _ (some 27) _ = _
             simp only [Act.put,List.setIfInBounds_toArray,List.set_cons_zero,List.set_cons_succ,i64_w,i32_w]
             rfl
            refine pure_ (i :=5) (N :=some 28) (v :=?_) (a' :=?_) #[true,true,false,true,true,true,false,true,false] rfl rfl (any_of HT_.out (by kernel_rfl)) (fun _ _ _ h => h) (Or.inl ⟨by rfl,?_⟩) ?_ ?_
            rotate_left
            ·intro w'
             go_simp
             with_reducible rfl
            rotate_left
            ·simp only [Act.put,List.setIfInBounds_toArray,List.set_cons_zero,List.set_cons_succ,i64_w,i32_w]
             rfl
            exact norm_ (by first | (simp only [putAll,Act.put,List.setIfInBounds_toArray,List.set_cons_zero,List.set_cons_succ];done) | (simp only [putAll,Act.put,List.setIfInBounds_toArray,List.set_cons_zero,List.set_cons_succ];rfl)) (hJ1_4_7 (v125,gb132) _ ⟨(by (with_reducible repeat (first | apply Kd.R_alloc | apply Kd.R_drewN | apply Kd.R_drew));exact HO126.out),(by (with_reducible repeat (first | apply Kd.R_alloc | apply Kd.R_drewN | apply Kd.R_drew));exact HO_116001.out),(by (with_reducible repeat (first | apply bkN | apply bkd | apply bka));exact BK115.out),(by (with_reducible repeat (first | apply bkN | apply bkd | apply bka));exact BK132.out),GW132.out,GE132.out,NB0_132.out,NB132_0.out,NB115_132.out,NB132_115.out,(by repeat (first | (with_reducible first | exact HI0.out | apply I51.alloc | apply I51.drewN | apply I51.drew | apply I51.set_0 | apply I51.set_1 | refine I51.far ?_ NB0_115.out _ | refine I51.far ?_ NB0_132.out _) | exact HI0.out)),(by repeat (first | (with_reducible first | exact HK.out | apply KeepBut.set_ | apply kpN | apply keep_drew | apply keep_alloc | refine keep_far ?_ GW115.out _ | refine keep_far ?_ GW132.out _) | exact HK.out)),(by repeat (first | (with_reducible first | exact HB.out | apply bwa | apply pwN | apply bw1 | refine bws ?_ (I51.ge HI0.out) | refine bws ?_ GE115.out | refine bws ?_ GE132.out) | exact HB.out))⟩)
         ·skip
          rintro v125 w17 ⟨h0_,h1_,h2_,h3_,h4_,h5_⟩
          have n0_ : AZ0 (Kd.R (Kd.int .u8) 5 w17 w.heap.size (fun _ => True) v125 t124) :=⟨h0_⟩
          have n1_ : AZ0 (Kd.R k83 83 w17 w.heap.size (fun k_ => some k_ ≠ (v125 : Value).ownBlock) u116001 x116001_1) :=⟨h1_⟩
          have n2_ : AZ0 (w17.heap[gb115]? = some (.cells #[.string (strOfNums t116),u116001] 43 (0,0))) :=⟨h2_⟩
          have n3_ : AZ0 (I51 w0 w17 g t130 t131) :=⟨h3_⟩
          have n4_ : AZ0 (KeepBut w w17 g none) :=⟨h4_⟩
          have n5_ : AZ0 (Below w0.heap.size w0 w17) :=⟨h5_⟩
          clear HO_116001
          clear BK115
          clear HI0
          clear HK
          clear HB
          clear h0_ h1_ h2_ h3_ h4_ h5_
          have HO126 :=n0_
          have HO_116001 :=n1_
          have BK115 :=n2_
          have HI0 :=n3_
          have HK :=n4_
          have HB :=n5_
          clear n0_ n1_ n2_ n3_ n4_ n5_
          have hHeld :=trivial
          refine norm_ (a' :=?_) ?_ ?_
          rotate_left
          ·simp only [putAll,Act.put,List.setIfInBounds_toArray,List.set_cons_zero,List.set_cons_succ]
           rfl
          refine two_ (i :=2) (j :=7) (Ni :=some 25) (Nj :=some 6) #[true,true,true,true,true,true,false,false,false] #[true,true,false,true,true,true,false,true,false] rfl rfl rfl rfl (two_of HT_.out (by kernel_rfl)) (by decide) (by decide) (fun K hK => ?_) (fun K hK => ?_)
          ·skip
           have hcv18 :=own_string (P :=Tryz.prog) Tryz.underlying22 Tryz.underlying5 Tryz.underlying9 (Kd.own_of_R HO126.out)
           refine value_ (w1 :=?_) (v :=?_) (by rfl) rfl ?_ ?_
           rotate_left 2
           ·go_simp
            constructor
            ·rfl
            ·rfl
           clear hcv18
           refine hK.out _ _ trivial (fun hHeld => ?_)
           clear hK K
           refine norm_ (a' :=?_) ?_ ?_
           rotate_left
           ·show Act.put _ (some 25) _ = _
            simp only [Act.put,List.setIfInBounds_toArray,List.set_cons_zero,List.set_cons_succ,i64_w,i32_w]
            rfl
           refine pure_ (i :=6) (N :=some 29) (v :=?_) (a' :=?_) #[true,true,true,true,true,true,true,false,false] rfl rfl (any_of HT_.out (by kernel_rfl)) (fun _ _ _ h => h) (Or.inl ⟨by rfl,?_⟩) ?_ ?_
           rotate_left
           ·intro w'
            go_simp
            with_reducible rfl
           rotate_left
           ·simp only [Act.put,List.setIfInBounds_toArray,List.set_cons_zero,List.set_cons_succ,i64_w,i32_w]
            rfl
           exact norm_ (by first | (simp only [putAll,Act.put,List.setIfInBounds_toArray,List.set_cons_zero,List.set_cons_succ];done) | (simp only [putAll,Act.put,List.setIfInBounds_toArray,List.set_cons_zero,List.set_cons_succ];rfl)) (hJ1_2_4 (v125) _ ⟨(by (with_reducible repeat (first | apply Kd.R_alloc | apply Kd.R_drewN | apply Kd.R_drew));exact HO126.out),(by (with_reducible repeat (first | apply Kd.R_alloc | apply Kd.R_drewN | apply Kd.R_drew));exact HO_116001.out),(by (with_reducible repeat (first | apply bkN | apply bkd | apply bka));exact BK115.out),(by repeat (first | (with_reducible first | exact HI0.out | apply I51.alloc | apply I51.drewN | apply I51.drew | apply I51.set_0 | apply I51.set_1 | refine I51.far ?_ NB0_115.out _) | exact HI0.out)),(by repeat (first | (with_reducible first | exact HK.out | apply KeepBut.set_ | apply kpN | apply keep_drew | apply keep_alloc | refine keep_far ?_ GW115.out _) | exact HK.out)),(by repeat (first | (with_reducible first | exact HB.out | apply bwa | apply pwN | apply bw1 | refine bws ?_ (I51.ge HI0.out) | refine bws ?_ GE115.out) | exact HB.out))⟩)
          ·skip
           refine box_step ?hg (N :=6) ?hd (cs :=#[.string ⟨#[]⟩,.int .i64 0,.slice none 0 0]) (t :=83) ?hr ?_;(case hd => rfl);(case hg => rfl);(case hr => first | (go_simp;done) | (go_simp;rfl))
           intro gb132 hg w18 hbox hb
           have n0_ :=AZ0.mk (Kd.R_below (Kd.R_elderB (by (with_reducible repeat (first | apply Kd.R_alloc | apply Kd.R_drewN | apply Kd.R_drew));exact HO_116001.out) gb132 (Nat.le_of_eq hg.symm)) hb)
           have n1_ :=AZ0.mk (Kd.R_below (by (with_reducible repeat (first | apply Kd.R_alloc | apply Kd.R_drewN | apply Kd.R_drew));exact HO126.out) hb)
           have n2_ :=AZ0.mk (blk_below (g :=gb115) (o :=.cells #[.string (strOfNums t116),u116001] 43 (0,0)) (by (with_reducible repeat (first | apply bkN | apply bkd | apply bka));exact BK115.out) hb)
           have n3_ :=AZ0.mk (I51.below (by repeat (first | (with_reducible first | exact HI0.out | apply I51.alloc | apply I51.drewN | apply I51.drew | apply I51.set_0 | apply I51.set_1 | refine I51.far ?_ NB0_115.out _) | exact HI0.out)) hb)
           have n4_ :=AZ0.mk (KeepBut.trans (by repeat (first | (with_reducible first | exact HK.out | apply KeepBut.set_ | apply kpN | apply keep_drew | apply keep_alloc | refine keep_far ?_ GW115.out _) | exact HK.out)) (KeepBut.of_below hb g none) (.inl rfl))
           have n5_ :=AZ0.mk (below_step (by repeat (first | (with_reducible first | exact HB.out | apply bwa | apply pwN | apply bw1 | refine bws ?_ (I51.ge HI0.out) | refine bws ?_ GE115.out) | exact HB.out)) hb)
           have n6_ :=AZ0.mk (hbox)
           have n7_ :=AZ0.mk ((by rw [hg];exact (keep_size (w :=w) (g :=g) (row :=none) (by repeat (first | (with_reducible first | exact HK.out | apply KeepBut.set_ | apply kpN | apply keep_drew | apply keep_alloc | refine keep_far ?_ GW115.out _) | exact HK.out))) : w.heap.size ≤ gb132))
           have n8_ :=AZ0.mk ((Nat.le_trans HW0.out (by rw [hg];exact (keep_size (w :=w) (g :=g) (row :=none) (by repeat (first | (with_reducible first | exact HK.out | apply KeepBut.set_ | apply kpN | apply keep_drew | apply keep_alloc | refine keep_far ?_ GW115.out _) | exact HK.out))) : w.heap.size ≤ gb132) : w0.heap.size ≤ gb132))
           have n9_ :=AZ0.mk ((by rw [hg];exact Nat.ne_of_lt (blk_lt (g :=gb115) (o :=.cells #[.string (strOfNums t116),u116001] 43 (0,0)) (by (with_reducible repeat (first | apply bkN | apply bkd | apply bka));exact BK115.out)) : gb115 ≠ gb132))
           have n10_ :=AZ0.mk ((by rw [hg];exact Nat.ne_of_gt (blk_lt (g :=gb115) (o :=.cells #[.string (strOfNums t116),u116001] 43 (0,0)) (by (with_reducible repeat (first | apply bkN | apply bkd | apply bka));exact BK115.out)) : gb132 ≠ gb115))
           have n11_ :=AZ0.mk ((by rw [hg];exact Nat.ne_of_lt (I51.lt (show I51 w0 _ g t130 t131 from by repeat (first | (with_reducible first | exact HI0.out | apply I51.alloc | apply I51.drewN | apply I51.drew | apply I51.set_0 | apply I51.set_1 | refine I51.far ?_ NB0_115.out _) | exact HI0.out))) : g ≠ gb132))
           have n12_ :=AZ0.mk ((by rw [hg];exact Nat.ne_of_gt (I51.lt (show I51 w0 _ g t130 t131 from by repeat (first | (with_reducible first | exact HI0.out | apply I51.alloc | apply I51.drewN | apply I51.drew | apply I51.set_0 | apply I51.set_1 | refine I51.far ?_ NB0_115.out _) | exact HI0.out))) : gb132 ≠ g))
           clear HO_116001
           clear HO126
           clear BK115
           clear HI0
           clear HK
           clear HB
           have HO_116001 :=n0_
           have HO126 :=n1_
           have BK115 :=n2_
           have HI0 :=n3_
           have HK :=n4_
           have HB :=n5_
           have BK132 :=n6_
           have GW132 :=n7_
           have GE132 :=n8_
           have NB115_132 :=n9_
           have NB132_115 :=n10_
           have NB0_132 :=n11_
           have NB132_0 :=n12_
           clear n0_ n1_ n2_ n3_ n4_ n5_ n6_ n7_ n8_ n9_ n10_ n11_ n12_
           clear hb hbox hg
           refine hK.out _ _ trivial (fun hHeld => ?_)
           clear hK K
           refine norm_ (a' :=?_) ?_ ?_
           rotate_left
           ·show Act.put _ (some 6) _ = _
            simp only [Act.put,List.setIfInBounds_toArray,List.set_cons_zero,List.set_cons_succ,i64_w,i32_w]
            rfl
           exact norm_ (by first | (simp only [putAll,Act.put,List.setIfInBounds_toArray,List.set_cons_zero,List.set_cons_succ];done) | (simp only [putAll,Act.put,List.setIfInBounds_toArray,List.set_cons_zero,List.set_cons_succ];rfl)) (hJ1_4_7 (v125,gb132) _ ⟨(by (with_reducible repeat (first | apply Kd.R_alloc | apply Kd.R_drewN | apply Kd.R_drew));exact HO126.out),(by (with_reducible repeat (first | apply Kd.R_alloc | apply Kd.R_drewN | apply Kd.R_drew));exact HO_116001.out),(by (with_reducible repeat (first | apply bkN | apply bkd | apply bka));exact BK115.out),(by (with_reducible repeat (first | apply bkN | apply bkd | apply bka));exact BK132.out),GW132.out,GE132.out,NB0_132.out,NB132_0.out,NB115_132.out,NB132_115.out,(by repeat (first | (with_reducible first | exact HI0.out | apply I51.alloc | apply I51.drewN | apply I51.drew | apply I51.set_0 | apply I51.set_1 | refine I51.far ?_ NB0_115.out _ | refine I51.far ?_ NB0_132.out _) | exact HI0.out)),(by repeat (first | (with_reducible first | exact HK.out | apply KeepBut.set_ | apply kpN | apply keep_drew | apply keep_alloc | refine keep_far ?_ GW115.out _ | refine keep_far ?_ GW132.out _) | exact HK.out)),(by repeat (first | (with_reducible first | exact HB.out | apply bwa | apply pwN | apply bw1 | refine bws ?_ (I51.ge HI0.out) | refine bws ?_ GE115.out | refine bws ?_ GE132.out) | exact HB.out))⟩)
        ·skip
         rintro v125 w17 ⟨h0_,h1_,h2_,h3_,h4_,h5_⟩
         have n0_ : AZ0 (Kd.R (Kd.int .u8) 5 w17 w.heap.size (fun _ => True) v125 t124) :=⟨h0_⟩
         have n1_ : AZ0 (Kd.R k83 83 w17 w.heap.size (fun k_ => some k_ ≠ (v125 : Value).ownBlock) u116001 x116001_1) :=⟨h1_⟩
         have n2_ : AZ0 (w17.heap[gb115]? = some (.cells #[.string (strOfNums t116),u116001] 43 (0,0))) :=⟨h2_⟩
         have n3_ : AZ0 (I51 w0 w17 g t127 t128) :=⟨h3_⟩
         have n4_ : AZ0 (KeepBut w w17 g none) :=⟨h4_⟩
         have n5_ : AZ0 (Below w0.heap.size w0 w17) :=⟨h5_⟩
         clear HO_116001
         clear BK115
         clear HI0
         clear HK
         clear HB
         clear h0_ h1_ h2_ h3_ h4_ h5_
         have HO126 :=n0_
         have HO_116001 :=n1_
         have BK115 :=n2_
         have HI0 :=n3_
         have HK :=n4_
         have HB :=n5_
         clear n0_ n1_ n2_ n3_ n4_ n5_
         have hHeld :=trivial
         refine norm_ (a' :=?_) ?_ ?_
         rotate_left
         ·simp only [putAll,Act.put,List.setIfInBounds_toArray,List.set_cons_zero,List.set_cons_succ]
          rfl
         refine two_ (i :=4) (j :=7) (Ni :=some 27) (Nj :=some 6) #[true,true,true,true,true,false,false,false,false] #[true,true,true,true,false,false,false,true,false] rfl rfl rfl rfl (two_of HT_.out (by kernel_rfl)) (by decide) (by decide) (fun K hK => ?_) (fun K hK => ?_)
         ·skip
          refine goesC_ Tryz.func13 (by kernel_rfl) rfl #[.pointer (some ⟨g,0,none⟩),.int .i64 8] (by rfl) rfl rfl rfl (by (try simp only [List.map_toArray,List.map_cons,List.map_nil]);first | done | rfl | (simp only [List.length_drop,List.length_take];rfl)) ?_
          with_reducible refine (play_reader_num.calls k1 g t127 t128 8 t129 t130 t131 w0 _ ?side1 ?side2 A12.out).mono ?_
          (case side1 => repeat (first | (with_reducible first | exact HI0.out | apply I51.alloc | apply I51.drewN | apply I51.drew | apply I51.set_0 | apply I51.set_1 | refine I51.far ?_ NB0_115.out _) | exact HI0.out))
          (case side2 => repeat (first | (with_reducible first | exact HB.out | apply bwa | apply pwN | apply bw1 | refine bws ?_ (I51.ge HI0.out) | refine bws ?_ GE115.out) | exact HB.out))
          rintro e w18 ⟨rfl,hi,hb,hk⟩
          refine ⟨_,rfl,?_⟩
          have n0_ :=AZ0.mk (Kd.R_mono (Kd.R_keep (I51.apart (show I51 w0 _ g t127 t128 from by repeat (first | (with_reducible first | exact HI0.out | apply I51.alloc | apply I51.drewN | apply I51.drew | apply I51.set_0 | apply I51.set_1 | refine I51.far ?_ NB0_115.out _) | exact HI0.out)) (by (with_reducible repeat (first | apply Kd.R_alloc | apply Kd.R_drewN | apply Kd.R_drew));exact HO_116001.out) (by decide)) hk (fun _ h => h.2)) (fun _ h => h.1))
          have n1_ :=AZ0.mk (KeepBut.blk hk (g' :=gb115) (o :=.cells #[.string (strOfNums t116),u116001] 43 (0,0)) (by (with_reducible repeat (first | apply bkN | apply bkd | apply bka));exact BK115.out) NB115_0.out (by simp))
          have n2_ :=AZ0.mk (Kd.R_mono (Kd.R_keep (I51.apart (show I51 w0 _ g t127 t128 from by repeat (first | (with_reducible first | exact HI0.out | apply I51.alloc | apply I51.drewN | apply I51.drew | apply I51.set_0 | apply I51.set_1 | refine I51.far ?_ NB0_115.out _) | exact HI0.out)) (by (with_reducible repeat (first | apply Kd.R_alloc | apply Kd.R_drewN | apply Kd.R_drew));exact HO126.out) (by decide)) hk (fun _ h => h.2)) (fun _ h => h.1))
          have n3_ :=AZ0.mk (KeepBut.trans (by repeat (first | (with_reducible first | exact HK.out | apply KeepBut.set_ | apply kpN | apply keep_drew | apply keep_alloc | refine keep_far ?_ GW115.out _) | exact HK.out)) hk (.inl rfl))
          have n4_ :=AZ0.mk (hb)
          have n5_ :=AZ0.mk (hi)
          clear HO_116001
          clear BK115
          clear HO126
          clear HK
          clear HB
          clear HI0
          have HO_116001 :=n0_
          have BK115 :=n1_
          have HO126 :=n2_
          have HK :=n3_
          have HB :=n4_
          have HI0 :=n5_
          clear n0_ n1_ n2_ n3_ n4_ n5_
          (try clear hb)
          (try clear hb2)
          (try clear hk)
          (try clear hi)
          refine hK.out _ _ trivial (fun hHeld => ?_)
          clear hK K
          refine norm_ (a' :=?_) ?_ ?_
          rotate_left
          ·show Act.put _ (some 27) _ = _
           simp only [Act.put,List.setIfInBounds_toArray,List.set_cons_zero,List.set_cons_succ,i64_w,i32_w]
           rfl
          refine pure_ (i :=5) (N :=some 28) (v :=?_) (a' :=?_) #[true,true,true,true,true,true,false,false,false] rfl rfl (any_of HT_.out (by kernel_rfl)) (fun _ _ _ h => h) (Or.inl ⟨by rfl,?_⟩) ?_ ?_
          rotate_left
          ·intro w'
           go_simp
           with_reducible rfl
          rotate_left
          ·simp only [Act.put,List.setIfInBounds_toArray,List.set_cons_zero,List.set_cons_succ,i64_w,i32_w]
           rfl
          refine pure_ (i :=6) (N :=some 29) (v :=?_) (a' :=?_) #[true,true,true,true,true,true,true,false,false] rfl rfl (any_of HT_.out (by kernel_rfl)) (fun _ _ _ h => h) (Or.inl ⟨by rfl,?_⟩) ?_ ?_
          rotate_left
          ·intro w'
           go_simp
           with_reducible rfl
          rotate_left
          ·simp only [Act.put,List.setIfInBounds_toArray,List.set_cons_zero,List.set_cons_succ,i64_w,i32_w]
           rfl
          exact norm_ (by first | (simp only [putAll,Act.put,List.setIfInBounds_toArray,List.set_cons_zero,List.set_cons_succ];done) | (simp only [putAll,Act.put,List.setIfInBounds_toArray,List.set_cons_zero,List.set_cons_succ];rfl)) (hJ1_2_4 (v125) _ ⟨(by (with_reducible repeat (first | apply Kd.R_alloc | apply Kd.R_drewN | apply Kd.R_drew));exact HO126.out),(by (with_reducible repeat (first | apply Kd.R_alloc | apply Kd.R_drewN | apply Kd.R_drew));exact HO_116001.out),(by (with_reducible repeat (first | apply bkN | apply bkd | apply bka));exact BK115.out),(by repeat (first | (with_reducible first | exact HI0.out | apply I51.alloc | apply I51.drewN | apply I51.drew | apply I51.set_0 | apply I51.set_1 | refine I51.far ?_ NB0_115.out _) | exact HI0.out)),(by repeat (first | (with_reducible first | exact HK.out | apply KeepBut.set_ | apply kpN | apply keep_drew | apply keep_alloc | refine keep_far ?_ GW115.out _) | exact HK.out)),(by repeat (first | (with_reducible first | exact HB.out | apply bwa | apply pwN | apply bw1 | refine bws ?_ (I51.ge HI0.out) | refine bws ?_ GE115.out) | exact HB.out))⟩)
         ·skip
          refine box_step ?hg (N :=6) ?hd (cs :=#[.string ⟨#[]⟩,.int .i64 0,.slice none 0 0]) (t :=83) ?hr ?_;(case hd => rfl);(case hg => rfl);(case hr => first | (go_simp;done) | (go_simp;rfl))
          intro gb132 hg w18 hbox hb
          have n0_ :=AZ0.mk (Kd.R_below (Kd.R_elderB (by (with_reducible repeat (first | apply Kd.R_alloc | apply Kd.R_drewN | apply Kd.R_drew));exact HO_116001.out) gb132 (Nat.le_of_eq hg.symm)) hb)
          have n1_ :=AZ0.mk (Kd.R_below (by (with_reducible repeat (first | apply Kd.R_alloc | apply Kd.R_drewN | apply Kd.R_drew));exact HO126.out) hb)
          have n2_ :=AZ0.mk (blk_below (g :=gb115) (o :=.cells #[.string (strOfNums t116),u116001] 43 (0,0)) (by (with_reducible repeat (first | apply bkN | apply bkd | apply bka));exact BK115.out) hb)
          have n3_ :=AZ0.mk (I51.below (by repeat (first | (with_reducible first | exact HI0.out | apply I51.alloc | apply I51.drewN | apply I51.drew | apply I51.set_0 | apply I51.set_1 | refine I51.far ?_ NB0_115.out _) | exact HI0.out)) hb)
          have n4_ :=AZ0.mk (KeepBut.trans (by repeat (first | (with_reducible first | exact HK.out | apply KeepBut.set_ | apply kpN | apply keep_drew | apply keep_alloc | refine keep_far ?_ GW115.out _) | exact HK.out)) (KeepBut.of_below hb g none) (.inl rfl))
          have n5_ :=AZ0.mk (below_step (by repeat (first | (with_reducible first | exact HB.out | apply bwa | apply pwN | apply bw1 | refine bws ?_ (I51.ge HI0.out) | refine bws ?_ GE115.out) | exact HB.out)) hb)
          have n6_ :=AZ0.mk (hbox)
          have n7_ :=AZ0.mk ((by rw [hg];exact (keep_size (w :=w) (g :=g) (row :=none) (by repeat (first | (with_reducible first | exact HK.out | apply KeepBut.set_ | apply kpN | apply keep_drew | apply keep_alloc | refine keep_far ?_ GW115.out _) | exact HK.out))) : w.heap.size ≤ gb132))
          have n8_ :=AZ0.mk ((Nat.le_trans HW0.out (by rw [hg];exact (keep_size (w :=w) (g :=g) (row :=none) (by repeat (first | (with_reducible first | exact HK.out | apply KeepBut.set_ | apply kpN | apply keep_drew | apply keep_alloc | refine keep_far ?_ GW115.out _) | exact HK.out))) : w.heap.size ≤ gb132) : w0.heap.size ≤ gb132))
          have n9_ :=AZ0.mk ((by rw [hg];exact Nat.ne_of_lt (blk_lt (g :=gb115) (o :=.cells #[.string (strOfNums t116),u116001] 43 (0,0)) (by (with_reducible repeat (first | apply bkN | apply bkd | apply bka));exact BK115.out)) : gb115 ≠ gb132))
          have n10_ :=AZ0.mk ((by rw [hg];exact Nat.ne_of_gt (blk_lt (g :=gb115) (o :=.cells #[.string (strOfNums t116),u116001] 43 (0,0)) (by (with_reducible repeat (first | apply bkN | apply bkd | apply bka));exact BK115.out)) : gb132 ≠ gb115))
          have n11_ :=AZ0.mk ((by rw [hg];exact Nat.ne_of_lt (I51.lt (show I51 w0 _ g t127 t128 from by repeat (first | (with_reducible first | exact HI0.out | apply I51.alloc | apply I51.drewN | apply I51.drew | apply I51.set_0 | apply I51.set_1 | refine I51.far ?_ NB0_115.out _) | exact HI0.out))) : g ≠ gb132))
          have n12_ :=AZ0.mk ((by rw [hg];exact Nat.ne_of_gt (I51.lt (show I51 w0 _ g t127 t128 from by repeat (first | (with_reducible first | exact HI0.out | apply I51.alloc | apply I51.drewN | apply I51.drew | apply I51.set_0 | apply I51.set_1 | refine I51.far ?_ NB0_115.out _) | exact HI0.out))) : gb132 ≠ g))
          clear HO_116001
          clear HO126
          clear BK115
          clear HI0
          clear HK
          clear HB
          have HO_116001 :=n0_
          have HO126 :=n1_
          have BK115 :=n2_
          have HI0 :=n3_
          have HK :=n4_
          have HB :=n5_
          have BK132 :=n6_
          have GW132 :=n7_
          have GE132 :=n8_
          have NB115_132 :=n9_
          have NB132_115 :=n10_
          have NB0_132 :=n11_
          have NB132_0 :=n12_
          clear n0_ n1_ n2_ n3_ n4_ n5_ n6_ n7_ n8_ n9_ n10_ n11_ n12_
          clear hb hbox hg
          refine hK.out _ _ trivial (fun hHeld => ?_)
          clear hK K
          refine norm_ (a' :=?_) ?_ ?_
          rotate_left
          ·show Act.put _ (some 6) _ = _
           simp only [Act.put,List.setIfInBounds_toArray,List.set_cons_zero,List.set_cons_succ,i64_w,i32_w]
           rfl
          exact norm_ (by first | (simp only [putAll,Act.put,List.setIfInBounds_toArray,List.set_cons_zero,List.set_cons_succ];done) | (simp only [putAll,Act.put,List.setIfInBounds_toArray,List.set_cons_zero,List.set_cons_succ];rfl)) (hJ1_2_7 (v125,gb132) _ ⟨(by (with_reducible repeat (first | apply Kd.R_alloc | apply Kd.R_drewN | apply Kd.R_drew));exact HO126.out),(by (with_reducible repeat (first | apply Kd.R_alloc | apply Kd.R_drewN | apply Kd.R_drew));exact HO_116001.out),(by (with_reducible repeat (first | apply bkN | apply bkd | apply bka));exact BK115.out),(by (with_reducible repeat (first | apply bkN | apply bkd | apply bka));exact BK132.out),GW132.out,GE132.out,NB0_132.out,NB132_0.out,NB115_132.out,NB132_115.out,(by repeat (first | (with_reducible first | exact HI0.out | apply I51.alloc | apply I51.drewN | apply I51.drew | apply I51.set_0 | apply I51.set_1 | refine I51.far ?_ NB0_115.out _ | refine I51.far ?_ NB0_132.out _) | exact HI0.out)),(by repeat (first | (with_reducible first | exact HK.out | apply KeepBut.set_ | apply kpN | apply keep_drew | apply keep_alloc | refine keep_far ?_ GW115.out _ | refine keep_far ?_ GW132.out _) | exact HK.out)),(by repeat (first | (with_reducible first | exact HB.out | apply bwa | apply pwN | apply bw1 | refine bws ?_ (I51.ge HI0.out) | refine bws ?_ GE115.out | refine bws ?_ GE132.out) | exact HB.out))⟩)
       ·skip
        rintro ⟨v125,gb132⟩ w18 ⟨h0_,h1_,h2_,h3_,h4_,h5_,h6_,h7_,h8_,h9_,h10_,h11_,h12_⟩
        have n0_ : AZ0 (Kd.R (Kd.int .u8) 5 w18 w.heap.size (fun _ => True) v125 t124) :=⟨h0_⟩
        have n1_ : AZ0 (Kd.R k83 83 w18 w.heap.size (fun k_ => some k_ ≠ (v125 : Value).ownBlock ∧ k_ ≠ gb132) u116001 x116001_1) :=⟨h1_⟩
        have n2_ : AZ0 (w18.heap[gb115]? = some (.cells #[.string (strOfNums t116),u116001] 43 (0,0))) :=⟨h2_⟩
        have n3_ : AZ0 (w18.heap[gb132]? = some (.cells #[.string ⟨#[]⟩,.int .i64 0,.slice none 0 0] 83 (0,0))) :=⟨h3_⟩
        have n4_ : AZ0 (w.heap.size ≤ gb132) :=⟨h4_⟩
        have n5_ : AZ0 (w0.heap.size ≤ gb132) :=⟨h5_⟩
        have n6_ : AZ0 (g ≠ gb132) :=⟨h6_⟩
        have n7_ : AZ0 (gb132 ≠ g) :=⟨h7_⟩
        have n8_ : AZ0 (gb115 ≠ gb132) :=⟨h8_⟩
        have n9_ : AZ0 (gb132 ≠ gb115) :=⟨h9_⟩
        have n10_ : AZ0 (I51 w0 w18 g t130 t131) :=⟨h10_⟩
        have n11_ : AZ0 (KeepBut w w18 g none) :=⟨h11_⟩
        have n12_ : AZ0 (Below w0.heap.size w0 w18) :=⟨h12_⟩
        clear HO_116001
        clear BK115
        clear HI0
        clear HK
        clear HB
        clear h0_ h1_ h2_ h3_ h4_ h5_ h6_ h7_ h8_ h9_ h10_ h11_ h12_
        have HO126 :=n0_
        have HO_116001 :=n1_
        have BK115 :=n2_
        have BK132 :=n3_
        have GW132 :=n4_
        have GE132 :=n5_
        have NB0_132 :=n6_
        have NB132_0 :=n7_
        have NB115_132 :=n8_
        have NB132_115 :=n9_
        have HI0 :=n10_
        have HK :=n11_
        have HB :=n12_
        clear n0_ n1_ n2_ n3_ n4_ n5_ n6_ n7_ n8_ n9_ n10_ n11_ n12_
        have hHeld :=trivial
        refine norm_ (a' :=?_) ?_ ?_
        rotate_left
        ·simp only [putAll,Act.put,List.setIfInBounds_toArray,List.set_cons_zero,List.set_cons_succ]
         rfl
        refine one_ (i :=2) (N :=some 25) #[true,true,true,true,true,true,false,true,false] rfl rfl (one_of HT_.out (by kernel_rfl)) (by decide) (fun K hK => ?_)
        have hcv19 :=own_string (P :=Tryz.prog) Tryz.underlying22 Tryz.underlying5 Tryz.underlying9 (Kd.own_of_R HO126.out)
        refine value_ (w1 :=?_) (v :=?_) (by rfl) rfl ?_ ?_
        rotate_left 2
        ·go_simp
         constructor
         ·rfl
         ·rfl
        clear hcv19
        refine hK.out _ _ trivial (fun hHeld => ?_)
        clear hK K
        refine norm_ (a' :=?_) ?_ ?_
        rotate_left
        ·show Act.put _ (some 25) _ = _
         simp only [Act.put,List.setIfInBounds_toArray,List.set_cons_zero,List.set_cons_succ,i64_w,i32_w]
         rfl
        refine pure_ (i :=6) (N :=some 29) (v :=?_) (a' :=?_) #[true,true,true,true,true,true,true,true,false] rfl rfl (any_of HT_.out (by kernel_rfl)) (fun _ _ _ h => h) (Or.inl ⟨by rfl,?_⟩) ?_ ?_
        rotate_left
        ·intro w'
         go_simp
         with_reducible rfl
        rotate_left
        ·simp only [Act.put,List.setIfInBounds_toArray,List.set_cons_zero,List.set_cons_succ,i64_w,i32_w]
         rfl
        exact norm_ (by first | (simp only [putAll,Act.put,List.setIfInBounds_toArray,List.set_cons_zero,List.set_cons_succ];done) | (simp only [putAll,Act.put,List.setIfInBounds_toArray,List.set_cons_zero,List.set_cons_succ];rfl)) (hJ1_2_4_7 (v125,gb132) _ ⟨(by (with_reducible repeat (first | apply Kd.R_alloc | apply Kd.R_drewN | apply Kd.R_drew));exact HO126.out),(by (with_reducible repeat (first | apply Kd.R_alloc | apply Kd.R_drewN | apply Kd.R_drew));exact HO_116001.out),(by (with_reducible repeat (first | apply bkN | apply bkd | apply bka));exact BK115.out),(by (with_reducible repeat (first | apply bkN | apply bkd | apply bka));exact BK132.out),GW132.out,GE132.out,NB0_132.out,NB132_0.out,NB115_132.out,NB132_115.out,(by repeat (first | (with_reducible first | exact HI0.out | apply I51.alloc | apply I51.drewN | apply I51.drew | apply I51.set_0 | apply I51.set_1 | refine I51.far ?_ NB0_115.out _ | refine I51.far ?_ NB0_132.out _) | exact HI0.out)),(by repeat (first | (with_reducible first | exact HK.out | apply KeepBut.set_ | apply kpN | apply keep_drew | apply keep_alloc | refine keep_far ?_ GW115.out _ | refine keep_far ?_ GW132.out _) | exact HK.out)),(by repeat (first | (with_reducible first | exact HB.out | apply bwa | apply pwN | apply bw1 | refine bws ?_ (I51.ge HI0.out) | refine bws ?_ GE115.out | refine bws ?_ GE132.out) | exact HB.out))⟩)
      ·skip
       rintro ⟨v125,gb132⟩ w18 ⟨h0_,h1_,h2_,h3_,h4_,h5_,h6_,h7_,h8_,h9_,h10_,h11_,h12_⟩
       have n0_ : AZ0 (Kd.R (Kd.int .u8) 5 w18 w.heap.size (fun _ => True) v125 t124) :=⟨h0_⟩
       have n1_ : AZ0 (Kd.R k83 83 w18 w.heap.size (fun k_ => some k_ ≠ (v125 : Value).ownBlock ∧ k_ ≠ gb132) u116001 x116001_1) :=⟨h1_⟩
       have n2_ : AZ0 (w18.heap[gb115]? = some (.cells #[.string (strOfNums t116),u116001] 43 (0,0))) :=⟨h2_⟩
       have n3_ : AZ0 (w18.heap[gb132]? = some (.cells #[.string ⟨#[]⟩,.int .i64 0,.slice none 0 0] 83 (0,0))) :=⟨h3_⟩
       have n4_ : AZ0 (w.heap.size ≤ gb132) :=⟨h4_⟩
       have n5_ : AZ0 (w0.heap.size ≤ gb132) :=⟨h5_⟩
       have n6_ : AZ0 (g ≠ gb132) :=⟨h6_⟩
       have n7_ : AZ0 (gb132 ≠ g) :=⟨h7_⟩
       have n8_ : AZ0 (gb115 ≠ gb132) :=⟨h8_⟩
       have n9_ : AZ0 (gb132 ≠ gb115) :=⟨h9_⟩
       have n10_ : AZ0 (I51 w0 w18 g t127 t128) :=⟨h10_⟩
       have n11_ : AZ0 (KeepBut w w18 g none) :=⟨h11_⟩
       have n12_ : AZ0 (Below w0.heap.size w0 w18) :=⟨h12_⟩
       clear HO_116001
       clear BK115
       clear HI0
       clear HK
       clear HB
       clear h0_ h1_ h2_ h3_ h4_ h5_ h6_ h7_ h8_ h9_ h10_ h11_ h12_
       have HO126 :=n0_
       have HO_116001 :=n1_
       have BK115 :=n2_
       have BK132 :=n3_
       have GW132 :=n4_
       have GE132 :=n5_
       have NB0_132 :=n6_
       have NB132_0 :=n7_
       have NB115_132 :=n8_
       have NB132_115 :=n9_
       have HI0 :=n10_
       have HK :=n11_
       have HB :=n12_
       clear n0_ n1_ n2_ n3_ n4_ n5_ n6_ n7_ n8_ n9_ n10_ n11_ n12_
       have hHeld :=trivial
       refine norm_ (a' :=?_) ?_ ?_
       rotate_left
       ·simp only [putAll,Act.put,List.setIfInBounds_toArray,List.set_cons_zero,List.set_cons_succ]
        rfl
       refine one_ (i :=4) (N :=some 27) #[true,true,true,true,true,false,false,true,false] rfl rfl (one_of HT_.out (by kernel_rfl)) (by decide) (fun K hK => ?_)
       refine goesC_ Tryz.func13 (by kernel_rfl) rfl #[.pointer (some ⟨g,0,none⟩),.int .i64 8] (by rfl) rfl rfl rfl (by (try simp only [List.map_toArray,List.map_cons,List.map_nil]);first | done | rfl | (simp only [List.length_drop,List.length_take];rfl)) ?_
       with_reducible refine (play_reader_num.calls k1 g t127 t128 8 t129 t130 t131 w0 _ ?side1 ?side2 A12.out).mono ?_
       (case side1 => repeat (first | (with_reducible first | exact HI0.out | apply I51.alloc | apply I51.drewN | apply I51.drew | apply I51.set_0 | apply I51.set_1 | refine I51.far ?_ NB0_115.out _ | refine I51.far ?_ NB0_132.out _) | exact HI0.out))
       (case side2 => repeat (first | (with_reducible first | exact HB.out | apply bwa | apply pwN | apply bw1 | refine bws ?_ (I51.ge HI0.out) | refine bws ?_ GE115.out | refine bws ?_ GE132.out) | exact HB.out))
       rintro e w19 ⟨rfl,hi,hb,hk⟩
       refine ⟨_,rfl,?_⟩
       have n0_ :=AZ0.mk (Kd.R_mono (Kd.R_keep (I51.apart (show I51 w0 _ g t127 t128 from by repeat (first | (with_reducible first | exact HI0.out | apply I51.alloc | apply I51.drewN | apply I51.drew | apply I51.set_0 | apply I51.set_1 | refine I51.far ?_ NB0_115.out _ | refine I51.far ?_ NB0_132.out _) | exact HI0.out)) (by (with_reducible repeat (first | apply Kd.R_alloc | apply Kd.R_drewN | apply Kd.R_drew));exact HO_116001.out) (by decide)) hk (fun _ h => h.2)) (fun _ h => h.1))
       have n1_ :=AZ0.mk (KeepBut.blk hk (g' :=gb115) (o :=.cells #[.string (strOfNums t116),u116001] 43 (0,0)) (by (with_reducible repeat (first | apply bkN | apply bkd | apply bka));exact BK115.out) NB115_0.out (by simp))
       have n2_ :=AZ0.mk (Kd.R_mono (Kd.R_keep (I51.apart (show I51 w0 _ g t127 t128 from by repeat (first | (with_reducible first | exact HI0.out | apply I51.alloc | apply I51.drewN | apply I51.drew | apply I51.set_0 | apply I51.set_1 | refine I51.far ?_ NB0_115.out _ | refine I51.far ?_ NB0_132.out _) | exact HI0.out)) (by (with_reducible repeat (first | apply Kd.R_alloc | apply Kd.R_drewN | apply Kd.R_drew));exact HO126.out) (by decide)) hk (fun _ h => h.2)) (fun _ h => h.1))
       have n3_ :=AZ0.mk (KeepBut.blk hk (g' :=gb132) (o :=.cells #[.string ⟨#[]⟩,.int .i64 0,.slice none 0 0] 83 (0,0)) (by (with_reducible repeat (first | apply bkN | apply bkd | apply bka));exact BK132.out) NB132_0.out (by simp))
       have n4_ :=AZ0.mk (KeepBut.trans (by repeat (first | (with_reducible first | exact HK.out | apply KeepBut.set_ | apply kpN | apply keep_drew | apply keep_alloc | refine keep_far ?_ GW115.out _ | refine keep_far ?_ GW132.out _) | exact HK.out)) hk (.inl rfl))
       have n5_ :=AZ0.mk (hb)
       have n6_ :=AZ0.mk (hi)
       clear HO_116001
       clear BK115
       clear HO126
       clear BK132
       clear HK
       clear HB
       clear HI0
       have HO_116001 :=n0_
       have BK115 :=n1_
       have HO126 :=n2_
       have BK132 :=n3_
       have HK :=n4_
       have HB :=n5_
       have HI0 :=n6_
       clear n0_ n1_ n2_ n3_ n4_ n5_ n6_
       (try clear hb)
       (try clear hb2)
       (try clear hk)
       (try clear hi)
       refine hK.out _ _ trivial (fun hHeld => ?_)
       clear hK K
       refine norm_ (a' :=?_) ?_ ?_
       rotate_left
       ·show Act.put _ (some 27) _ = _
        simp only [Act.put,List.setIfInBounds_toArray,List.set_cons_zero,List.set_cons_succ,i64_w,i32_w]
        rfl
       refine pure_ (i :=5) (N :=some 28) (v :=?_) (a' :=?_) #[true,true,true,true,true,true,false,true,false] rfl rfl (any_of HT_.out (by kernel_rfl)) (fun _ _ _ h => h) (Or.inl ⟨by rfl,?_⟩) ?_ ?_
       rotate_left
       ·intro w'
        go_simp
        with_reducible rfl
       rotate_left
       ·simp only [Act.put,List.setIfInBounds_toArray,List.set_cons_zero,List.set_cons_succ,i64_w,i32_w]
        rfl
       refine pure_ (i :=6) (N :=some 29) (v :=?_) (a' :=?_) #[true,true,true,true,true,true,true,true,false] rfl rfl (any_of HT_.out (by kernel_rfl)) (fun _ _ _ h => h) (Or.inl ⟨by rfl,?_⟩) ?_ ?_
       rotate_left
       ·intro w'
        go_simp
        with_reducible rfl
       rotate_left
       ·simp only [Act.put,List.setIfInBounds_toArray,List.set_cons_zero,List.set_cons_succ,i64_w,i32_w]
        rfl
       exact norm_ (by first | (simp only [putAll,Act.put,List.setIfInBounds_toArray,List.set_cons_zero,List.set_cons_succ];done) | (simp only [putAll,Act.put,List.setIfInBounds_toArray,List.set_cons_zero,List.set_cons_succ];rfl)) (hJ1_2_4_7 (v125,gb132) _ ⟨(by (with_reducible repeat (first | apply Kd.R_alloc | apply Kd.R_drewN | apply Kd.R_drew));exact HO126.out),(by (with_reducible repeat (first | apply Kd.R_alloc | apply Kd.R_drewN | apply Kd.R_drew));exact HO_116001.out),(by (with_reducible repeat (first | apply bkN | apply bkd | apply bka));exact BK115.out),(by (with_reducible repeat (first | apply bkN | apply bkd | apply bka));exact BK132.out),GW132.out,GE132.out,NB0_132.out,NB132_0.out,NB115_132.out,NB132_115.out,(by repeat (first | (with_reducible first | exact HI0.out | apply I51.alloc | apply I51.drewN | apply I51.drew | apply I51.set_0 | apply I51.set_1 | refine I51.far ?_ NB0_115.out _ | refine I51.far ?_ NB0_132.out _) | exact HI0.out)),(by repeat (first | (with_reducible first | exact HK.out | apply KeepBut.set_ | apply kpN | apply keep_drew | apply keep_alloc | refine keep_far ?_ GW115.out _ | refine keep_far ?_ GW132.out _) | exact HK.out)),(by repeat (first | (with_reducible first | exact HB.out | apply bwa | apply pwN | apply bw1 | refine bws ?_ (I51.ge HI0.out) | refine bws ?_ GE115.out | refine bws ?_ GE132.out) | exact HB.out))⟩)
     ·skip
      rintro v125 w18 ⟨h0_,h1_,h2_,h3_,h4_,h5_⟩
      have n0_ : AZ0 (Kd.R (Kd.int .u8) 5 w18 w.heap.size (fun _ => True) v125 t124) :=⟨h0_⟩
      have n1_ : AZ0 (Kd.R k83 83 w18 w.heap.size (fun k_ => some k_ ≠ (v125 : Value).ownBlock) u116001 x116001_1) :=⟨h1_⟩
      have n2_ : AZ0 (w18.heap[gb115]? = some (.cells #[.string (strOfNums t116),u116001] 43 (0,0))) :=⟨h2_⟩
      have n3_ : AZ0 (I51 w0 w18 g t130 t131) :=⟨h3_⟩
      have n4_ : AZ0 (KeepBut w w18 g none) :=⟨h4_⟩
      have n5_ : AZ0 (Below w0.heap.size w0 w18) :=⟨h5_⟩
      clear HO_116001
      clear BK115
      clear HI0
      clear HK
      clear HB
      clear h0_ h1_ h2_ h3_ h4_ h5_
      have HO126 :=n0_
      have HO_116001 :=n1_
      have BK115 :=n2_
      have HI0 :=n3_
      have HK :=n4_
      have HB :=n5_
      clear n0_ n1_ n2_ n3_ n4_ n5_
      have hHeld :=trivial
      refine norm_ (a' :=?_) ?_ ?_
      rotate_left
      ·simp only [putAll,Act.put,List.setIfInBounds_toArray,List.set_cons_zero,List.set_cons_succ]
       rfl
      refine one_ (i :=7) (N :=some 6) #[true,true,true,true,true,true,true,true,false] rfl rfl (one_of HT_.out (by kernel_rfl)) (by decide) (fun K hK => ?_)
      refine box_step ?hg (N :=6) ?hd (cs :=#[.string ⟨#[]⟩,.int .i64 0,.slice none 0 0]) (t :=83) ?hr ?_;(case hd => rfl);(case hg => rfl);(case hr => first | (go_simp;done) | (go_simp;rfl))
      intro gb132 hg w19 hbox hb
      have n0_ :=AZ0.mk (Kd.R_below (Kd.R_elderB (by (with_reducible repeat (first | apply Kd.R_alloc | apply Kd.R_drewN | apply Kd.R_drew));exact HO_116001.out) gb132 (Nat.le_of_eq hg.symm)) hb)
      have n1_ :=AZ0.mk (Kd.R_below (by (with_reducible repeat (first | apply Kd.R_alloc | apply Kd.R_drewN | apply Kd.R_drew));exact HO126.out) hb)
      have n2_ :=AZ0.mk (blk_below (g :=gb115) (o :=.cells #[.string (strOfNums t116),u116001] 43 (0,0)) (by (with_reducible repeat (first | apply bkN | apply bkd | apply bka));exact BK115.out) hb)
      have n3_ :=AZ0.mk (I51.below (by repeat (first | (with_reducible first | exact HI0.out | apply I51.alloc | apply I51.drewN | apply I51.drew | apply I51.set_0 | apply I51.set_1 | refine I51.far ?_ NB0_115.out _) | exact HI0.out)) hb)
      have n4_ :=AZ0.mk (KeepBut.trans (by repeat (first | (with_reducible first | exact HK.out | apply KeepBut.set_ | apply kpN | apply keep_drew | apply keep_alloc | refine keep_far ?_ GW115.out _) | exact HK.out)) (KeepBut.of_below hb g none) (.inl rfl))
      have n5_ :=AZ0.mk (below_step (by repeat (first | (with_reducible first | exact HB.out | apply bwa | apply pwN | apply bw1 | refine bws ?_ (I51.ge HI0.out) | refine bws ?_ GE115.out) | exact HB.out)) hb)
      have n6_ :=AZ0.mk (hbox)
      have n7_ :=AZ0.mk ((by rw [hg];exact (keep_size (w :=w) (g :=g) (row :=none) (by repeat (first | (with_reducible first | exact HK.out | apply KeepBut.set_ | apply kpN | apply keep_drew | apply keep_alloc | refine keep_far ?_ GW115.out _) | exact HK.out))) : w.heap.size ≤ gb132))
      have n8_ :=AZ0.mk ((Nat.le_trans HW0.out (by rw [hg];exact (keep_size (w :=w) (g :=g) (row :=none) (by repeat (first | (with_reducible first | exact HK.out | apply KeepBut.set_ | apply kpN | apply keep_drew | apply keep_alloc | refine keep_far ?_ GW115.out _) | exact HK.out))) : w.heap.size ≤ gb132) : w0.heap.size ≤ gb132))
      have n9_ :=AZ0.mk ((by rw [hg];exact Nat.ne_of_lt (blk_lt (g :=gb115) (o :=.cells #[.string (strOfNums t116),u116001] 43 (0,0)) (by (with_reducible repeat (first | apply bkN | apply bkd | apply bka));exact BK115.out)) : gb115 ≠ gb132))
      have n10_ :=AZ0.mk ((by rw [hg];exact Nat.ne_of_gt (blk_lt (g :=gb115) (o :=.cells #[.string (strOfNums t116),u116001] 43 (0,0)) (by (with_reducible repeat (first | apply bkN | apply bkd | apply bka));exact BK115.out)) : gb132 ≠ gb115))
      have n11_ :=AZ0.mk ((by rw [hg];exact Nat.ne_of_lt (I51.lt (show I51 w0 _ g t130 t131 from by repeat (first | (with_reducible first | exact HI0.out | apply I51.alloc | apply I51.drewN | apply I51.drew | apply I51.set_0 | apply I51.set_1 | refine I51.far ?_ NB0_115.out _) | exact HI0.out))) : g ≠ gb132))
      have n12_ :=AZ0.mk ((by rw [hg];exact Nat.ne_of_gt (I51.lt (show I51 w0 _ g t130 t131 from by repeat (first | (with_reducible first | exact HI0.out | apply I51.alloc | apply I51.drewN | apply I51.drew | apply I51.set_0 | apply I51.set_1 | refine I51.far ?_ NB0_115.out _) | exact HI0.out))) : gb132 ≠ g))
      clear HO_116001
      clear HO126
      clear BK115
      clear HI0
      clear HK
      clear HB
      have HO_116001 :=n0_
      have HO126 :=n1_
      have BK115 :=n2_
      have HI0 :=n3_
      have HK :=n4_
      have HB :=n5_
      have BK132 :=n6_
      have GW132 :=n7_
      have GE132 :=n8_
      have NB115_132 :=n9_
      have NB132_115 :=n10_
      have NB0_132 :=n11_
      have NB132_0 :=n12_
      clear n0_ n1_ n2_ n3_ n4_ n5_ n6_ n7_ n8_ n9_ n10_ n11_ n12_
      clear hb hbox hg
      refine hK.out _ _ trivial (fun hHeld => ?_)
      clear hK K
      refine norm_ (a' :=?_) ?_ ?_
      rotate_left
      ·show Act.put _ (some 6) _ = _
       simp only [Act.put,List.setIfInBounds_toArray,List.set_cons_zero,List.set_cons_succ,i64_w,i32_w]
       rfl
      exact norm_ (by first | (simp only [putAll,Act.put,List.setIfInBounds_toArray,List.set_cons_zero,List.set_cons_succ];done) | (simp only [putAll,Act.put,List.setIfInBounds_toArray,List.set_cons_zero,List.set_cons_succ];rfl)) (hJ1_2_4_7 (v125,gb132) _ ⟨(by (with_reducible repeat (first | apply Kd.R_alloc | apply Kd.R_drewN | apply Kd.R_drew));exact HO126.out),(by (with_reducible repeat (first | apply Kd.R_alloc | apply Kd.R_drewN | apply Kd.R_drew));exact HO_116001.out),(by (with_reducible repeat (first | apply bkN | apply bkd | apply bka));exact BK115.out),(by (with_reducible repeat (first | apply bkN | apply bkd | apply bka));exact BK132.out),GW132.out,GE132.out,NB0_132.out,NB132_0.out,NB115_132.out,NB132_115.out,(by repeat (first | (with_reducible first | exact HI0.out | apply I51.alloc | apply I51.drewN | apply I51.drew | apply I51.set_0 | apply I51.set_1 | refine I51.far ?_ NB0_115.out _ | refine I51.far ?_ NB0_132.out _) | exact HI0.out)),(by repeat (first | (with_reducible first | exact HK.out | apply KeepBut.set_ | apply kpN | apply keep_drew | apply keep_alloc | refine keep_far ?_ GW115.out _ | refine keep_far ?_ GW132.out _) | exact HK.out)),(by repeat (first | (with_reducible first | exact HB.out | apply bwa | apply pwN | apply bw1 | refine bws ?_ (I51.ge HI0.out) | refine bws ?_ GE115.out | refine bws ?_ GE132.out) | exact HB.out))⟩)
    rintro ⟨v125,gb132⟩ w19 ⟨h0_,h1_,h2_,h3_,h4_,h5_,h6_,h7_,h8_,h9_,h10_,h11_,h12_⟩
    have n0_ : AZ0 (Kd.R (Kd.int .u8) 5 w19 w.heap.size (fun _ => True) v125 t124) :=⟨h0_⟩
    have n1_ : AZ0 (Kd.R k83 83 w19 w.heap.size (fun k_ => some k_ ≠ (v125 : Value).ownBlock ∧ k_ ≠ gb132) u116001 x116001_1) :=⟨h1_⟩
    have n2_ : AZ0 (w19.heap[gb115]? = some (.cells #[.string (strOfNums t116),u116001] 43 (0,0))) :=⟨h2_⟩
    have n3_ : AZ0 (w19.heap[gb132]? = some (.cells #[.string ⟨#[]⟩,.int .i64 0,.slice none 0 0] 83 (0,0))) :=⟨h3_⟩
    have n4_ : AZ0 (w.heap.size ≤ gb132) :=⟨h4_⟩
    have n5_ : AZ0 (w0.heap.size ≤ gb132) :=⟨h5_⟩
    have n6_ : AZ0 (g ≠ gb132) :=⟨h6_⟩
    have n7_ : AZ0 (gb132 ≠ g) :=⟨h7_⟩
    have n8_ : AZ0 (gb115 ≠ gb132) :=⟨h8_⟩
    have n9_ : AZ0 (gb132 ≠ gb115) :=⟨h9_⟩
    have n10_ : AZ0 (I51 w0 w19 g t130 t131) :=⟨h10_⟩
    have n11_ : AZ0 (KeepBut w w19 g none) :=⟨h11_⟩
    have n12_ : AZ0 (Below w0.heap.size w0 w19) :=⟨h12_⟩
    clear HO_116001
    clear BK115
    clear HI0
    clear HK
    clear HB
    clear h0_ h1_ h2_ h3_ h4_ h5_ h6_ h7_ h8_ h9_ h10_ h11_ h12_
    have HO126 :=n0_
    have HO_116001 :=n1_
    have BK115 :=n2_
    have BK132 :=n3_
    have GW132 :=n4_
    have GE132 :=n5_
    have NB0_132 :=n6_
    have NB132_0 :=n7_
    have NB115_132 :=n8_
    have NB132_115 :=n9_
    have HI0 :=n10_
    have HK :=n11_
    have HB :=n12_
    clear n0_ n1_ n2_ n3_ n4_ n5_ n6_ n7_ n8_ n9_ n10_ n11_ n12_
    have hHeld :=trivial
    refine norm_ (a' :=?_) ?_ ?_
    rotate_left
    ·simp only [putAll,Act.put,List.setIfInBounds_toArray,List.set_cons_zero,List.set_cons_succ]
     rfl
    refine one_ (i :=8) (N :=none) #[true,true,true,true,true,true,true,true,true] rfl rfl (one_of HT_.out (by kernel_rfl)) (by decide) (fun K hK => ?_)
    have hs20 : w19.cell? ⟨gb132,0,none⟩ = some (.string ⟨#[]⟩) :=(bkc BK132.out 0).trans rfl
    have hfs20 :=bkz BK132.out 0
    have hns20_0 :=NB115_132.out
    have hms20_0 :=NB132_115.out
    have hs21 : w19.cell? ⟨gb132,1,none⟩ = some (.int .i64 0) :=(bkc BK132.out 1).trans rfl
    have hfs21 :=bkz BK132.out 1
    have hns21_0 :=NB115_132.out
    have hms21_0 :=NB132_115.out
    have hs22 : w19.cell? ⟨gb132,2,none⟩ = some (.slice none 0 0) :=(bkc BK132.out 2).trans rfl
    have hfs22 :=bkz BK132.out 2
    have hns22_0 :=NB115_132.out
    have hms22_0 :=NB132_115.out
    refine skip_ (w1 :=?_) (by rfl) rfl ?_ ?_
    rotate_left
    ·go_simp
     rfl
    refine hK.out _ _ trivial (fun hHeld => ?_)
    clear hK K
    refine done_ (done_of HT_.out (by kernel_rfl)) ?_
    try go_wp2_with (first | ((with_reducible refine gate_clos rfl ?_);refine goesLC_ (some 31) rfl rfl Tryz.func13 (by kernel_rfl) rfl #[.pointer (some ⟨g,0,none⟩),.int .i64 1] rfl rfl (by (try simp only [List.map_toArray,List.map_cons,List.map_nil]);first | done | rfl | (simp only [List.length_drop,List.length_take];rfl)) ?_;(with_reducible refine (play_reader_num.calls k1 g t130 t131 1 t133 t134 t135 w0 _ ?side1 ?side2 A13.out).mono ?_);(case side1 => repeat (first | (with_reducible first | exact HI0.out | apply I51.alloc | apply I51.drewN | apply I51.drew | apply I51.set_0 | apply I51.set_1 | refine I51.far ?_ NB0_115.out _ | refine I51.far ?_ NB0_132.out _) | exact HI0.out));(case side2 => repeat (first | (with_reducible first | exact HB.out | apply bwa | apply pwN | apply bw1 | refine bws ?_ (I51.ge HI0.out) | refine bws ?_ GE115.out | refine bws ?_ GE132.out) | exact HB.out));rintro e w23 ⟨rfl,hi,hb,hk⟩;refine ⟨_,rfl,?_⟩;have n0_ :=AZ0.mk (Kd.R_mono (Kd.R_keep (I51.apart (show I51 w0 _ g t130 t131 from by repeat (first | (with_reducible first | exact HI0.out | apply I51.alloc | apply I51.drewN | apply I51.drew | apply I51.set_0 | apply I51.set_1 | refine I51.far ?_ NB0_115.out _ | refine I51.far ?_ NB0_132.out _) | exact HI0.out)) (by (with_reducible repeat (first | apply Kd.R_alloc | apply Kd.R_drewN | apply Kd.R_drew));exact (Kd.R_mono (Kd.R_far (p :=⟨gb132,2,none⟩) (Kd.R_far (p :=⟨gb132,1,none⟩) (Kd.R_far (p :=⟨gb132,0,none⟩) (Kd.R_mono HO_116001.out (fun k_ hk => (⟨hk,hk.2⟩ : _ ∧ k_ ≠ gb132))) (fun _ hk => hk.2) (.string (strOfNums t124))) (fun _ hk => hk.2) (.int .i64 (wrap64 (t129)))) (fun _ hk => hk.2) (.slice none 0 0)) (fun _ h_ => h_.1))) (by decide)) hk (fun _ h => h.2)) (fun _ h => h.1));have n1_ :=AZ0.mk (KeepBut.blk hk (g' :=gb115) (o :=.cells #[.string (strOfNums t116),u116001] 43 (0,0)) (by (with_reducible repeat (first | apply bkN | apply bkd | apply bka));refine blk_far ?_ NB115_132.out _;(with_reducible repeat (first | apply bkN | apply bkd | apply bka));refine blk_far ?_ NB115_132.out _;(with_reducible repeat (first | apply bkN | apply bkd | apply bka));refine blk_far ?_ NB115_132.out _;(with_reducible repeat (first | apply bkN | apply bkd | apply bka));exact BK115.out) NB115_0.out (by simp));have n2_ :=AZ0.mk (Kd.R_mono (Kd.R_keep (I51.apart (show I51 w0 _ g t130 t131 from by repeat (first | (with_reducible first | exact HI0.out | apply I51.alloc | apply I51.drewN | apply I51.drew | apply I51.set_0 | apply I51.set_1 | refine I51.far ?_ NB0_115.out _ | refine I51.far ?_ NB0_132.out _) | exact HI0.out)) (by (with_reducible repeat (first | apply Kd.R_alloc | apply Kd.R_drewN | apply Kd.R_drew));exact (Kd.R_mono (Kd.R_far (p :=⟨gb132,2,none⟩) (Kd.R_far (p :=⟨gb132,1,none⟩) (Kd.R_far (p :=⟨gb132,0,none⟩) (Kd.R_types HO126.out BK132.out (by decide)) (fun _ hk => hk.2) (.string (strOfNums t124))) (fun _ hk => hk.2) (.int .i64 (wrap64 (t129)))) (fun _ hk => hk.2) (.slice none 0 0)) (fun _ h_ => h_.1))) (by decide)) hk (fun _ h => h.2)) (fun _ h => h.1));have n3_ :=AZ0.mk (KeepBut.blk hk (g' :=gb132) (o :=.cells #[.string (strOfNums t124),.int .i64 (wrap64 (t129)),.slice none 0 0] 83 (0,0)) (by (with_reducible repeat (first | apply bkN | apply bkd | apply bka));refine blk_put (cs :=#[.string (strOfNums t124),.int .i64 (wrap64 (t129)),.slice none 0 0]) ?_ 2 _ rfl;(with_reducible repeat (first | apply bkN | apply bkd | apply bka));refine blk_put (cs :=#[.string (strOfNums t124),.int .i64 0,.slice none 0 0]) ?_ 1 _ rfl;(with_reducible repeat (first | apply bkN | apply bkd | apply bka));refine blk_put (cs :=#[.string ⟨#[]⟩,.int .i64 0,.slice none 0 0]) ?_ 0 _ rfl;(with_reducible repeat (first | apply bkN | apply bkd | apply bka));exact BK132.out) NB132_0.out (by simp));have n4_ :=AZ0.mk (KeepBut.trans (by repeat (first | (with_reducible first | exact HK.out | apply KeepBut.set_ | apply kpN | apply keep_drew | apply keep_alloc | refine keep_far ?_ GW115.out _ | refine keep_far ?_ GW132.out _) | exact HK.out)) hk (.inl rfl));have n5_ :=AZ0.mk (hb);have n6_ :=AZ0.mk (hi);clear HO_116001;clear BK115;clear HO126;clear BK132;clear HK;clear HB;clear HI0;have HO_116001 :=n0_;have BK115 :=n1_;have HO126 :=n2_;have BK132 :=n3_;have HK :=n4_;have HB :=n5_;have HI0 :=n6_;clear n0_ n1_ n2_ n3_ n4_ n5_ n6_;(try clear hb);(try clear hb2);(try clear hk);(try clear hi)))
    go_loopg [7] k1 (fun kq v7 w' => ∃ (x7_2 : Int) (x1000_2 : ByteArray) (x1001_2 : Bool) (x133002_2 : List (S85)) (u133002 : Value),v7 = .int .u64 x7_2 ∧ AZ0 (play_reader_commit.l1 kq x5_1 x7_2 x1000_2 x1001_2 (strOfNums t116) x116001_1 (strOfNums t124) (wrap64 (t129)) x133002_2 = some (r1,r2,r3,r4)) ∧ AZ0 (kq ≤ k1) ∧ AZ0 (Kd.R k83 83 w' w.heap.size (fun k_ => some k_ ≠ (u133002 : Value).ownBlock ∧ k_ ≠ gb132) u116001 x116001_1) ∧ AZ0 (Kd.S k85 85 w' w.heap.size (fun _ => True) u133002 x133002_2) ∧ AZ0 (w'.heap[gb115]? = some (.cells #[.string (strOfNums t116),u116001] 43 (0,0))) ∧ AZ0 (w'.heap[gb132]? = some (.cells #[.string (strOfNums t124),.int .i64 (wrap64 (t129)),u133002] 83 (0,0))) ∧ AZ0 (I51 w0 w' g x1000_2 x1001_2) ∧ AZ0 (KeepBut w w' g none) ∧ AZ0 (Below w0.heap.size w0 w'))
    case atStart => exact ⟨(Int.tmod t133 7),(t134),(t135),(([] : List (S85))),(.slice none 0 0),(by first | rfl | (simp;done) | (simp [*];done)),H',⟨Nat.le_refl _⟩,⟨by (with_reducible repeat (first | apply Kd.R_alloc | apply Kd.R_drewN | apply Kd.R_drew));exact Kd.R_mono HO_116001.out (fun _ hk => ⟨(by simp [Value.ownBlock]),hk.2⟩)⟩,⟨by first | exact Kd.S_nil _ _ _ _ _ | exact Kd.N_nil _ _ _ _ _ | exact Kd.V_nil _ _ _ _ _ | exact Kd.Q_nil _ _ _ _ _ | exact Kd.R_nil _ _ _ _ _⟩,⟨by (with_reducible repeat (first | apply bkN | apply bkd | apply bka));exact BK115.out⟩,⟨by (with_reducible repeat (first | apply bkN | apply bkd | apply bka));exact BK132.out⟩,⟨by repeat (first | (with_reducible first | exact HI0.out | apply I51.alloc | apply I51.drewN | apply I51.drew | apply I51.set_0 | apply I51.set_1 | refine I51.far ?_ NB0_115.out _ | refine I51.far ?_ NB0_132.out _) | exact HI0.out)⟩,⟨by repeat (first | (with_reducible first | exact HK.out | apply KeepBut.set_ | apply kpN | apply keep_drew | apply keep_alloc | refine keep_far ?_ GW115.out _ | refine keep_far ?_ GW132.out _) | exact HK.out)⟩,⟨by repeat (first | (with_reducible first | exact HB.out | apply bwa | apply pwN | apply bw1 | refine bws ?_ (I51.ge HI0.out) | refine bws ?_ GE115.out | refine bws ?_ GE132.out) | exact HB.out)⟩⟩
    case round =>
     clear H'
     try clear c1
     try clear hcv1
     try clear p2
     try clear p6
     try clear c13
     try clear hcv18
     try clear hcv19
     obtain ⟨x7_2,x1000_2,x1001_2,x133002_2,u133002,rfl,HA,HK2,HO_116001,HO_133002,BK115,BK132,HI0,HK,HB⟩ :=hrel
     cases gk with
     | zero => exact absurd HA.out (by simp [play_reader_commit.l1])
     | succ k2 =>
      have H :=HA.out
      clear HA
      simp only [play_reader_commit.l1] at H
      by_cases c24 : x7_2 > 0
      ·rw [if_pos c24] at H
       have c24b0 : decide (0 < x7_2) = true :=decide_eq_true c24
       clear c24
       replace H :=Option.bind_eq_some_iff.mp H
       obtain ⟨⟨t136,t139,t140⟩,A250,H⟩ :=H
       replace H : ((play_reader_text.f k2 t139 t140).bind fun bt141 => (if x133002_2.length < 3518437208883 then (play_reader_commit.l1 k2 x5_1 (IntKind.u64.wrap (x7_2 - 1)) bt141.2.1 bt141.2.2 (strOfNums t116) x116001_1 (strOfNums t124) (wrap64 (t129)) (x133002_2 ++ [(⟨strOfNums t136,bt141.1⟩ : S85)])) else (none))) = some (r1,r2,r3,r4) :=H
       have A25 :=AZ0.mk A250
       clear A250
       replace H :=Option.bind_eq_some_iff.mp H
       obtain ⟨⟨t141,t144,t145⟩,A260,H⟩ :=H
       replace H : (if x133002_2.length < 3518437208883 then (play_reader_commit.l1 k2 x5_1 (IntKind.u64.wrap (x7_2 - 1)) t144 t145 (strOfNums t116) x116001_1 (strOfNums t124) (wrap64 (t129)) (x133002_2 ++ [(⟨strOfNums t136,t141⟩ : S85)])) else (none)) = some (r1,r2,r3,r4) :=H
       have A26 :=AZ0.mk A260
       clear A260
       by_cases c27 : x133002_2.length < 3518437208883
       ·rw [if_pos c27] at H
        have LMc27 :=AZ0.mk c27
        clear c27
        obtain ⟨y146,hy146⟩ : ∃ y_ : List (S85),y_ = (x133002_2 ++ [(⟨strOfNums t136,t141⟩ : S85)]) :=⟨_,rfl⟩
        replace H : (play_reader_commit.l1 k2 x5_1 (IntKind.u64.wrap (x7_2 - 1)) t144 t145 (strOfNums t116) x116001_1 (strOfNums t124) (wrap64 (t129)) y146) = some (r1,r2,r3,r4) :=by first | (rw [hy146];with_reducible exact H) | (have H2_ :=(Option.bind_some _ _).symm.trans H;rw [hy146];with_reducible exact H2_) | (have H2_ :=(Option.bind_some _ _).symm.trans H;with_reducible exact H2_) | with_reducible exact H | (rw [hy146];exact H) | exact H
        have Ny146 :=AZ0.mk hy146
        clear hy146
        have H' :=AZ0.mk H
        clear H
        obtain ⟨Ao28,co28,eo28⟩ :=Kd.S_slice HO_133002.out
        subst eo28
        try go_wp2
        have n0_ :=AZ0.mk (Kd.R_drew HO_116001.out)
        have n1_ :=AZ0.mk (Kd.S_drew HO_133002.out)
        have n2_ :=AZ0.mk (bkd BK115.out)
        have n3_ :=AZ0.mk (bkd BK132.out)
        have n4_ :=AZ0.mk (I51.drew HI0.out)
        have n5_ :=AZ0.mk (keep_drew HK.out)
        have n6_ :=AZ0.mk (bw1 HB.out)
        clear HO_116001
        clear HO_133002
        clear BK115
        clear BK132
        clear HI0
        clear HK
        clear HB
        have HO_116001 :=n0_
        have HO_133002 :=n1_
        have BK115 :=n2_
        have BK132 :=n3_
        have HI0 :=n4_
        have HK :=n5_
        have HB :=n6_
        clear n0_ n1_ n2_ n3_ n4_ n5_ n6_
        refine start_ (n :=12) (S :=fun w' => w'.cell? ⟨gb132,0,none⟩ = some (.string (strOfNums t124)) ∧ w'.cell? ⟨gb132,1,none⟩ = some (.int .i64 (wrap64 (t129))) ∧ w'.cell? ⟨gb132,2,none⟩ = some (.slice Ao28 x133002_2.length co28)) (ds :=[11]) #[false,false,false,false,false,false,false,false,false,false,false,false] (by kernel_rfl) rfl rfl ⟨(bkc BK132.out 0).trans rfl,(bkc BK132.out 1).trans rfl,(bkc BK132.out 2).trans rfl⟩ (fun hHeld => ?_);refine with_tabW play_reader_commit.tab10 play_reader_commit.bits10 (fun HT_ HW_ => ?_)
        generalize wr.drew = w29 at HO_116001 HO_133002 BK115 BK132 HI0 HK HB hHeld ⊢
        refine pure_ (i :=0) (N :=some 37) (v :=?_) (a' :=?_) #[true,false,false,false,false,false,false,false,false,false,false,false] rfl rfl (any_of HT_.out (by kernel_rfl)) (fun _ _ _ h => h) (Or.inl ⟨by rfl,?_⟩) ?_ ?_
        rotate_left
        ·intro w'
         go_simp
         with_reducible rfl
        rotate_left
        ·simp only [Act.put,List.setIfInBounds_toArray,List.set_cons_zero,List.set_cons_succ,i64_w,i32_w]
         rfl
        refine pure_ (i :=2) (N :=some 39) (v :=?_) (a' :=?_) #[true,false,true,false,false,false,false,false,false,false,false,false] rfl rfl (any_of HT_.out (by kernel_rfl)) (fun _ _ _ h => h) (Or.inl ⟨by rfl,?_⟩) ?_ ?_
        rotate_left
        ·intro w'
         go_simp
         with_reducible rfl
        rotate_left
        ·simp only [Act.put,List.setIfInBounds_toArray,List.set_cons_zero,List.set_cons_succ,i64_w,i32_w]
         rfl
        refine pure_ (i :=5) (N :=some 42) (v :=?_) (a' :=?_) #[true,false,true,false,false,true,false,false,false,false,false,false] rfl rfl (any_of HT_.out (by kernel_rfl)) (fun _ _ _ h => h) (Or.inl ⟨by rfl,?_⟩) ?_ ?_
        rotate_left
        ·intro w'
         go_simp
         with_reducible rfl
        rotate_left
        ·simp only [Act.put,List.setIfInBounds_toArray,List.set_cons_zero,List.set_cons_succ,i64_w,i32_w]
         rfl
        refine take_ (i :=1) (N :=some 38) (v :=?_) (a' :=?_) #[true,true,true,false,false,true,false,false,false,false,false,false] rfl rfl (take_ofW HT_.out HW_.out (by kernel_rfl)) (fun _ _ _ h => h) (Or.inl ⟨by rfl,?_⟩) hHeld ?_ ?_
        rotate_left
        ·rintro w' ⟨s0,s1,s2⟩
         go_simp
         with_reducible rfl
        rotate_left
        ·simp only [Act.put,List.setIfInBounds_toArray,List.set_cons_zero,List.set_cons_succ,i64_w,i32_w]
         rfl
        refine one_ (i :=3) (N :=some 40) #[true,true,true,true,false,true,false,false,false,false,false,false] rfl rfl (one_of HT_.out (by kernel_rfl)) (by decide) (fun K hK => ?_)
        refine goesC_ Tryz.func15 (by kernel_rfl) rfl #[.pointer (some ⟨g,0,none⟩)] (by rfl) rfl rfl rfl (by (try simp only [List.map_toArray,List.map_cons,List.map_nil]);first | done | rfl | (simp only [List.length_drop,List.length_take];rfl)) ?_
        with_reducible refine (play_reader_text.calls k2 g x1000_2 x1001_2 t136 t139 t140 w0 _ ?side1 ?side2 A25.out).mono ?_
        (case side1 => repeat (first | (with_reducible first | exact HI0.out | apply I51.alloc | apply I51.drewN | apply I51.drew | apply I51.set_0 | apply I51.set_1 | refine I51.far ?_ NB0_115.out _ | refine I51.far ?_ NB0_132.out _) | exact HI0.out))
        (case side2 => repeat (first | (with_reducible first | exact HB.out | apply bwa | apply pwN | apply bw1 | refine bws ?_ (I51.ge HI0.out) | refine bws ?_ GE115.out | refine bws ?_ GE132.out) | exact HB.out))
        rintro e w30 ⟨v137,rfl,ho0,hi,hb,hk⟩
        refine ⟨_,rfl,?_⟩
        have n0_ :=AZ0.mk (Kd.R_mono (Kd.R_told (Kd.R_oldK (I51.apart (show I51 w0 _ g x1000_2 x1001_2 from by repeat (first | (with_reducible first | exact HI0.out | apply I51.alloc | apply I51.drewN | apply I51.drew | apply I51.set_0 | apply I51.set_1 | refine I51.far ?_ NB0_115.out _ | refine I51.far ?_ NB0_132.out _) | exact HI0.out)) (by (with_reducible repeat (first | apply Kd.R_alloc | apply Kd.R_drewN | apply Kd.R_drew));exact HO_116001.out) (by decide)) hk) (Kd.R_base ho0)) (fun _ h_ => h_.1))
        have n1_ :=AZ0.mk (Kd.S_mono (Kd.S_told (Kd.S_oldK (I51.apartS (show I51 w0 _ g x1000_2 x1001_2 from by repeat (first | (with_reducible first | exact HI0.out | apply I51.alloc | apply I51.drewN | apply I51.drew | apply I51.set_0 | apply I51.set_1 | refine I51.far ?_ NB0_115.out _ | refine I51.far ?_ NB0_132.out _) | exact HI0.out)) (by (with_reducible repeat (first | apply Kd.S_alloc | apply Kd.S_drewN | apply Kd.S_drew));exact HO_133002.out) (by decide)) hk) (Kd.R_base ho0)) (fun _ h_ => h_.1))
        have n2_ :=AZ0.mk (KeepBut.blk hk (g' :=gb115) (o :=.cells #[.string (strOfNums t116),u116001] 43 (0,0)) (by (with_reducible repeat (first | apply bkN | apply bkd | apply bka));exact BK115.out) NB115_0.out (by simp))
        have n3_ :=AZ0.mk (KeepBut.blk hk (g' :=gb132) (o :=.cells #[.string (strOfNums t124),.int .i64 (wrap64 (t129)),.slice Ao28 x133002_2.length co28] 83 (0,0)) (by (with_reducible repeat (first | apply bkN | apply bkd | apply bka));exact BK132.out) NB132_0.out (by simp))
        have n4_ :=AZ0.mk (Kd.R_lower ho0 (keep_size (w :=w) (g :=g) (row :=none) (by repeat (first | (with_reducible first | exact HK.out | apply KeepBut.set_ | apply kpN | apply keep_drew | apply keep_alloc | refine keep_far ?_ GW115.out _ | refine keep_far ?_ GW132.out _) | exact HK.out))))
        have n5_ :=AZ0.mk (KeepBut.trans (by repeat (first | (with_reducible first | exact HK.out | apply KeepBut.set_ | apply kpN | apply keep_drew | apply keep_alloc | refine keep_far ?_ GW115.out _ | refine keep_far ?_ GW132.out _) | exact HK.out)) hk (.inl rfl))
        have n6_ :=AZ0.mk (hb)
        have n7_ :=AZ0.mk (hi)
        clear HO_116001
        clear HO_133002
        clear BK115
        clear BK132
        clear HK
        clear HB
        clear HI0
        have HO_116001 :=n0_
        have HO_133002 :=n1_
        have BK115 :=n2_
        have BK132 :=n3_
        have HO138 :=n4_
        have HK :=n5_
        have HB :=n6_
        have HI0 :=n7_
        clear n0_ n1_ n2_ n3_ n4_ n5_ n6_ n7_
        (try clear hb)
        (try clear hb2)
        (try clear hk)
        (try clear hi)
        (try clear ho0)
        refine hK.out _ _ ⟨(bkc BK132.out 0).trans rfl,(bkc BK132.out 1).trans rfl,(bkc BK132.out 2).trans rfl⟩ (fun hHeld => ?_)
        clear hK K
        refine norm_ (a' :=?_) ?_ ?_
        rotate_left
        ·show Act.put _ (some 40) _ = _
         simp only [Act.put,List.setIfInBounds_toArray,List.set_cons_zero,List.set_cons_succ,i64_w,i32_w]
         rfl
        refine join_ (σ :=Value) 5 #[true,true,true,true,true,true,true,false,false,false,false,false] (fun s_ => [(41,.string (strOfNums t136)),(43,s_)]) (fun s_ w' => (w'.cell? ⟨gb132,0,none⟩ = some (.string (strOfNums t124)) ∧ w'.cell? ⟨gb132,1,none⟩ = some (.int .i64 (wrap64 (t129))) ∧ w'.cell? ⟨gb132,2,none⟩ = some (.slice Ao28 x133002_2.length co28)) ∧ (Kd.R (Kd.int .u8) 5 w' w.heap.size (fun k_ => some k_ ≠ (s_ : Value).ownBlock) v137 t136) ∧ (Kd.R (Kd.int .u8) 5 w' w.heap.size (fun k_ => some k_ ≠ (v137 : Value).ownBlock) s_ t141) ∧ (Kd.R k83 83 w' w.heap.size (fun k_ => some k_ ≠ (v137 : Value).ownBlock ∧ some k_ ≠ (s_ : Value).ownBlock ∧ some k_ ≠ (.slice Ao28 x133002_2.length co28 : Value).ownBlock ∧ k_ ≠ gb132) u116001 x116001_1) ∧ (Kd.S k85 85 w' w.heap.size (fun k_ => some k_ ≠ (v137 : Value).ownBlock ∧ some k_ ≠ (s_ : Value).ownBlock) (.slice Ao28 x133002_2.length co28) x133002_2) ∧ (w'.heap[gb115]? = some (.cells #[.string (strOfNums t116),u116001] 43 (0,0))) ∧ (w'.heap[gb132]? = some (.cells #[.string (strOfNums t124),.int .i64 (wrap64 (t129)),.slice Ao28 x133002_2.length co28] 83 (0,0))) ∧ (I51 w0 w' g t144 t145) ∧ (KeepBut w w' g none) ∧ (Below w0.heap.size w0 w')) ?_ ?_
        rotate_left
        ·intro hCont
         refine two_ (i :=4) (j :=6) (Ni :=some 41) (Nj :=some 43) #[true,true,true,true,true,true,false,false,false,false,false,false] #[true,true,true,true,false,true,true,false,false,false,false,false] rfl rfl rfl rfl (two_of HT_.out (by kernel_rfl)) (by decide) (by decide) (fun K hK => ?_) (fun K hK => ?_)
         ·skip
          have hcv31 :=own_string (P :=Tryz.prog) Tryz.underlying22 Tryz.underlying5 Tryz.underlying9 (Kd.own_of_R HO138.out)
          refine value_ (w1 :=?_) (v :=?_) (by rfl) rfl ?_ ?_
          rotate_left 2
          ·go_simp
           constructor
           ·rfl
           ·rfl
          clear hcv31
          refine hK.out _ _ ⟨(bkc BK132.out 0).trans rfl,(bkc BK132.out 1).trans rfl,(bkc BK132.out 2).trans rfl⟩ (fun hHeld => ?_)
          clear hK K
          refine norm_ (a' :=?_) ?_ ?_
          rotate_left
          ·show Act.put _ (some 41) _ = _
           simp only [Act.put,List.setIfInBounds_toArray,List.set_cons_zero,List.set_cons_succ,i64_w,i32_w]
           rfl
          refine one_ (i :=6) (N :=some 43) #[true,true,true,true,true,true,true,false,false,false,false,false] rfl rfl (one_of HT_.out (by kernel_rfl)) (by decide) (fun K hK => ?_)
          refine goesC_ Tryz.func15 (by kernel_rfl) rfl #[.pointer (some ⟨g,0,none⟩)] (by rfl) rfl rfl rfl (by (try simp only [List.map_toArray,List.map_cons,List.map_nil]);first | done | rfl | (simp only [List.length_drop,List.length_take];rfl)) ?_
          with_reducible refine (play_reader_text.calls k2 g t139 t140 t141 t144 t145 w0 _ ?side1 ?side2 A26.out).mono ?_
          (case side1 => repeat (first | (with_reducible first | exact HI0.out | apply I51.alloc | apply I51.drewN | apply I51.drew | apply I51.set_0 | apply I51.set_1 | refine I51.far ?_ NB0_115.out _ | refine I51.far ?_ NB0_132.out _) | exact HI0.out))
          (case side2 => repeat (first | (with_reducible first | exact HB.out | apply bwa | apply pwN | apply bw1 | refine bws ?_ (I51.ge HI0.out) | refine bws ?_ GE115.out | refine bws ?_ GE132.out) | exact HB.out))
          rintro e w32 ⟨v142,rfl,ho0,hi,hb,hk⟩
          refine ⟨_,rfl,?_⟩
          have n0_ :=AZ0.mk (Kd.R_mono (Kd.R_told (Kd.R_oldK (I51.apart (show I51 w0 _ g t139 t140 from by repeat (first | (with_reducible first | exact HI0.out | apply I51.alloc | apply I51.drewN | apply I51.drew | apply I51.set_0 | apply I51.set_1 | refine I51.far ?_ NB0_115.out _ | refine I51.far ?_ NB0_132.out _) | exact HI0.out)) (by (with_reducible repeat (first | apply Kd.R_alloc | apply Kd.R_drewN | apply Kd.R_drew));exact HO_116001.out) (by decide)) hk) (Kd.R_base ho0)) (fun _ h_ => h_.1))
          have n1_ :=AZ0.mk (Kd.S_mono (Kd.S_told (Kd.S_oldK (I51.apartS (show I51 w0 _ g t139 t140 from by repeat (first | (with_reducible first | exact HI0.out | apply I51.alloc | apply I51.drewN | apply I51.drew | apply I51.set_0 | apply I51.set_1 | refine I51.far ?_ NB0_115.out _ | refine I51.far ?_ NB0_132.out _) | exact HI0.out)) (by (with_reducible repeat (first | apply Kd.S_alloc | apply Kd.S_drewN | apply Kd.S_drew));exact HO_133002.out) (by decide)) hk) (Kd.R_base ho0)) (fun _ h_ => h_.1))
          have n2_ :=AZ0.mk (KeepBut.blk hk (g' :=gb115) (o :=.cells #[.string (strOfNums t116),u116001] 43 (0,0)) (by (with_reducible repeat (first | apply bkN | apply bkd | apply bka));exact BK115.out) NB115_0.out (by simp))
          have n3_ :=AZ0.mk (KeepBut.blk hk (g' :=gb132) (o :=.cells #[.string (strOfNums t124),.int .i64 (wrap64 (t129)),.slice Ao28 x133002_2.length co28] 83 (0,0)) (by (with_reducible repeat (first | apply bkN | apply bkd | apply bka));exact BK132.out) NB132_0.out (by simp))
          have n4_ :=AZ0.mk (Kd.R_mono (Kd.R_told (Kd.R_oldK (I51.apart (show I51 w0 _ g t139 t140 from by repeat (first | (with_reducible first | exact HI0.out | apply I51.alloc | apply I51.drewN | apply I51.drew | apply I51.set_0 | apply I51.set_1 | refine I51.far ?_ NB0_115.out _ | refine I51.far ?_ NB0_132.out _) | exact HI0.out)) (by (with_reducible repeat (first | apply Kd.R_alloc | apply Kd.R_drewN | apply Kd.R_drew));exact HO138.out) (by decide)) hk) (Kd.R_base ho0)) (fun _ h_ => h_.1))
          have n5_ :=AZ0.mk (Kd.R_lower (Kd.R_new' ho0 (Kd.R_lt (by (with_reducible repeat (first | apply Kd.R_alloc | apply Kd.R_drewN | apply Kd.R_drew));exact HO138.out))) (keep_size (w :=w) (g :=g) (row :=none) (by repeat (first | (with_reducible first | exact HK.out | apply KeepBut.set_ | apply kpN | apply keep_drew | apply keep_alloc | refine keep_far ?_ GW115.out _ | refine keep_far ?_ GW132.out _) | exact HK.out))))
          have n6_ :=AZ0.mk (KeepBut.trans (by repeat (first | (with_reducible first | exact HK.out | apply KeepBut.set_ | apply kpN | apply keep_drew | apply keep_alloc | refine keep_far ?_ GW115.out _ | refine keep_far ?_ GW132.out _) | exact HK.out)) hk (.inl rfl))
          have n7_ :=AZ0.mk (hb)
          have n8_ :=AZ0.mk (hi)
          clear HO_116001
          clear HO_133002
          clear BK115
          clear BK132
          clear HO138
          clear HK
          clear HB
          clear HI0
          have HO_116001 :=n0_
          have HO_133002 :=n1_
          have BK115 :=n2_
          have BK132 :=n3_
          have HO138 :=n4_
          have HO143 :=n5_
          have HK :=n6_
          have HB :=n7_
          have HI0 :=n8_
          clear n0_ n1_ n2_ n3_ n4_ n5_ n6_ n7_ n8_
          (try clear hb)
          (try clear hb2)
          (try clear hk)
          (try clear hi)
          (try clear ho0)
          obtain ⟨Ao33,co33,eo33⟩ :=Kd.R_slice HO143.out
          (first | subst eo33 | (injection eo33 with f1_ f2_ f3_;have f4_ :=f1_.symm;have f5_ :=f3_.symm;clear f1_ f2_ f3_;subst f4_;subst f5_))
          refine hK.out _ _ ⟨(bkc BK132.out 0).trans rfl,(bkc BK132.out 1).trans rfl,(bkc BK132.out 2).trans rfl⟩ (fun hHeld => ?_)
          clear hK K
          refine norm_ (a' :=?_) ?_ ?_
          rotate_left
          ·show Act.put _ (some 43) _ = _
           simp only [Act.put,List.setIfInBounds_toArray,List.set_cons_zero,List.set_cons_succ,i64_w,i32_w]
           rfl
          exact norm_ (by simp only [putAll,Act.put,List.setIfInBounds_toArray,List.set_cons_zero,List.set_cons_succ]) (hCont (.slice Ao33 t141.length co33) _ ⟨hHeld,(by (with_reducible repeat (first | apply Kd.R_alloc | apply Kd.R_drewN | apply Kd.R_drew));exact Kd.R_mono HO138.out (fun _ hk => hk.2)),(by (with_reducible repeat (first | apply Kd.R_alloc | apply Kd.R_drewN | apply Kd.R_drew));exact Kd.R_mono HO143.out (fun _ hk => hk.2)),(by (with_reducible repeat (first | apply Kd.R_alloc | apply Kd.R_drewN | apply Kd.R_drew));exact Kd.R_mono HO_116001.out (fun _ hk => ⟨hk.1.2,⟨hk.2,⟨hk.1.1.1,hk.1.1.2⟩⟩⟩)),(by (with_reducible repeat (first | apply Kd.S_alloc | apply Kd.S_drewN | apply Kd.S_drew));exact Kd.S_mono HO_133002.out (fun _ hk => ⟨hk.1.2,hk.2⟩)),(by (with_reducible repeat (first | apply bkN | apply bkd | apply bka));exact BK115.out),(by (with_reducible repeat (first | apply bkN | apply bkd | apply bka));exact BK132.out),(by repeat (first | (with_reducible first | exact HI0.out | apply I51.alloc | apply I51.drewN | apply I51.drew | apply I51.set_0 | apply I51.set_1 | refine I51.far ?_ NB0_115.out _ | refine I51.far ?_ NB0_132.out _) | exact HI0.out)),(by repeat (first | (with_reducible first | exact HK.out | apply KeepBut.set_ | apply kpN | apply keep_drew | apply keep_alloc | refine keep_far ?_ GW115.out _ | refine keep_far ?_ GW132.out _) | exact HK.out)),(by repeat (first | (with_reducible first | exact HB.out | apply bwa | apply pwN | apply bw1 | refine bws ?_ (I51.ge HI0.out) | refine bws ?_ GE115.out | refine bws ?_ GE132.out) | exact HB.out))⟩)
         ·skip
          refine goesC_ Tryz.func15 (by kernel_rfl) rfl #[.pointer (some ⟨g,0,none⟩)] (by rfl) rfl rfl rfl (by (try simp only [List.map_toArray,List.map_cons,List.map_nil]);first | done | rfl | (simp only [List.length_drop,List.length_take];rfl)) ?_
          with_reducible refine (play_reader_text.calls k2 g t139 t140 t141 t144 t145 w0 _ ?side1 ?side2 A26.out).mono ?_
          (case side1 => repeat (first | (with_reducible first | exact HI0.out | apply I51.alloc | apply I51.drewN | apply I51.drew | apply I51.set_0 | apply I51.set_1 | refine I51.far ?_ NB0_115.out _ | refine I51.far ?_ NB0_132.out _) | exact HI0.out))
          (case side2 => repeat (first | (with_reducible first | exact HB.out | apply bwa | apply pwN | apply bw1 | refine bws ?_ (I51.ge HI0.out) | refine bws ?_ GE115.out | refine bws ?_ GE132.out) | exact HB.out))
          rintro e w31 ⟨v142,rfl,ho0,hi,hb,hk⟩
          refine ⟨_,rfl,?_⟩
          have n0_ :=AZ0.mk (Kd.R_mono (Kd.R_told (Kd.R_oldK (I51.apart (show I51 w0 _ g t139 t140 from by repeat (first | (with_reducible first | exact HI0.out | apply I51.alloc | apply I51.drewN | apply I51.drew | apply I51.set_0 | apply I51.set_1 | refine I51.far ?_ NB0_115.out _ | refine I51.far ?_ NB0_132.out _) | exact HI0.out)) (by (with_reducible repeat (first | apply Kd.R_alloc | apply Kd.R_drewN | apply Kd.R_drew));exact HO_116001.out) (by decide)) hk) (Kd.R_base ho0)) (fun _ h_ => h_.1))
          have n1_ :=AZ0.mk (Kd.S_mono (Kd.S_told (Kd.S_oldK (I51.apartS (show I51 w0 _ g t139 t140 from by repeat (first | (with_reducible first | exact HI0.out | apply I51.alloc | apply I51.drewN | apply I51.drew | apply I51.set_0 | apply I51.set_1 | refine I51.far ?_ NB0_115.out _ | refine I51.far ?_ NB0_132.out _) | exact HI0.out)) (by (with_reducible repeat (first | apply Kd.S_alloc | apply Kd.S_drewN | apply Kd.S_drew));exact HO_133002.out) (by decide)) hk) (Kd.R_base ho0)) (fun _ h_ => h_.1))
          have n2_ :=AZ0.mk (KeepBut.blk hk (g' :=gb115) (o :=.cells #[.string (strOfNums t116),u116001] 43 (0,0)) (by (with_reducible repeat (first | apply bkN | apply bkd | apply bka));exact BK115.out) NB115_0.out (by simp))
          have n3_ :=AZ0.mk (KeepBut.blk hk (g' :=gb132) (o :=.cells #[.string (strOfNums t124),.int .i64 (wrap64 (t129)),.slice Ao28 x133002_2.length co28] 83 (0,0)) (by (with_reducible repeat (first | apply bkN | apply bkd | apply bka));exact BK132.out) NB132_0.out (by simp))
          have n4_ :=AZ0.mk (Kd.R_mono (Kd.R_told (Kd.R_oldK (I51.apart (show I51 w0 _ g t139 t140 from by repeat (first | (with_reducible first | exact HI0.out | apply I51.alloc | apply I51.drewN | apply I51.drew | apply I51.set_0 | apply I51.set_1 | refine I51.far ?_ NB0_115.out _ | refine I51.far ?_ NB0_132.out _) | exact HI0.out)) (by (with_reducible repeat (first | apply Kd.R_alloc | apply Kd.R_drewN | apply Kd.R_drew));exact HO138.out) (by decide)) hk) (Kd.R_base ho0)) (fun _ h_ => h_.1))
          have n5_ :=AZ0.mk (Kd.R_lower (Kd.R_new' ho0 (Kd.R_lt (by (with_reducible repeat (first | apply Kd.R_alloc | apply Kd.R_drewN | apply Kd.R_drew));exact HO138.out))) (keep_size (w :=w) (g :=g) (row :=none) (by repeat (first | (with_reducible first | exact HK.out | apply KeepBut.set_ | apply kpN | apply keep_drew | apply keep_alloc | refine keep_far ?_ GW115.out _ | refine keep_far ?_ GW132.out _) | exact HK.out))))
          have n6_ :=AZ0.mk (KeepBut.trans (by repeat (first | (with_reducible first | exact HK.out | apply KeepBut.set_ | apply kpN | apply keep_drew | apply keep_alloc | refine keep_far ?_ GW115.out _ | refine keep_far ?_ GW132.out _) | exact HK.out)) hk (.inl rfl))
          have n7_ :=AZ0.mk (hb)
          have n8_ :=AZ0.mk (hi)
          clear HO_116001
          clear HO_133002
          clear BK115
          clear BK132
          clear HO138
          clear HK
          clear HB
          clear HI0
          have HO_116001 :=n0_
          have HO_133002 :=n1_
          have BK115 :=n2_
          have BK132 :=n3_
          have HO138 :=n4_
          have HO143 :=n5_
          have HK :=n6_
          have HB :=n7_
          have HI0 :=n8_
          clear n0_ n1_ n2_ n3_ n4_ n5_ n6_ n7_ n8_
          (try clear hb)
          (try clear hb2)
          (try clear hk)
          (try clear hi)
          (try clear ho0)
          obtain ⟨Ao33,co33,eo33⟩ :=Kd.R_slice HO143.out
          (first | subst eo33 | (injection eo33 with f1_ f2_ f3_;have f4_ :=f1_.symm;have f5_ :=f3_.symm;clear f1_ f2_ f3_;subst f4_;subst f5_))
          refine hK.out _ _ ⟨(bkc BK132.out 0).trans rfl,(bkc BK132.out 1).trans rfl,(bkc BK132.out 2).trans rfl⟩ (fun hHeld => ?_)
          clear hK K
          refine norm_ (a' :=?_) ?_ ?_
          rotate_left
          ·show Act.put _ (some 43) _ = _
           simp only [Act.put,List.setIfInBounds_toArray,List.set_cons_zero,List.set_cons_succ,i64_w,i32_w]
           rfl
          refine one_ (i :=4) (N :=some 41) #[true,true,true,true,true,true,true,false,false,false,false,false] rfl rfl (one_of HT_.out (by kernel_rfl)) (by decide) (fun K hK => ?_)
          have hcv32 :=own_string (P :=Tryz.prog) Tryz.underlying22 Tryz.underlying5 Tryz.underlying9 (Kd.own_of_R HO138.out)
          refine value_ (w1 :=?_) (v :=?_) (by rfl) rfl ?_ ?_
          rotate_left 2
          ·go_simp
           constructor
           ·rfl
           ·rfl
          clear hcv32
          refine hK.out _ _ ⟨(bkc BK132.out 0).trans rfl,(bkc BK132.out 1).trans rfl,(bkc BK132.out 2).trans rfl⟩ (fun hHeld => ?_)
          clear hK K
          refine norm_ (a' :=?_) ?_ ?_
          rotate_left
          ·show Act.put _ (some 41) _ = _
           simp only [Act.put,List.setIfInBounds_toArray,List.set_cons_zero,List.set_cons_succ,i64_w,i32_w]
           rfl
          exact norm_ (by simp only [putAll,Act.put,List.setIfInBounds_toArray,List.set_cons_zero,List.set_cons_succ]) (hCont (.slice Ao33 t141.length co33) _ ⟨hHeld,(by (with_reducible repeat (first | apply Kd.R_alloc | apply Kd.R_drewN | apply Kd.R_drew));exact Kd.R_mono HO138.out (fun _ hk => hk.2)),(by (with_reducible repeat (first | apply Kd.R_alloc | apply Kd.R_drewN | apply Kd.R_drew));exact Kd.R_mono HO143.out (fun _ hk => hk.2)),(by (with_reducible repeat (first | apply Kd.R_alloc | apply Kd.R_drewN | apply Kd.R_drew));exact Kd.R_mono HO_116001.out (fun _ hk => ⟨hk.1.2,⟨hk.2,⟨hk.1.1.1,hk.1.1.2⟩⟩⟩)),(by (with_reducible repeat (first | apply Kd.S_alloc | apply Kd.S_drewN | apply Kd.S_drew));exact Kd.S_mono HO_133002.out (fun _ hk => ⟨hk.1.2,hk.2⟩)),(by (with_reducible repeat (first | apply bkN | apply bkd | apply bka));exact BK115.out),(by (with_reducible repeat (first | apply bkN | apply bkd | apply bka));exact BK132.out),(by repeat (first | (with_reducible first | exact HI0.out | apply I51.alloc | apply I51.drewN | apply I51.drew | apply I51.set_0 | apply I51.set_1 | refine I51.far ?_ NB0_115.out _ | refine I51.far ?_ NB0_132.out _) | exact HI0.out)),(by repeat (first | (with_reducible first | exact HK.out | apply KeepBut.set_ | apply kpN | apply keep_drew | apply keep_alloc | refine keep_far ?_ GW115.out _ | refine keep_far ?_ GW132.out _) | exact HK.out)),(by repeat (first | (with_reducible first | exact HB.out | apply bwa | apply pwN | apply bw1 | refine bws ?_ (I51.ge HI0.out) | refine bws ?_ GE115.out | refine bws ?_ GE132.out) | exact HB.out))⟩)
        rintro v142 w34 ⟨hS_,h0_,h1_,h2_,h3_,h4_,h5_,h6_,h7_,h8_⟩
        have n0_ : AZ0 (Kd.R (Kd.int .u8) 5 w34 w.heap.size (fun k_ => some k_ ≠ (v142 : Value).ownBlock) v137 t136) :=⟨h0_⟩
        have n1_ : AZ0 (Kd.R (Kd.int .u8) 5 w34 w.heap.size (fun k_ => some k_ ≠ (v137 : Value).ownBlock) v142 t141) :=⟨h1_⟩
        have n2_ : AZ0 (Kd.R k83 83 w34 w.heap.size (fun k_ => some k_ ≠ (v137 : Value).ownBlock ∧ some k_ ≠ (v142 : Value).ownBlock ∧ some k_ ≠ (.slice Ao28 x133002_2.length co28 : Value).ownBlock ∧ k_ ≠ gb132) u116001 x116001_1) :=⟨h2_⟩
        have n3_ : AZ0 (Kd.S k85 85 w34 w.heap.size (fun k_ => some k_ ≠ (v137 : Value).ownBlock ∧ some k_ ≠ (v142 : Value).ownBlock) (.slice Ao28 x133002_2.length co28) x133002_2) :=⟨h3_⟩
        have n4_ : AZ0 (w34.heap[gb115]? = some (.cells #[.string (strOfNums t116),u116001] 43 (0,0))) :=⟨h4_⟩
        have n5_ : AZ0 (w34.heap[gb132]? = some (.cells #[.string (strOfNums t124),.int .i64 (wrap64 (t129)),.slice Ao28 x133002_2.length co28] 83 (0,0))) :=⟨h5_⟩
        have n6_ : AZ0 (I51 w0 w34 g t144 t145) :=⟨h6_⟩
        have n7_ : AZ0 (KeepBut w w34 g none) :=⟨h7_⟩
        have n8_ : AZ0 (Below w0.heap.size w0 w34) :=⟨h8_⟩
        clear HO_116001
        clear HO_133002
        clear BK115
        clear BK132
        clear HI0
        clear HK
        clear HB
        clear h0_ h1_ h2_ h3_ h4_ h5_ h6_ h7_ h8_
        have HO138 :=n0_
        have HO143 :=n1_
        have HO_116001 :=n2_
        have HO_133002 :=n3_
        have BK115 :=n4_
        have BK132 :=n5_
        have HI0 :=n6_
        have HK :=n7_
        have HB :=n8_
        clear n0_ n1_ n2_ n3_ n4_ n5_ n6_ n7_ n8_
        have hHeld : w34.cell? ⟨gb132,0,none⟩ = some (.string (strOfNums t124)) ∧ w34.cell? ⟨gb132,1,none⟩ = some (.int .i64 (wrap64 (t129))) ∧ w34.cell? ⟨gb132,2,none⟩ = some (.slice Ao28 x133002_2.length co28) :=hS_
        obtain ⟨Ao35,co35,eo35⟩ :=Kd.R_slice HO143.out
        (first | subst eo35 | (injection eo35 with f1_ f2_ f3_;have f4_ :=f1_.symm;have f5_ :=f3_.symm;clear f1_ f2_ f3_;subst f4_;subst f5_))
        refine norm_ (a' :=?_) ?_ ?_
        rotate_left
        ·simp only [putAll,Act.put,List.setIfInBounds_toArray,List.set_cons_zero,List.set_cons_succ]
         rfl
        refine pure_ (i :=7) (N :=some 44) (v :=?_) (a' :=?_) #[true,true,true,true,true,true,true,true,false,false,false,false] rfl rfl (any_of HT_.out (by kernel_rfl)) (fun _ _ _ h => h) (Or.inl ⟨by rfl,?_⟩) ?_ ?_
        rotate_left
        ·intro w'
         go_simp
         with_reducible rfl
        rotate_left
        ·simp only [Act.put,List.setIfInBounds_toArray,List.set_cons_zero,List.set_cons_succ,i64_w,i32_w]
         rfl
        refine one_ (i :=8) (N :=some 45) #[true,true,true,true,true,true,true,true,true,false,false,false] rfl rfl (one_of HT_.out (by kernel_rfl)) (by decide) (fun K hK => ?_)
        refine value_ (w1 :=?_) (v :=?_) (by rfl) rfl ?_ ?_
        rotate_left 2
        ·go_simp
         constructor
         ·rfl
         ·rfl
        refine hK.out _ _ ⟨(bkc (bka BK132.out _) 0).trans rfl,(bkc (bka BK132.out _) 1).trans rfl,(bkc (bka BK132.out _) 2).trans rfl⟩ (fun hHeld => ?_)
        clear hK K
        refine norm_ (a' :=?_) ?_ ?_
        rotate_left
        ·show Act.put _ (some 45) _ = _
         simp only [Act.put,List.setIfInBounds_toArray,List.set_cons_zero,List.set_cons_succ,i64_w,i32_w]
         rfl
        refine one_ (i :=9) (N :=some 46) #[true,true,true,true,true,true,true,true,true,true,false,false] rfl rfl (one_of HT_.out (by kernel_rfl)) (by decide) (fun K hK => ?_)
        refine Kd.S_append_step k85 w.heap.size (by rfl) (.tmp 38) (.tmp 45) 81 85 (.agg #[(.string ⟨#[]⟩),(.slice none 0 0)]) 40 rfl Tryz.underlying81 info85 rfl (by decide) (by omega) (.slice Ao28 x133002_2.length co28) x133002_2 (⟨strOfNums t136,t141⟩ : S85) [.string (strOfNums t136),.slice Ao35 t141.length co35] (fun k_ => some k_ ≠ (v137 : Value).ownBlock) (fun k_ => some k_ = (.slice Ao35 t141.length co35 : Value).ownBlock) rfl rfl ?aP (fun k_ hk_ => ((Kd.R_mono (ok' :=fun k_ => ((fun k_ => some k_ ≠ (v137 : Value).ownBlock)) k_ ∧ some k_ ≠ (.slice Ao28 x133002_2.length co28 : Value).ownBlock) (Kd.R_apart' (HO143.out) (Kd.S_typed HO_133002.out) (by decide)) (fun k_ hk => ⟨hk.1,hk.2⟩))).1 k_ hk_.symm) ?aF ?aO (Below.refl _ _) ?aS ?aL ?_
        (case aP => exact k85_mkM _ _ _ (⟨strOfNums t136,t141⟩ : S85) (Kd.R_mono (Kd.R_tight rfl (Kd.R_mono (ok' :=fun k_ => ((fun k_ => some k_ ≠ (v137 : Value).ownBlock)) k_ ∧ some k_ ≠ (.slice Ao28 x133002_2.length co28 : Value).ownBlock) (Kd.R_apart' (HO143.out) (Kd.S_typed HO_133002.out) (by decide)) (fun k_ hk => ⟨hk.1,hk.2⟩))) (fun _ h_ => h_)))
        (case aF => exact (fun k_ hk => Kd.fresh' (Kd.R_lt (by (with_reducible repeat (first | apply Kd.R_alloc | apply Kd.R_drewN | apply Kd.R_drew));exact HO138.out)) k_ hk))
        (case aO => exact (by (with_reducible repeat (first | apply Kd.S_alloc | apply Kd.S_drewN | apply Kd.S_drew));exact Kd.S_mono HO_133002.out (fun k_ hk => ⟨hk.1,fun e_ => hk.2 e_⟩)))
        (case aS => exact (keep_size (w :=w) (g :=g) (row :=none) (by repeat (first | (with_reducible first | exact HK.out | apply KeepBut.set_ | apply kpN | apply keep_drew | apply keep_alloc | refine keep_far ?_ GW115.out _ | refine keep_far ?_ GW132.out _) | exact HK.out))))
        (case aL => have :=LMc27.out;omega)
        intro v147 w36 ho hb hg hat
        rw [← Ny146.out] at ho
        have n0_ :=AZ0.mk (Kd.R_after (ok :=(fun k_ => some k_ ≠ (v137 : Value).ownBlock ∧ some k_ ≠ (.slice Ao35 t141.length co35 : Value).ownBlock ∧ k_ ≠ gb132)) (by (with_reducible repeat (first | apply Kd.R_alloc | apply Kd.R_drewN | apply Kd.R_drew));exact Kd.R_mono HO_116001.out (fun _ hk => ⟨⟨hk.1,⟨hk.2.1,hk.2.2.2⟩⟩,hk.2.2.1⟩)) hg hat)
        have n1_ :=AZ0.mk (blk_grown (g :=gb115) (o :=.cells #[.string (strOfNums t116),u116001] 43 (0,0)) (by (with_reducible repeat (first | apply bkN | apply bkd | apply bka));exact BK115.out) hg (Kd.S_ne HO_133002.out BK115.out (by decide)))
        have n2_ :=AZ0.mk (blk_grown (g :=gb132) (o :=.cells #[.string (strOfNums t124),.int .i64 (wrap64 (t129)),.slice Ao28 x133002_2.length co28] 83 (0,0)) (by (with_reducible repeat (first | apply bkN | apply bkd | apply bka));exact BK132.out) hg (Kd.S_ne HO_133002.out BK132.out (by decide)))
        have n3_ :=AZ0.mk (I51.grownF HI0.out (by repeat (first | (with_reducible first | exact HI0.out | apply I51.alloc | apply I51.drewN | apply I51.drew | apply I51.set_0 | apply I51.set_1 | refine I51.far ?_ NB0_115.out _ | refine I51.far ?_ NB0_132.out _) | exact HI0.out)) hg (I51.own_neS HI0.out HO_133002.out (by decide)))
        have n4_ :=AZ0.mk (Kd.R_over' (by (with_reducible repeat (first | apply Kd.R_alloc | apply Kd.R_drewN | apply Kd.R_drew));exact HO138.out) (Kd.S_typed (by (with_reducible repeat (first | apply Kd.S_alloc | apply Kd.S_drewN | apply Kd.S_drew));exact HO_133002.out)) (by decide) hg)
        have n5_ :=AZ0.mk (below_weaken (by repeat (first | (with_reducible first | exact HB.out | apply bwa | apply pwN | apply bw1 | refine bws ?_ (I51.ge HI0.out) | refine bws ?_ GE115.out | refine bws ?_ GE132.out) | exact HB.out)) HL.out hb)
        have n6_ :=AZ0.mk (KeepBut.trans (by repeat (first | (with_reducible first | exact HK.out | apply KeepBut.set_ | apply kpN | apply keep_drew | apply keep_alloc | refine keep_far ?_ GW115.out _ | refine keep_far ?_ GW132.out _) | exact HK.out)) (KeepBut.of_grown hg g) (Kd.S_base2 HO_133002.out))
        have n7_ :=AZ0.mk (ho)
        clear HO_116001
        clear BK115
        clear BK132
        clear HI0
        clear HO138
        clear HB
        clear HK
        clear HO_133002
        clear HO143
        have HO_116001 :=n0_
        have BK115 :=n1_
        have BK132 :=n2_
        have HI0 :=n3_
        have HO138 :=n4_
        have HB :=n5_
        have HK :=n6_
        have HO148 :=n7_
        clear n0_ n1_ n2_ n3_ n4_ n5_ n6_ n7_
        clear ho hb hg hat
        obtain ⟨Ao37,co37,eo37⟩ :=Kd.S_slice HO148.out
        (first | subst eo37 | (injection eo37 with f1_ f2_ f3_;have f4_ :=f1_.symm;have f5_ :=f3_.symm;clear f1_ f2_ f3_;subst f4_;subst f5_))
        refine hK.out _ _ ⟨(bkc BK132.out 0).trans rfl,(bkc BK132.out 1).trans rfl,(bkc BK132.out 2).trans rfl⟩ (fun hHeld => ?_)
        clear hK K
        refine norm_ (a' :=?_) ?_ ?_
        rotate_left
        ·show Act.put _ (some 46) _ = _
         simp only [Act.put,List.setIfInBounds_toArray,List.set_cons_zero,List.set_cons_succ,i64_w,i32_w]
         rfl
        refine pure_ (i :=10) (N :=some 47) (v :=?_) (a' :=?_) #[true,true,true,true,true,true,true,true,true,true,true,false] rfl rfl (any_of HT_.out (by kernel_rfl)) (fun _ _ _ h => h) (Or.inl ⟨by rfl,?_⟩) ?_ ?_
        rotate_left
        ·intro w'
         go_simp
         with_reducible rfl
        rotate_left
        ·simp only [Act.put,List.setIfInBounds_toArray,List.set_cons_zero,List.set_cons_succ,i64_w,i32_w]
         rfl
        refine last_ (i :=11) (N :=none) #[true,true,true,true,true,true,true,true,true,true,true,true] rfl rfl (one_of HT_.out (by kernel_rfl)) (by decide) (fun K hK => ?_)
        have hs38 : w36.cell? ⟨gb132,2,none⟩ = some (.slice Ao28 x133002_2.length co28) :=(bkc BK132.out 2).trans rfl
        have hfs38 :=bkz BK132.out 2
        have hns38_0 :=NB115_132.out
        have hms38_0 :=NB132_115.out
        refine skip_ (w1 :=?_) (by rfl) rfl ?_ ?_
        rotate_left
        ·go_simp
         rfl
        refine hK.out _ _ ?_
        clear hK K
        refine done_ (done_of HT_.out (by kernel_rfl)) ?_
        try go_wp2
        go_roundg k2
        case measure => have :=HK1.out;have :=HK2.out;omega
        case rel => exact ⟨(IntKind.u64.wrap (x7_2 - 1)),(t144),(t145),(y146),(.slice Ao37 y146.length co37),(by first | rfl | (simp;done) | (simp [*];done)),H',⟨by have :=HK1.out;have :=HK2.out;omega⟩,⟨by (with_reducible repeat (first | apply Kd.R_alloc | apply Kd.R_drewN | apply Kd.R_drew));exact Kd.R_mono (Kd.R_far (p :=⟨gb132,2,none⟩) (Kd.R_mono HO_116001.out (fun k_ hk => (⟨hk,hk.1.2.2⟩ : _ ∧ k_ ≠ gb132))) (fun _ hk => hk.2) (.slice Ao37 y146.length co37)) (fun _ hk => ⟨hk.1.2,hk.1.1.2.2⟩)⟩,⟨by (with_reducible repeat (first | apply Kd.S_alloc | apply Kd.S_drewN | apply Kd.S_drew));exact Kd.S_mono (Kd.S_far (p :=⟨gb132,2,none⟩) (Kd.S_types HO148.out BK132.out (by decide)) (fun _ hk => hk.2) (.slice Ao37 y146.length co37)) (fun _ hk => trivial)⟩,⟨by (with_reducible repeat (first | apply bkN | apply bkd | apply bka));refine blk_far ?_ NB115_132.out _;(with_reducible repeat (first | apply bkN | apply bkd | apply bka));exact BK115.out⟩,⟨by (with_reducible repeat (first | apply bkN | apply bkd | apply bka));refine blk_put (cs :=#[.string (strOfNums t124),.int .i64 (wrap64 (t129)),.slice Ao28 x133002_2.length co28]) ?_ 2 _ rfl;(with_reducible repeat (first | apply bkN | apply bkd | apply bka));exact BK132.out⟩,⟨by repeat (first | (with_reducible first | exact HI0.out | apply I51.alloc | apply I51.drewN | apply I51.drew | apply I51.set_0 | apply I51.set_1 | refine I51.far ?_ NB0_115.out _ | refine I51.far ?_ NB0_132.out _) | exact HI0.out)⟩,⟨by repeat (first | (with_reducible first | exact HK.out | apply KeepBut.set_ | apply kpN | apply keep_drew | apply keep_alloc | refine keep_far ?_ GW115.out _ | refine keep_far ?_ GW132.out _) | exact HK.out)⟩,⟨by repeat (first | (with_reducible first | exact HB.out | apply bwa | apply pwN | apply bw1 | refine bws ?_ (I51.ge HI0.out) | refine bws ?_ GE115.out | refine bws ?_ GE132.out) | exact HB.out)⟩⟩
       ·rw [if_neg c27] at H
        exact absurd H (by simp)
      ·rw [if_neg c24] at H
       have c24b0 : decide (0 < x7_2) = false :=decide_eq_false c24
       clear c24
       by_cases c39 : x116001_1.length < 2932031007402
       ·rw [if_pos c39] at H
        have LMc39 :=AZ0.mk c39
        clear c39
        obtain ⟨y149,hy149⟩ : ∃ y_ : List (S83),y_ = (x116001_1 ++ [(⟨(strOfNums t124),(wrap64 (t129)),x133002_2⟩ : S83)]) :=⟨_,rfl⟩
        replace H : (play_reader_commit.l0 k2 (IntKind.u64.wrap (x5_1 - 1)) x1000_2 x1001_2 (strOfNums t116) y149) = some (r1,r2,r3,r4) :=by first | (rw [hy149];with_reducible exact H) | (have H2_ :=(Option.bind_some _ _).symm.trans H;rw [hy149];with_reducible exact H2_) | (have H2_ :=(Option.bind_some _ _).symm.trans H;with_reducible exact H2_) | with_reducible exact H | (rw [hy149];exact H) | exact H
        have Ny149 :=AZ0.mk hy149
        clear hy149
        have H' :=AZ0.mk H
        clear H
        have hnb40 :=NB115_132.out
        have hnc40 :=NB132_115.out
        have hnb41 :=NB115_0.out
        have hnc41 :=NB0_115.out
        have hcz42_0 : wr.cell? ⟨gb115,0,none⟩ = some (.string (strOfNums t116)) :=(bkc BK115.out 0).trans rfl
        have hcz42_1 : wr.cell? ⟨gb115,1,none⟩ = some (u116001) :=(bkc BK115.out 1).trans rfl
        have hfz42_0 :=bkz BK115.out 0
        have hfz42_1 :=bkz BK115.out 1
        have hnb43 :=NB132_0.out
        have hnc43 :=NB0_132.out
        have hcz44_0 : wr.cell? ⟨gb132,0,none⟩ = some (.string (strOfNums t124)) :=(bkc BK132.out 0).trans rfl
        have hcz44_1 : wr.cell? ⟨gb132,1,none⟩ = some (.int .i64 (wrap64 (t129))) :=(bkc BK132.out 1).trans rfl
        have hcz44_2 : wr.cell? ⟨gb132,2,none⟩ = some (u133002) :=(bkc BK132.out 2).trans rfl
        have hfz44_0 :=bkz BK132.out 0
        have hfz44_1 :=bkz BK132.out 1
        have hfz44_2 :=bkz BK132.out 2
        obtain ⟨Ao46,co46,eo46⟩ :=Kd.S_slice HO_133002.out
        subst eo46
        go_wp2_with (first | ((with_reducible refine gate_builtin (b :=.append) (xs :=#[.tmp 49,.tmp 51]) rfl ?_);at_builtin;refine Kd.R_append k83 w.heap.size rfl (.tmp 49) (.tmp 51) 41 83 (.agg #[(.string ⟨#[]⟩),(.int .i64 0),(.slice none 0 0)]) 48 rfl Tryz.underlying41 info83 rfl (by decide) (by omega) u116001 x116001_1 (⟨(strOfNums t124),(wrap64 (t129)),x133002_2⟩ : S83) [.string (strOfNums t124),.int .i64 (wrap64 (t129)),.slice Ao46 x133002_2.length co46] (fun k_ => k_ ≠ gb132) (fun k_ => ((fun k_ => k_ ≠ gb132)) k_ ∧ some k_ ≠ (u116001 : Value).ownBlock) rfl rfl ?aP (fun _ hk => hk) ?aF ?aO (Below.refl _ _) ?aS ?aL ?_;(case aP => exact k83_mkM _ _ _ (⟨(strOfNums t124),(wrap64 (t129)),x133002_2⟩ : S83) (Kd.R_mono (Kd.R_types (Kd.R_apart' ((Kd.S_R HO_133002.out)) (Kd.R_typed HO_116001.out) (by decide)) BK132.out (by decide)) (fun k_ hk => ⟨hk.2,hk.1.2⟩)));(case aF => exact (fun k_ hk => Kd.freshB (g :=gb132) (o :=.cells #[.string (strOfNums t124),.int .i64 (wrap64 (t129)),.slice Ao46 x133002_2.length co46] 83 (0,0)) (by (with_reducible repeat (first | apply bkN | apply bkd | apply bka));exact BK132.out) k_ hk));(case aO => exact (by (with_reducible repeat (first | apply Kd.R_alloc | apply Kd.R_drewN | apply Kd.R_drew));exact Kd.R_mono HO_116001.out (fun _ hk => hk.2)));(case aS => exact (keep_size (w :=w) (g :=g) (row :=none) (by repeat (first | (with_reducible first | exact HK.out | apply KeepBut.set_ | apply kpN | apply keep_drew | apply keep_alloc | refine keep_far ?_ GW115.out _ | refine keep_far ?_ GW132.out _) | exact HK.out))));(case aL => have :=LMc39.out;omega);intro v150 w45 ho hb hg hat;rw [← Ny149.out] at ho;have n0_ :=AZ0.mk (blk_grown (g :=gb115) (o :=.cells #[.string (strOfNums t116),u116001] 43 (0,0)) (by (with_reducible repeat (first | apply bkN | apply bkd | apply bka));exact BK115.out) hg (Kd.R_ne HO_116001.out BK115.out (by decide)));have n1_ :=AZ0.mk (blk_grown (g :=gb132) (o :=.cells #[.string (strOfNums t124),.int .i64 (wrap64 (t129)),.slice Ao46 x133002_2.length co46] 83 (0,0)) (by (with_reducible repeat (first | apply bkN | apply bkd | apply bka));exact BK132.out) hg (Kd.R_away HO_116001.out (fun _ hk => hk.2)));have n2_ :=AZ0.mk (I51.grownF HI0.out (by repeat (first | (with_reducible first | exact HI0.out | apply I51.alloc | apply I51.drewN | apply I51.drew | apply I51.set_0 | apply I51.set_1 | refine I51.far ?_ NB0_115.out _ | refine I51.far ?_ NB0_132.out _) | exact HI0.out)) hg (I51.own_ne HI0.out HO_116001.out (by decide)));have n3_ :=AZ0.mk (below_weaken (by repeat (first | (with_reducible first | exact HB.out | apply bwa | apply pwN | apply bw1 | refine bws ?_ (I51.ge HI0.out) | refine bws ?_ GE115.out | refine bws ?_ GE132.out) | exact HB.out)) HL.out hb);have n4_ :=AZ0.mk (KeepBut.trans (by repeat (first | (with_reducible first | exact HK.out | apply KeepBut.set_ | apply kpN | apply keep_drew | apply keep_alloc | refine keep_far ?_ GW115.out _ | refine keep_far ?_ GW132.out _) | exact HK.out)) (KeepBut.of_grown hg g) (Kd.R_base2 HO_116001.out));have n5_ :=AZ0.mk (ho);clear BK115;clear BK132;clear HI0;clear HB;clear HK;clear HO_116001;clear HO_133002;have BK115 :=n0_;have BK132 :=n1_;have HI0 :=n2_;have HB :=n3_;have HK :=n4_;have HO151 :=n5_;clear n0_ n1_ n2_ n3_ n4_ n5_;clear ho hb hg hat;obtain ⟨Ao47,co47,eo47⟩ :=Kd.R_slice HO151.out;subst eo47;have hcz48_0 : w45.cell? ⟨gb115,0,none⟩ = some (.string (strOfNums t116)) :=(bkc BK115.out 0).trans rfl;have hcz48_1 : w45.cell? ⟨gb115,1,none⟩ = some (u116001) :=(bkc BK115.out 1).trans rfl;have hfz48_0 :=bkz BK115.out 0;have hfz48_1 :=bkz BK115.out 1))
        go_roundg k2
        case measure => have :=HK1.out;have :=HK2.out;omega
        case rel => exact ⟨(IntKind.u64.wrap (x5_1 - 1)),(x1000_2),(x1001_2),(y149),(.slice Ao47 y149.length co47),(by first | rfl | (simp;done) | (simp [*];done)),H',⟨by have :=HK1.out;have :=HK2.out;omega⟩,⟨by (with_reducible repeat (first | apply Kd.R_alloc | apply Kd.R_drewN | apply Kd.R_drew));exact Kd.R_mono (Kd.R_far (p :=⟨gb115,1,none⟩) (Kd.R_types HO151.out BK115.out (by decide)) (fun _ hk => hk.2) (.slice Ao47 y149.length co47)) (fun _ hk => trivial)⟩,⟨by (with_reducible repeat (first | apply bkN | apply bkd | apply bka));refine blk_put (cs :=#[.string (strOfNums t116),u116001]) ?_ 1 _ rfl;(with_reducible repeat (first | apply bkN | apply bkd | apply bka));exact BK115.out⟩,⟨by repeat (first | (with_reducible first | exact HI0.out | apply I51.alloc | apply I51.drewN | apply I51.drew | apply I51.set_0 | apply I51.set_1 | refine I51.far ?_ NB0_115.out _ | refine I51.far ?_ NB0_132.out _) | exact HI0.out)⟩,⟨by repeat (first | (with_reducible first | exact HK.out | apply KeepBut.set_ | apply kpN | apply keep_drew | apply keep_alloc | refine keep_far ?_ GW115.out _ | refine keep_far ?_ GW132.out _) | exact HK.out)⟩,⟨by repeat (first | (with_reducible first | exact HB.out | apply bwa | apply pwN | apply bw1 | refine bws ?_ (I51.ge HI0.out) | refine bws ?_ GE115.out | refine bws ?_ GE132.out) | exact HB.out)⟩⟩
       ·rw [if_neg c39] at H
        exact absurd H (by simp)
   ·rw [if_neg c10] at H
    have c10b0 : decide (0 < x5_1) = false :=decide_eq_false c10
    clear c10
    simp only [Option.some.injEq,Prod.mk.injEq] at H
    obtain ⟨rfl,rfl,rfl,rfl⟩ :=H
    have hnb49 :=NB115_0.out
    have hnc49 :=NB0_115.out
    have hcz50_0 : wr.cell? ⟨gb115,0,none⟩ = some (.string (strOfNums t116)) :=(bkc BK115.out 0).trans rfl
    have hcz50_1 : wr.cell? ⟨gb115,1,none⟩ = some (u116001) :=(bkc BK115.out 1).trans rfl
    have hfz50_0 :=bkz BK115.out 0
    have hfz50_1 :=bkz BK115.out 1
    obtain ⟨Ao51,co51,eo51⟩ :=Kd.R_slice HO_116001.out
    subst eo51
    go_wp2
    refine bodyPost_ret (results_cell_row rfl _ _ gb115 43 #[.string (strOfNums t116),.slice Ao51 x116001_1.length co51] (0,0) _ rfl (by (with_reducible repeat (first | apply bkN | apply bkd | apply bka));refine blk_put (cs :=#[.string (strOfNums t116),.slice Ao51 x116001_1.length co51]) ?_ 1 _ rfl;(with_reducible repeat (first | apply bkN | apply bkd | apply bka));refine blk_put (cs :=#[.string (strOfNums t116),.slice Ao51 x116001_1.length co51]) ?_ 0 _ rfl;(with_reducible repeat (first | apply bkN | apply bkd | apply bka));exact BK115.out) Tryz.underlying43 rfl (by kernel_rfl)) rfl ?_
    exact ⟨_,by first | rfl | (simp [errW_none,errW_some] <;> rfl) | (simp [*,errW_none,errW_some] <;> rfl),by (with_reducible repeat (first | apply Kd.R_alloc | apply Kd.R_drewN | apply Kd.R_drew));exact Kd.R_mono (Kd.R_far (p :=⟨gb115,1,none⟩) (Kd.R_far (p :=⟨gb115,0,none⟩) (Kd.R_types HO_116001.out BK115.out (by decide)) (fun _ hk => hk.2) (.string (strOfNums t116))) (fun _ hk => hk.2) (.slice Ao51 x116001_1.length co51)) (fun _ hk => trivial),by repeat (first | (with_reducible first | exact HI0.out | apply I51.alloc | apply I51.drewN | apply I51.drew | apply I51.set_0 | apply I51.set_1 | refine I51.far ?_ NB0_115.out _) | exact HI0.out),by repeat (first | (with_reducible first | exact HB.out | apply bwa | apply pwN | apply bw1 | refine bws ?_ (I51.ge HI0.out) | refine bws ?_ GE115.out) | exact HB.out),by repeat (first | (with_reducible first | exact HK.out | apply KeepBut.set_ | apply kpN | apply keep_drew | apply keep_alloc | refine keep_far ?_ GW115.out _) | exact HK.out)⟩
end Go.Proofs.YtlafgnanfkhobaaGreatDoor.P2
