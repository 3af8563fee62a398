-- Written for this claim by a program, out of the translation.
import Derived.Test.YtlafgnanfkhobaaGreatDoorQ0
import Derived.Test.YtlafgnanfkhobaaGreatDoorQ1
namespace Go.Proofs.YtlafgnanfkhobaaGreatDoor.P2
open Go.RowKit Go.Proofs.YtlafgnanfkhobaaGreatDoorW.PrintWords Go.Proofs.YtlafgnanfkhobaaGreatDoorW.PrintLast Go.Proofs.YtlafgnanfkhobaaGreatDoorW.PrintMore
attribute [local go_sem] max2_int min2_int max_two min_two max_three min_three max_four min_four
mutual
def pr_commit.l0 : Nat → Int → ByteArray → Bool → ByteArray → List (S83) → Option (ByteArray × (List (S83)) × ByteArray × Bool)
 | 0,_,_,_,_,_ => none
 | k + 1,x5,b9,b8,aV,aR => if x5 > 0 then ((pr_text.f k b9 b8).bind fun bj => ((pr_num.f k bj.2.1 bj.2.2 8).bind fun b1 => ((pr_num.f k b1.2.1 b1.2.2 1).bind fun aN => (pr_commit.l1 k x5 (Int.tmod aN.1 7) aN.2.1 aN.2.2 aV aR (strOfNums bj.1) (wrap64 (b1.1)) ([] : List (S85)))))) else (some (aV,aR,b9,b8))
def pr_commit.l1 : Nat → Int → Int → ByteArray → Bool → ByteArray → List (S83) → ByteArray → Int → List (S85) → Option (ByteArray × (List (S83)) × ByteArray × Bool)
 | 0,_,_,_,_,_,_,_,_,_ => none
 | k + 1,x5,x7,b9,b8,aV,aR,bf,be,b7 => if x7 > 0 then ((pr_text.f k b9 b8).bind fun bi => ((pr_text.f k bi.2.1 bi.2.2).bind fun b0 => (if b7.length < 3518437208883 then (pr_commit.l1 k x5 (IntKind.u64.wrap (x7 - 1)) b0.2.1 b0.2.2 aV aR bf be (b7 ++ [(⟨strOfNums bi.1,b0.1⟩ : S85)])) else (none)))) else (if aR.length < 2932031007402 then (pr_commit.l0 k (IntKind.u64.wrap (x5 - 1)) b9 b8 aV (aR ++ [(⟨bf,be,b7⟩ : S83)])) else (none))
end
def pr_commit.f (k : Nat) (bb : ByteArray) (ba : Bool) : Option (ByteArray × (List (S83)) × ByteArray × Bool) :=(pr_text.f k bb ba).bind fun b2 => ((pr_num.f k b2.2.1 b2.2.2 1).bind fun aQ => (pr_commit.l0 k (Int.tmod aQ.1 6) aQ.2.1 aQ.2.2 (strOfNums b2.1) ([] : List (S83))))
theorem pr_commit.mono_l : ∀ k,(∀ y0 y1 y2 y3 y4,LeO (pr_commit.l0 k y0 y1 y2 y3 y4) (pr_commit.l0 (k + 1) y0 y1 y2 y3 y4)) ∧ (∀ y0 y1 y2 y3 y4 y5 y6 y7 y8,LeO (pr_commit.l1 k y0 y1 y2 y3 y4 y5 y6 y7 y8) (pr_commit.l1 (k + 1) y0 y1 y2 y3 y4 y5 y6 y7 y8))
 | 0 => ⟨fun _ _ _ _ _ r h => by simp [pr_commit.l0] at h,fun _ _ _ _ _ _ _ _ _ r h => by simp [pr_commit.l1] at h⟩
 | k + 1 => by
  obtain ⟨ih0,ih1⟩ :=pr_commit.mono_l k
  refine ⟨?_,?_⟩
  ·intro y0 y1 y2 y3 y4
   unfold pr_commit.l0
   repeat' first
   | (with_reducible exact ih0 _ _ _ _ _)
   | (with_reducible exact ih1 _ _ _ _ _ _ _ _ _)
   | (with_reducible exact pr_num.mono _ _ _ _)
   | (with_reducible exact pr_text.mono _ _ _)
   | (with_reducible exact LeO.refl _)
   | (with_reducible exact LeO.none _)
   | (with_reducible refine LeO.ite ?_ ?_)
   | (with_reducible refine LeO.bind ?_ (fun _ => ?_))
   | exact ih0 _ _ _ _ _
   | exact ih1 _ _ _ _ _ _ _ _ _
   | exact pr_num.mono _ _ _ _
   | exact pr_text.mono _ _ _
   | exact LeO.none _
   | refine LeO.ite ?_ ?_
   | refine LeO.bind ?_ (fun _ => ?_)
  ·intro y0 y1 y2 y3 y4 y5 y6 y7 y8
   unfold pr_commit.l1
   repeat' first
   | (with_reducible exact ih0 _ _ _ _ _)
   | (with_reducible exact ih1 _ _ _ _ _ _ _ _ _)
   | (with_reducible exact pr_num.mono _ _ _ _)
   | (with_reducible exact pr_text.mono _ _ _)
   | (with_reducible exact LeO.refl _)
   | (with_reducible exact LeO.none _)
   | (with_reducible refine LeO.ite ?_ ?_)
   | (with_reducible refine LeO.bind ?_ (fun _ => ?_))
   | exact ih0 _ _ _ _ _
   | exact ih1 _ _ _ _ _ _ _ _ _
   | exact pr_num.mono _ _ _ _
   | exact pr_text.mono _ _ _
   | exact LeO.none _
   | refine LeO.ite ?_ ?_
   | refine LeO.bind ?_ (fun _ => ?_)
theorem pr_commit.mono : ∀ a0 a1 k,LeO (pr_commit.f k a0 a1) (pr_commit.f (k + 1) a0 a1) :=by
 intro a0 a1 k
 obtain ⟨ih0,ih1⟩ :=pr_commit.mono_l k
 unfold pr_commit.f
 repeat' first
   | (with_reducible exact ih0 _ _ _ _ _)
   | (with_reducible exact ih1 _ _ _ _ _ _ _ _ _)
   | (with_reducible exact pr_num.mono _ _ _ _)
   | (with_reducible exact pr_text.mono _ _ _)
   | (with_reducible exact LeO.refl _)
   | (with_reducible exact LeO.none _)
   | (with_reducible refine LeO.ite ?_ ?_)
   | (with_reducible refine LeO.bind ?_ (fun _ => ?_))
   | exact ih0 _ _ _ _ _
   | exact ih1 _ _ _ _ _ _ _ _ _
   | exact pr_num.mono _ _ _ _
   | exact pr_text.mono _ _ _
   | exact LeO.none _
   | refine LeO.ite ?_ ?_
   | refine LeO.bind ?_ (fun _ => ?_)
def pr_commit.T6 : Bool × List (List Nat × List Nat) :=(true,[([],[]),([0],[0]),([1],[1]),([],[]),([3,1],[3]),([4],[4]),([2,5],[2,5]),([],[]),([7,6,4,0,1,2,3,4,5,6,7],[6,7])])
def pr_commit.B6 : List Nat :=[0,1,3,0,11,27,63,0,255]
theorem pr_commit.tab6 : rtab .any (opsOf Tryz.f26 6) = pr_commit.T6 :=by kernel_rfl
theorem pr_commit.bits6 : waitsOk pr_commit.T6.2 pr_commit.B6 = true :=by kernel_rfl
def pr_commit.T10 : Bool × List (List Nat × List Nat) :=(true,[([],[]),([0],[0]),([],[]),([2],[2]),([3],[3]),([],[]),([5,3],[5]),([4,6],[4,6]),([7],[7]),([1,8,6],[1,8]),([0,1,2,3,4,5,6,7,8,9],[]),([10,9,9,0,1,2,3,4,5,6,7,8,9],[9,10])])
def pr_commit.B10 : List Nat :=[0,1,0,4,12,0,44,124,252,511,1023,2047]
theorem pr_commit.tab10 : rtab .any (opsOf Tryz.f26 10) = pr_commit.T10 :=by kernel_rfl
theorem pr_commit.bits10 : waitsOk pr_commit.T10.2 pr_commit.B10 = true :=by kernel_rfl
set_option maxHeartbeats 8000000 in
set_option maxRecDepth 100000 in
theorem pr_commit.calls (k : Nat) (g : Nat) (bb : ByteArray) (ba : Bool) (r1 : ByteArray) (r2 : List (S83)) (r3 : ByteArray) (r4 : Bool) (w0 w : World) (hI : I5 w0 w g bb ba) (hB : Below w0.heap.size w0 w) (h : pr_commit.f k bb ba = some (r1,r2,r3,r4)) :
  Calls Tryz.prog 26 #[.pointer (some ⟨g,0,none⟩)] w fun e w' => ∃ v1_ : Value,e = .returned (.agg #[.string r1,v1_]) ∧ Kd.R k83 83 w' w.heap.size (fun _ => True) v1_ r2 ∧ I5 w0 w' g r3 r4 ∧ Below w0.heap.size w0 w' ∧ KB w w' g none :=by
 have hu43 :=Tryz.underlying43
 have hu83 :=Tryz.underlying83
 have hu85 :=Tryz.underlying85
 have HI0 :=AZ.mk hI
 have HK :=AZ.mk (KB.refl w g none)
 have HL :=AZ.mk hB.size
 clear hI
 have HW0 :=AZ.mk hB.size
 have HB :=AZ.mk hB
 clear hB
 have H : ((pr_text.f k bb ba).bind fun b2 => ((pr_num.f k b2.2.1 b2.2.2 1).bind fun aQ => (pr_commit.l0 k (Int.tmod aQ.1 6) aQ.2.1 aQ.2.2 (strOfNums b2.1) ([] : List (S83))))) = some (r1,r2,r3,r4) :=h
 clear h
 replace H :=Option.bind_eq_some_iff.mp H
 obtain ⟨⟨ai,bl,bk⟩,cm,H⟩ :=H
 replace H : ((pr_num.f k bl bk 1).bind fun aQ => (pr_commit.l0 k (Int.tmod aQ.1 6) aQ.2.1 aQ.2.2 (strOfNums ai) ([] : List (S83)))) = some (r1,r2,r3,r4) :=H
 have A2 :=AZ.mk cm
 clear cm
 replace H :=Option.bind_eq_some_iff.mp H
 obtain ⟨⟨bv,bu,bt⟩,ck,H⟩ :=H
 replace H : (pr_commit.l0 k (Int.tmod bv 6) bu bt (strOfNums ai) ([] : List (S83))) = some (r1,r2,r3,r4) :=H
 have A3 :=AZ.mk ck
 clear ck
 have H' :=AZ.mk H
 clear H
 go_enter Tryz.func26,Tryz.ntmps26
 go_wp2_with (first | ((with_reducible refine gate_dst (N :=2) rfl ?_);refine box_event ?hg (N :=2) ?hd (cs :=#[.string ⟨#[]⟩,.slice none 0 0]) (t :=43) ?hr ?_;(case hd => rfl);(case hg => rfl);(case hr => first | (go_simp;done) | (go_simp;rfl));intro a8 hg w4 hbox hb;have ar :=AZ.mk (I5.below (by repeat (first | (with_reducible first | exact HI0.out | apply I5.alloc | apply I5.drewN | apply I5.drew | apply I5.set_0 | apply I5.set_1) | exact HI0.out)) hb);have aq :=AZ.mk (KB.trans (by repeat (first | (with_reducible first | exact HK.out | apply KB.set_ | apply kpN | apply keep_drew | apply keep_alloc) | exact HK.out)) (KB.of_below hb g none) (.inl rfl));have ap :=AZ.mk (below_step (by repeat (first | (with_reducible first | exact HB.out | apply bwa | apply pwN | apply bw1 | refine bws ?_ (I5.ge HI0.out)) | exact HB.out)) hb);have ao :=AZ.mk (hbox);have an :=AZ.mk ((by rw [hg];exact (keep_size (w :=w) (g :=g) (row :=none) (by repeat (first | (with_reducible first | exact HK.out | apply KB.set_ | apply kpN | apply keep_drew | apply keep_alloc) | exact HK.out))) : w.heap.size ≤ a8));have au :=AZ.mk ((Nat.le_trans HW0.out (by rw [hg];exact (keep_size (w :=w) (g :=g) (row :=none) (by repeat (first | (with_reducible first | exact HK.out | apply KB.set_ | apply kpN | apply keep_drew | apply keep_alloc) | exact HK.out))) : w.heap.size ≤ a8) : w0.heap.size ≤ a8));have ax :=AZ.mk ((by rw [hg];exact Nat.ne_of_lt (I5.lt (show I5 w0 _ g bb ba from by repeat (first | (with_reducible first | exact HI0.out | apply I5.alloc | apply I5.drewN | apply I5.drew | apply I5.set_0 | apply I5.set_1) | exact HI0.out))) : g ≠ a8));have aD :=AZ.mk ((by rw [hg];exact Nat.ne_of_gt (I5.lt (show I5 w0 _ g bb ba from by repeat (first | (with_reducible first | exact HI0.out | apply I5.alloc | apply I5.drewN | apply I5.drew | apply I5.set_0 | apply I5.set_1) | exact HI0.out))) : a8 ≠ g));clear HI0;clear HK;clear HB;have HI0 :=ar;have HK :=aq;have HB :=ap;have a4 :=ao;have ae :=an;have al :=au;have a6 :=ax;have aw :=aD;clear ar aq ap ao an au ax aD;clear hb hbox hg) | ((with_reducible refine gate_clos rfl ?_);refine goesLC_ (some 13) rfl rfl Tryz.func15 (by kernel_rfl) rfl #[.pointer (some ⟨g,0,none⟩)] rfl rfl (by (try simp only [List.map_toArray,List.map_cons,List.map_nil]);first | done | rfl | (simp only [List.length_drop,List.length_take];rfl)) ?_;(with_reducible refine (pr_text.calls k g bb ba ai bl bk w0 _ ?side1 ?side2 A2.out).mono ?_);(case side1 => repeat (first | (with_reducible first | exact HI0.out | apply I5.alloc | apply I5.drewN | apply I5.drew | apply I5.set_0 | apply I5.set_1 | refine I5.far ?_ a6.out _) | exact HI0.out));(case side2 => repeat (first | (with_reducible first | exact HB.out | apply bwa | apply pwN | apply bw1 | refine bws ?_ (I5.ge HI0.out) | refine bws ?_ al.out) | exact HB.out));rintro e w5 ⟨v117,rfl,aZ,hi,hb,hk⟩;refine ⟨_,rfl,?_⟩;have ar :=AZ.mk (KB.blk hk (g' :=a8) (o :=.cells #[.string ⟨#[]⟩,.slice none 0 0] 43 (0,0)) (by (with_reducible repeat (first | apply bkN | apply bkd | apply bka));exact a4.out) aw.out (by simp));have aq :=AZ.mk (Kd.R_lower aZ (keep_size (w :=w) (g :=g) (row :=none) (by repeat (first | (with_reducible first | exact HK.out | apply KB.set_ | apply kpN | apply keep_drew | apply keep_alloc | refine keep_far ?_ ae.out _) | exact HK.out))));have ap :=AZ.mk (KB.trans (by repeat (first | (with_reducible first | exact HK.out | apply KB.set_ | apply kpN | apply keep_drew | apply keep_alloc | refine keep_far ?_ ae.out _) | exact HK.out)) hk (.inl rfl));have ao :=AZ.mk (hb);have an :=AZ.mk (hi);clear a4;clear HK;clear HB;clear HI0;have a4 :=ar;have bg :=aq;have HK :=ap;have HB :=ao;have HI0 :=an;clear ar aq ap ao an;(try clear hb);(try clear hb2);(try clear hk);(try clear hi);(try clear aZ);have hcv6 :=own_string (P :=Tryz.prog) Tryz.underlying22 Tryz.underlying5 Tryz.underlying9 (Kd.own_of_R bg.out);have hnb7 :=aw.out;have hnc7 :=a6.out;have bA : w5.cell? ⟨a8,0,none⟩ = some (.string ⟨#[]⟩) :=(bkc a4.out 0).trans rfl;have bz : w5.cell? ⟨a8,1,none⟩ = some (.slice none 0 0) :=(bkc a4.out 1).trans rfl;have bx :=bkz a4.out 0;have bw :=bkz a4.out 1) | ((with_reducible refine gate_clos rfl ?_);refine goesLC_ (some 17) rfl rfl Tryz.func13 (by kernel_rfl) rfl #[.pointer (some ⟨g,0,none⟩),.int .i64 1] rfl rfl (by (try simp only [List.map_toArray,List.map_cons,List.map_nil]);first | done | rfl | (simp only [List.length_drop,List.length_take];rfl)) ?_;(with_reducible refine (pr_num.calls k g bl bk 1 bv bu bt w0 _ ?side1 ?side2 A3.out).mono ?_);(case side1 => repeat (first | (with_reducible first | exact HI0.out | apply I5.alloc | apply I5.drewN | apply I5.drew | apply I5.set_0 | apply I5.set_1 | refine I5.far ?_ a6.out _) | exact HI0.out));(case side2 => repeat (first | (with_reducible first | exact HB.out | apply bwa | apply pwN | apply bw1 | refine bws ?_ (I5.ge HI0.out) | refine bws ?_ al.out) | exact HB.out));rintro e w9 ⟨rfl,hi,hb,hk⟩;refine ⟨_,rfl,?_⟩;have ar :=AZ.mk (KB.blk hk (g' :=a8) (o :=.cells #[.string (strOfNums ai),.slice none 0 0] 43 (0,0)) (by (with_reducible repeat (first | apply bkN | apply bkd | apply bka));refine blk_put (cs :=#[.string ⟨#[]⟩,.slice none 0 0]) ?_ 0 _ rfl;(with_reducible repeat (first | apply bkN | apply bkd | apply bka));exact a4.out) aw.out (by simp));have aq :=AZ.mk (Kd.R_mono (Kd.R_keep (I5.apart (show I5 w0 _ g bl bk from by repeat (first | (with_reducible first | exact HI0.out | apply I5.alloc | apply I5.drewN | apply I5.drew | apply I5.set_0 | apply I5.set_1 | refine I5.far ?_ a6.out _) | exact HI0.out)) (by (with_reducible repeat (first | apply Kd.R_alloc | apply Kd.R_drewN | apply Kd.R_drew));exact (Kd.R_mono (Kd.R_far (p :=⟨a8,0,none⟩) (Kd.R_types bg.out a4.out (by decide)) (fun _ hk => hk.2) (.string (strOfNums ai))) (fun _ h_ => h_.1))) (by decide)) hk (fun _ h => h.2)) (fun _ h => h.1));have ap :=AZ.mk (KB.trans (by repeat (first | (with_reducible first | exact HK.out | apply KB.set_ | apply kpN | apply keep_drew | apply keep_alloc | refine keep_far ?_ ae.out _) | exact HK.out)) hk (.inl rfl));have ao :=AZ.mk (hb);have an :=AZ.mk (hi);clear a4;clear bg;clear HK;clear HB;clear HI0;have a4 :=ar;have bg :=aq;have HK :=ap;have HB :=ao;have HI0 :=an;clear ar aq ap ao an;(try clear hb);(try clear hb2);(try clear hk);(try clear hi)))
 go_loopg [5] k (fun kq v5 w' => ∃ (aU : Int) (az : ByteArray) (ay : Bool) (aa : List (S83)) (a5 : Value),v5 = .int .u64 aU ∧ AZ (pr_commit.l0 kq aU az ay (strOfNums ai) aa = some (r1,r2,r3,r4)) ∧ AZ (kq ≤ k) ∧ AZ (Kd.R k83 83 w' w.heap.size (fun _ => True) a5 aa) ∧ AZ (w'.heap[a8]? = some (.cells #[.string (strOfNums ai),a5] 43 (0,0))) ∧ AZ (I5 w0 w' g az ay) ∧ AZ (KB w w' g none) ∧ AZ (Below w0.heap.size w0 w'))
 case atStart => exact ⟨(Int.tmod bv 6),(bu),(bt),(([] : List (S83))),(.slice none 0 0),(by first | rfl | (simp;done) | (simp [*];done)),H',⟨Nat.le_refl _⟩,⟨by first | exact Kd.R_nil _ _ _ _ _ | exact Kd.N_nil _ _ _ _ _ | exact Kd.V_nil _ _ _ _ _ | exact Kd.Q_nil _ _ _ _ _ | exact Kd.S_nil _ _ _ _ _⟩,⟨by (with_reducible repeat (first | apply bkN | apply bkd | apply bka));exact a4.out⟩,⟨by repeat (first | (with_reducible first | exact HI0.out | apply I5.alloc | apply I5.drewN | apply I5.drew | apply I5.set_0 | apply I5.set_1 | refine I5.far ?_ a6.out _) | exact HI0.out)⟩,⟨by repeat (first | (with_reducible first | exact HK.out | apply KB.set_ | apply kpN | apply keep_drew | apply keep_alloc | refine keep_far ?_ ae.out _) | exact HK.out)⟩,⟨by repeat (first | (with_reducible first | exact HB.out | apply bwa | apply pwN | apply bw1 | refine bws ?_ (I5.ge HI0.out) | refine bws ?_ al.out) | exact HB.out)⟩⟩
 case round =>
  clear H'
  try clear c1
  try clear c2
  try clear p2
  try clear hcv6
  try clear c7
  try clear bA
  try clear bz
  try clear bx
  try clear bw
  obtain ⟨aU,az,ay,aa,a5,rfl,HA,HK1,a2,a4,HI0,HK,HB⟩ :=hrel
  cases gk with
  | zero => exact absurd HA.out (by simp [pr_commit.l0])
  | succ k1 =>
   have H :=HA.out
   clear HA
   simp only [pr_commit.l0] at H
   by_cases c10 : aU > 0
   ·rw [if_pos c10] at H
    have bN : decide (0 < aU) = true :=decide_eq_true c10
    clear c10
    replace H :=Option.bind_eq_some_iff.mp H
    obtain ⟨⟨am,aB,aA⟩,bT,H⟩ :=H
    replace H : ((pr_num.f k1 aB aA 8).bind fun b1 => ((pr_num.f k1 b1.2.1 b1.2.2 1).bind fun aN => (pr_commit.l1 k1 aU (Int.tmod aN.1 7) aN.2.1 aN.2.2 (strOfNums ai) aa (strOfNums am) (wrap64 (b1.1)) ([] : List (S85))))) = some (r1,r2,r3,r4) :=H
    have cn :=AZ.mk bT
    clear bT
    replace H :=Option.bind_eq_some_iff.mp H
    obtain ⟨⟨av,aI,aH⟩,bS,H⟩ :=H
    replace H : ((pr_num.f k1 aI aH 1).bind fun aN => (pr_commit.l1 k1 aU (Int.tmod aN.1 7) aN.2.1 aN.2.2 (strOfNums ai) aa (strOfNums am) (wrap64 (av)) ([] : List (S85)))) = some (r1,r2,r3,r4) :=H
    have cf :=AZ.mk bS
    clear bS
    replace H :=Option.bind_eq_some_iff.mp H
    obtain ⟨⟨bs,br,bq⟩,bR,H⟩ :=H
    replace H : (pr_commit.l1 k1 aU (Int.tmod bs 7) br bq (strOfNums ai) aa (strOfNums am) (wrap64 (av)) ([] : List (S85))) = some (r1,r2,r3,r4) :=H
    have A13 :=AZ.mk bR
    clear bR
    have H' :=AZ.mk H
    clear H
    try go_wp2
    have ar :=AZ.mk (Kd.R_drew a2.out)
    have aq :=AZ.mk (bkd a4.out)
    have ap :=AZ.mk (I5.drew HI0.out)
    have ao :=AZ.mk (keep_drew HK.out)
    have an :=AZ.mk (bw1 HB.out)
    clear a2
    clear a4
    clear HI0
    clear HK
    clear HB
    have a2 :=ar
    have a4 :=aq
    have HI0 :=ap
    have HK :=ao
    have HB :=an
    clear ar aq ap ao an
    refine start_ (n :=9) (S :=fun w' => True) (ds :=[]) #[false,false,false,false,false,false,false,false,false] (by kernel_rfl) rfl rfl trivial (fun hHeld => ?_);refine with_tabW pr_commit.tab6 pr_commit.bits6 (fun HT_ HW_ => ?_)
    generalize wr.drew = w14 at a2 a4 HI0 HK HB hHeld ⊢
    refine pure_ (i :=0) (N :=some 23) (v :=?_) (a' :=?_) #[true,false,false,false,false,false,false,false,false] rfl rfl (any_of HT_.out (by kernel_rfl)) (fun _ _ _ h => h) (Or.inl ⟨by rfl,?_⟩) ?_ ?_
    rotate_left
    ·intro w'
     go_simp
     with_reducible rfl
    rotate_left
    ·simp only [Act.put,List.setIfInBounds_toArray,List.set_cons_zero,List.set_cons_succ,i64_w,i32_w]
     rfl
    refine pure_ (i :=3) (N :=some 26) (v :=?_) (a' :=?_) #[true,false,false,true,false,false,false,false,false] rfl rfl (any_of HT_.out (by kernel_rfl)) (fun _ _ _ h => h) (Or.inl ⟨by rfl,?_⟩) ?_ ?_
    rotate_left
    ·intro w'
     go_simp
     with_reducible rfl
    rotate_left
    ·simp only [Act.put,List.setIfInBounds_toArray,List.set_cons_zero,List.set_cons_succ,i64_w,i32_w]
     rfl
    refine join_ (σ :=Value × Nat) 1 #[true,true,true,true,true,true,true,true,false] (fun s_ => [(24,s_.1),(25,.string (strOfNums am)),(27,.int .u64 av),(6,.pointer (some ⟨s_.2,0,none⟩)),(28,.int .i64 (wrap64 (av))),(29,.agg #[.string (strOfNums am),.int .i64 (wrap64 (av)),.slice none 0 0])]) (fun s_ w' => (Kd.R (Kd.int .u8) 5 w' w.heap.size (fun _ => True) s_.1 am) ∧ (Kd.R k83 83 w' w.heap.size (fun k_ => some k_ ≠ (s_.1 : Value).ownBlock ∧ k_ ≠ s_.2) a5 aa) ∧ (w'.heap[a8]? = some (.cells #[.string (strOfNums ai),a5] 43 (0,0))) ∧ (w'.heap[s_.2]? = some (.cells #[.string ⟨#[]⟩,.int .i64 0,.slice none 0 0] 83 (0,0))) ∧ (w.heap.size ≤ s_.2) ∧ (w0.heap.size ≤ s_.2) ∧ (g ≠ s_.2) ∧ (s_.2 ≠ g) ∧ (a8 ≠ s_.2) ∧ (s_.2 ≠ a8) ∧ (I5 w0 w' g aI aH) ∧ (KB w w' g none) ∧ (Below w0.heap.size w0 w')) ?_ ?_
    rotate_left
    ·intro hJ1_2_4_7
     refine join_ (σ :=Value) 2 #[true,true,true,true,true,true,true,false,false] (fun s_ => [(24,s_),(25,.string (strOfNums am)),(27,.int .u64 av),(28,.int .i64 (wrap64 (av))),(29,.agg #[.string (strOfNums am),.int .i64 (wrap64 (av)),.slice none 0 0])]) (fun s_ w' => (Kd.R (Kd.int .u8) 5 w' w.heap.size (fun _ => True) s_ am) ∧ (Kd.R k83 83 w' w.heap.size (fun k_ => some k_ ≠ (s_ : Value).ownBlock) a5 aa) ∧ (w'.heap[a8]? = some (.cells #[.string (strOfNums ai),a5] 43 (0,0))) ∧ (I5 w0 w' g aI aH) ∧ (KB w w' g none) ∧ (Below w0.heap.size w0 w')) ?_ ?_
     rotate_left
     ·intro hJ1_2_4
      refine join_ (σ :=Value × Nat) 4 #[true,true,true,true,false,false,false,true,false] (fun s_ => [(24,s_.1),(25,.string (strOfNums am)),(6,.pointer (some ⟨s_.2,0,none⟩))]) (fun s_ w' => (Kd.R (Kd.int .u8) 5 w' w.heap.size (fun _ => True) s_.1 am) ∧ (Kd.R k83 83 w' w.heap.size (fun k_ => some k_ ≠ (s_.1 : Value).ownBlock ∧ k_ ≠ s_.2) a5 aa) ∧ (w'.heap[a8]? = some (.cells #[.string (strOfNums ai),a5] 43 (0,0))) ∧ (w'.heap[s_.2]? = some (.cells #[.string ⟨#[]⟩,.int .i64 0,.slice none 0 0] 83 (0,0))) ∧ (w.heap.size ≤ s_.2) ∧ (w0.heap.size ≤ s_.2) ∧ (g ≠ s_.2) ∧ (s_.2 ≠ g) ∧ (a8 ≠ s_.2) ∧ (s_.2 ≠ a8) ∧ (I5 w0 w' g aB aA) ∧ (KB w w' g none) ∧ (Below w0.heap.size w0 w')) ?_ ?_
      rotate_left
      ·intro hJ1_2_7
       refine join_ (σ :=Value × Nat) 3 #[true,true,false,true,true,true,false,true,false] (fun s_ => [(24,s_.1),(27,.int .u64 av),(6,.pointer (some ⟨s_.2,0,none⟩)),(28,.int .i64 (wrap64 (av)))]) (fun s_ w' => (Kd.R (Kd.int .u8) 5 w' w.heap.size (fun _ => True) s_.1 am) ∧ (Kd.R k83 83 w' w.heap.size (fun k_ => some k_ ≠ (s_.1 : Value).ownBlock ∧ k_ ≠ s_.2) a5 aa) ∧ (w'.heap[a8]? = some (.cells #[.string (strOfNums ai),a5] 43 (0,0))) ∧ (w'.heap[s_.2]? = some (.cells #[.string ⟨#[]⟩,.int .i64 0,.slice none 0 0] 83 (0,0))) ∧ (w.heap.size ≤ s_.2) ∧ (w0.heap.size ≤ s_.2) ∧ (g ≠ s_.2) ∧ (s_.2 ≠ g) ∧ (a8 ≠ s_.2) ∧ (s_.2 ≠ a8) ∧ (I5 w0 w' g aI aH) ∧ (KB w w' g none) ∧ (Below w0.heap.size w0 w')) ?_ ?_
       rotate_left
       ·intro hJ1_4_7
        refine join_ (σ :=Value) 5 #[true,true,true,true,false,false,false,false,false] (fun s_ => [(24,s_),(25,.string (strOfNums am))]) (fun s_ w' => (Kd.R (Kd.int .u8) 5 w' w.heap.size (fun _ => True) s_ am) ∧ (Kd.R k83 83 w' w.heap.size (fun k_ => some k_ ≠ (s_ : Value).ownBlock) a5 aa) ∧ (w'.heap[a8]? = some (.cells #[.string (strOfNums ai),a5] 43 (0,0))) ∧ (I5 w0 w' g aB aA) ∧ (KB w w' g none) ∧ (Below w0.heap.size w0 w')) ?_ ?_
        rotate_left
        ·intro hJ1_2
         refine join_ (σ :=Value) 4 #[true,true,false,true,true,true,false,false,false] (fun s_ => [(24,s_),(27,.int .u64 av),(28,.int .i64 (wrap64 (av)))]) (fun s_ w' => (Kd.R (Kd.int .u8) 5 w' w.heap.size (fun _ => True) s_ am) ∧ (Kd.R k83 83 w' w.heap.size (fun k_ => some k_ ≠ (s_ : Value).ownBlock) a5 aa) ∧ (w'.heap[a8]? = some (.cells #[.string (strOfNums ai),a5] 43 (0,0))) ∧ (I5 w0 w' g aI aH) ∧ (KB w w' g none) ∧ (Below w0.heap.size w0 w')) ?_ ?_
         rotate_left
         ·intro hJ1_4
          refine join_ (σ :=Value × Nat) 5 #[true,true,false,true,false,false,false,true,false] (fun s_ => [(24,s_.1),(6,.pointer (some ⟨s_.2,0,none⟩))]) (fun s_ w' => (Kd.R (Kd.int .u8) 5 w' w.heap.size (fun _ => True) s_.1 am) ∧ (Kd.R k83 83 w' w.heap.size (fun k_ => some k_ ≠ (s_.1 : Value).ownBlock ∧ k_ ≠ s_.2) a5 aa) ∧ (w'.heap[a8]? = some (.cells #[.string (strOfNums ai),a5] 43 (0,0))) ∧ (w'.heap[s_.2]? = some (.cells #[.string ⟨#[]⟩,.int .i64 0,.slice none 0 0] 83 (0,0))) ∧ (w.heap.size ≤ s_.2) ∧ (w0.heap.size ≤ s_.2) ∧ (g ≠ s_.2) ∧ (s_.2 ≠ g) ∧ (a8 ≠ s_.2) ∧ (s_.2 ≠ a8) ∧ (I5 w0 w' g aB aA) ∧ (KB w w' g none) ∧ (Below w0.heap.size w0 w')) ?_ ?_
          rotate_left
          ·intro hJ1_7
           refine join_ (σ :=Value) 6 #[true,true,false,true,false,false,false,false,false] (fun s_ => [(24,s_)]) (fun s_ w' => (Kd.R (Kd.int .u8) 5 w' w.heap.size (fun _ => True) s_ am) ∧ (Kd.R k83 83 w' w.heap.size (fun k_ => some k_ ≠ (s_ : Value).ownBlock) a5 aa) ∧ (w'.heap[a8]? = some (.cells #[.string (strOfNums ai),a5] 43 (0,0))) ∧ (I5 w0 w' g aB aA) ∧ (KB w w' g none) ∧ (Below w0.heap.size w0 w')) ?_ ?_
           rotate_left
           ·intro hJ1
            refine join_ (σ :=Nat) 6 #[true,false,false,true,false,false,false,true,false] (fun s_ => [(6,.pointer (some ⟨s_,0,none⟩))]) (fun s_ w' => (Kd.R k83 83 w' w.heap.size (fun k_ => k_ ≠ s_) a5 aa) ∧ (w'.heap[a8]? = some (.cells #[.string (strOfNums ai),a5] 43 (0,0))) ∧ (w'.heap[s_]? = some (.cells #[.string ⟨#[]⟩,.int .i64 0,.slice none 0 0] 83 (0,0))) ∧ (w.heap.size ≤ s_) ∧ (w0.heap.size ≤ s_) ∧ (g ≠ s_) ∧ (s_ ≠ g) ∧ (a8 ≠ s_) ∧ (s_ ≠ a8) ∧ (I5 w0 w' g az ay) ∧ (KB w w' g none) ∧ (Below w0.heap.size w0 w')) ?_ ?_
            rotate_left
            ·intro hJ7
             refine two_ (i :=1) (j :=7) (Ni :=some 24) (Nj :=some 6) #[true,true,false,true,false,false,false,false,false] #[true,false,false,true,false,false,false,true,false] rfl rfl rfl rfl (two_of HT_.out (by kernel_rfl)) (by decide) (by decide) (fun K hK => ?_) (fun K hK => ?_)
             ·skip
              refine goesC_ Tryz.func15 (by kernel_rfl) rfl #[.pointer (some ⟨g,0,none⟩)] (by rfl) rfl rfl rfl (by (try simp only [List.map_toArray,List.map_cons,List.map_nil]);first | done | rfl | (simp only [List.length_drop,List.length_take];rfl)) ?_
              with_reducible refine (pr_text.calls k1 g az ay am aB aA w0 _ ?side1 ?side2 cn.out).mono ?_
              (case side1 => repeat (first | (with_reducible first | exact HI0.out | apply I5.alloc | apply I5.drewN | apply I5.drew | apply I5.set_0 | apply I5.set_1 | refine I5.far ?_ a6.out _) | exact HI0.out))
              (case side2 => repeat (first | (with_reducible first | exact HB.out | apply bwa | apply pwN | apply bw1 | refine bws ?_ (I5.ge HI0.out) | refine bws ?_ al.out) | exact HB.out))
              rintro e w15 ⟨v125,rfl,aZ,hi,hb,hk⟩
              refine ⟨_,rfl,?_⟩
              have ar :=AZ.mk (Kd.R_mono (Kd.R_told (Kd.R_oldK (I5.apart (show I5 w0 _ g az ay from by repeat (first | (with_reducible first | exact HI0.out | apply I5.alloc | apply I5.drewN | apply I5.drew | apply I5.set_0 | apply I5.set_1 | refine I5.far ?_ a6.out _) | exact HI0.out)) (by (with_reducible repeat (first | apply Kd.R_alloc | apply Kd.R_drewN | apply Kd.R_drew));exact a2.out) (by decide)) hk) (Kd.R_base aZ)) (fun _ h_ => h_.1))
              have aq :=AZ.mk (KB.blk hk (g' :=a8) (o :=.cells #[.string (strOfNums ai),a5] 43 (0,0)) (by (with_reducible repeat (first | apply bkN | apply bkd | apply bka));exact a4.out) aw.out (by simp))
              have ap :=AZ.mk (Kd.R_lower aZ (keep_size (w :=w) (g :=g) (row :=none) (by repeat (first | (with_reducible first | exact HK.out | apply KB.set_ | apply kpN | apply keep_drew | apply keep_alloc | refine keep_far ?_ ae.out _) | exact HK.out))))
              have ao :=AZ.mk (KB.trans (by repeat (first | (with_reducible first | exact HK.out | apply KB.set_ | apply kpN | apply keep_drew | apply keep_alloc | refine keep_far ?_ ae.out _) | exact HK.out)) hk (.inl rfl))
              have an :=AZ.mk (hb)
              have au :=AZ.mk (hi)
              clear a2
              clear a4
              clear HK
              clear HB
              clear HI0
              have a2 :=ar
              have a4 :=aq
              have ag :=ap
              have HK :=ao
              have HB :=an
              have HI0 :=au
              clear ar aq ap ao an au
              (try clear hb)
              (try clear hb2)
              (try clear hk)
              (try clear hi)
              (try clear aZ)
              refine hK.out _ _ trivial (fun hHeld => ?_)
              clear hK K
              refine norm_ (a' :=?_) ?_ ?_
              rotate_left
              ·show Act.put _ (some 24) _ = _
               simp only [Act.put,List.setIfInBounds_toArray,List.set_cons_zero,List.set_cons_succ,i64_w,i32_w]
               rfl
              exact norm_ (by first | (simp only [putAll,Act.put,List.setIfInBounds_toArray,List.set_cons_zero,List.set_cons_succ];done) | (simp only [putAll,Act.put,List.setIfInBounds_toArray,List.set_cons_zero,List.set_cons_succ];rfl)) (hJ1 (v125) _ ⟨(by (with_reducible repeat (first | apply Kd.R_alloc | apply Kd.R_drewN | apply Kd.R_drew));exact ag.out),(by (with_reducible repeat (first | apply Kd.R_alloc | apply Kd.R_drewN | apply Kd.R_drew));exact Kd.R_mono a2.out (fun _ hk => hk.2)),(by (with_reducible repeat (first | apply bkN | apply bkd | apply bka));exact a4.out),(by repeat (first | (with_reducible first | exact HI0.out | apply I5.alloc | apply I5.drewN | apply I5.drew | apply I5.set_0 | apply I5.set_1 | refine I5.far ?_ a6.out _) | exact HI0.out)),(by repeat (first | (with_reducible first | exact HK.out | apply KB.set_ | apply kpN | apply keep_drew | apply keep_alloc | refine keep_far ?_ ae.out _) | exact HK.out)),(by repeat (first | (with_reducible first | exact HB.out | apply bwa | apply pwN | apply bw1 | refine bws ?_ (I5.ge HI0.out) | refine bws ?_ al.out) | exact HB.out))⟩)
             ·skip
              refine box_step ?hg (N :=6) ?hd (cs :=#[.string ⟨#[]⟩,.int .i64 0,.slice none 0 0]) (t :=83) ?hr ?_;(case hd => rfl);(case hg => rfl);(case hr => first | (go_simp;done) | (go_simp;rfl))
              intro a3 hg w15 hbox hb
              have ar :=AZ.mk (Kd.R_below (Kd.R_elderB (by (with_reducible repeat (first | apply Kd.R_alloc | apply Kd.R_drewN | apply Kd.R_drew));exact a2.out) a3 (Nat.le_of_eq hg.symm)) hb)
              have aq :=AZ.mk (blk_below (g :=a8) (o :=.cells #[.string (strOfNums ai),a5] 43 (0,0)) (by (with_reducible repeat (first | apply bkN | apply bkd | apply bka));exact a4.out) hb)
              have ap :=AZ.mk (I5.below (by repeat (first | (with_reducible first | exact HI0.out | apply I5.alloc | apply I5.drewN | apply I5.drew | apply I5.set_0 | apply I5.set_1 | refine I5.far ?_ a6.out _) | exact HI0.out)) hb)
              have ao :=AZ.mk (KB.trans (by repeat (first | (with_reducible first | exact HK.out | apply KB.set_ | apply kpN | apply keep_drew | apply keep_alloc | refine keep_far ?_ ae.out _) | exact HK.out)) (KB.of_below hb g none) (.inl rfl))
              have an :=AZ.mk (below_step (by repeat (first | (with_reducible first | exact HB.out | apply bwa | apply pwN | apply bw1 | refine bws ?_ (I5.ge HI0.out) | refine bws ?_ al.out) | exact HB.out)) hb)
              have au :=AZ.mk (hbox)
              have ax :=AZ.mk ((by rw [hg];exact (keep_size (w :=w) (g :=g) (row :=none) (by repeat (first | (with_reducible first | exact HK.out | apply KB.set_ | apply kpN | apply keep_drew | apply keep_alloc | refine keep_far ?_ ae.out _) | exact HK.out))) : w.heap.size ≤ a3))
              have aD :=AZ.mk ((Nat.le_trans HW0.out (by rw [hg];exact (keep_size (w :=w) (g :=g) (row :=none) (by repeat (first | (with_reducible first | exact HK.out | apply KB.set_ | apply kpN | apply keep_drew | apply keep_alloc | refine keep_far ?_ ae.out _) | exact HK.out))) : w.heap.size ≤ a3) : w0.heap.size ≤ a3))
              have aJ :=AZ.mk ((by rw [hg];exact Nat.ne_of_lt (blk_lt (g :=a8) (o :=.cells #[.string (strOfNums ai),a5] 43 (0,0)) (by (with_reducible repeat (first | apply bkN | apply bkd | apply bka));exact a4.out)) : a8 ≠ a3))
              have aX :=AZ.mk ((by rw [hg];exact Nat.ne_of_gt (blk_lt (g :=a8) (o :=.cells #[.string (strOfNums ai),a5] 43 (0,0)) (by (with_reducible repeat (first | apply bkN | apply bkd | apply bka));exact a4.out)) : a3 ≠ a8))
              have n10_ :=AZ.mk ((by rw [hg];exact Nat.ne_of_lt (I5.lt (show I5 w0 _ g az ay from by repeat (first | (with_reducible first | exact HI0.out | apply I5.alloc | apply I5.drewN | apply I5.drew | apply I5.set_0 | apply I5.set_1 | refine I5.far ?_ a6.out _) | exact HI0.out))) : g ≠ a3))
              have n11_ :=AZ.mk ((by rw [hg];exact Nat.ne_of_gt (I5.lt (show I5 w0 _ g az ay from by repeat (first | (with_reducible first | exact HI0.out | apply I5.alloc | apply I5.drewN | apply I5.drew | apply I5.set_0 | apply I5.set_1 | refine I5.far ?_ a6.out _) | exact HI0.out))) : a3 ≠ g))
              clear a2
              clear a4
              clear HI0
              clear HK
              clear HB
              have a2 :=ar
              have a4 :=aq
              have HI0 :=ap
              have HK :=ao
              have HB :=an
              have a7 :=au
              have ah :=ax
              have ak :=aD
              have ad :=aJ
              have af :=aX
              have a9 :=n10_
              have aj :=n11_
              clear ar aq ap ao an au ax aD aJ aX n10_ n11_
              clear hb hbox hg
              refine hK.out _ _ trivial (fun hHeld => ?_)
              clear hK K
              refine norm_ (a' :=?_) ?_ ?_
              rotate_left
              ·show Act.put _ (some 6) _ = _
               simp only [Act.put,List.setIfInBounds_toArray,List.set_cons_zero,List.set_cons_succ,i64_w,i32_w]
               rfl
              exact norm_ (by first | (simp only [putAll,Act.put,List.setIfInBounds_toArray,List.set_cons_zero,List.set_cons_succ];done) | (simp only [putAll,Act.put,List.setIfInBounds_toArray,List.set_cons_zero,List.set_cons_succ];rfl)) (hJ7 (a3) _ ⟨(by (with_reducible repeat (first | apply Kd.R_alloc | apply Kd.R_drewN | apply Kd.R_drew));exact Kd.R_mono a2.out (fun _ hk => hk.2)),(by (with_reducible repeat (first | apply bkN | apply bkd | apply bka));exact a4.out),(by (with_reducible repeat (first | apply bkN | apply bkd | apply bka));exact a7.out),ah.out,ak.out,a9.out,aj.out,ad.out,af.out,(by repeat (first | (with_reducible first | exact HI0.out | apply I5.alloc | apply I5.drewN | apply I5.drew | apply I5.set_0 | apply I5.set_1 | refine I5.far ?_ a6.out _ | refine I5.far ?_ a9.out _) | exact HI0.out)),(by repeat (first | (with_reducible first | exact HK.out | apply KB.set_ | apply kpN | apply keep_drew | apply keep_alloc | refine keep_far ?_ ae.out _ | refine keep_far ?_ ah.out _) | exact HK.out)),(by repeat (first | (with_reducible first | exact HB.out | apply bwa | apply pwN | apply bw1 | refine bws ?_ (I5.ge HI0.out) | refine bws ?_ al.out | refine bws ?_ ak.out) | exact HB.out))⟩)
            ·skip
             rintro a3 w16 ⟨h0_,h1_,h2_,h3_,h4_,h5_,h6_,h7_,h8_,h9_,h10_,h11_⟩
             have ar : AZ (Kd.R k83 83 w16 w.heap.size (fun k_ => k_ ≠ a3) a5 aa) :=⟨h0_⟩
             have aq : AZ (w16.heap[a8]? = some (.cells #[.string (strOfNums ai),a5] 43 (0,0))) :=⟨h1_⟩
             have ap : AZ (w16.heap[a3]? = some (.cells #[.string ⟨#[]⟩,.int .i64 0,.slice none 0 0] 83 (0,0))) :=⟨h2_⟩
             have ao : AZ (w.heap.size ≤ a3) :=⟨h3_⟩
             have an : AZ (w0.heap.size ≤ a3) :=⟨h4_⟩
             have au : AZ (g ≠ a3) :=⟨h5_⟩
             have ax : AZ (a3 ≠ g) :=⟨h6_⟩
             have aD : AZ (a8 ≠ a3) :=⟨h7_⟩
             have aJ : AZ (a3 ≠ a8) :=⟨h8_⟩
             have aX : AZ (I5 w0 w16 g az ay) :=⟨h9_⟩
             have n10_ : AZ (KB w w16 g none) :=⟨h10_⟩
             have n11_ : AZ (Below w0.heap.size w0 w16) :=⟨h11_⟩
             clear a2
             clear a4
             clear HI0
             clear HK
             clear HB
             clear h0_ h1_ h2_ h3_ h4_ h5_ h6_ h7_ h8_ h9_ h10_ h11_
             have a2 :=ar
             have a4 :=aq
             have a7 :=ap
             have ah :=ao
             have ak :=an
             have a9 :=au
             have aj :=ax
             have ad :=aD
             have af :=aJ
             have HI0 :=aX
             have HK :=n10_
             have HB :=n11_
             clear ar aq ap ao an au ax aD aJ aX n10_ n11_
             have hHeld :=trivial
             refine norm_ (a' :=?_) ?_ ?_
             rotate_left
             ·simp only [putAll,Act.put,List.setIfInBounds_toArray,List.set_cons_zero,List.set_cons_succ]
              rfl
             refine one_ (i :=1) (N :=some 24) #[true,true,false,true,false,false,false,true,false] rfl rfl (one_of HT_.out (by kernel_rfl)) (by decide) (fun K hK => ?_)
             refine goesC_ Tryz.func15 (by kernel_rfl) rfl #[.pointer (some ⟨g,0,none⟩)] (by rfl) rfl rfl rfl (by (try simp only [List.map_toArray,List.map_cons,List.map_nil]);first | done | rfl | (simp only [List.length_drop,List.length_take];rfl)) ?_
             with_reducible refine (pr_text.calls k1 g az ay am aB aA w0 _ ?side1 ?side2 cn.out).mono ?_
             (case side1 => repeat (first | (with_reducible first | exact HI0.out | apply I5.alloc | apply I5.drewN | apply I5.drew | apply I5.set_0 | apply I5.set_1 | refine I5.far ?_ a6.out _ | refine I5.far ?_ a9.out _) | exact HI0.out))
             (case side2 => repeat (first | (with_reducible first | exact HB.out | apply bwa | apply pwN | apply bw1 | refine bws ?_ (I5.ge HI0.out) | refine bws ?_ al.out | refine bws ?_ ak.out) | exact HB.out))
             rintro e w17 ⟨v125,rfl,aZ,hi,hb,hk⟩
             refine ⟨_,rfl,?_⟩
             have ar :=AZ.mk (Kd.R_mono (Kd.R_told (Kd.R_oldK (I5.apart (show I5 w0 _ g az ay from by repeat (first | (with_reducible first | exact HI0.out | apply I5.alloc | apply I5.drewN | apply I5.drew | apply I5.set_0 | apply I5.set_1 | refine I5.far ?_ a6.out _ | refine I5.far ?_ a9.out _) | exact HI0.out)) (by (with_reducible repeat (first | apply Kd.R_alloc | apply Kd.R_drewN | apply Kd.R_drew));exact a2.out) (by decide)) hk) (Kd.R_base aZ)) (fun _ h_ => h_.1))
             have aq :=AZ.mk (KB.blk hk (g' :=a8) (o :=.cells #[.string (strOfNums ai),a5] 43 (0,0)) (by (with_reducible repeat (first | apply bkN | apply bkd | apply bka));exact a4.out) aw.out (by simp))
             have ap :=AZ.mk (KB.blk hk (g' :=a3) (o :=.cells #[.string ⟨#[]⟩,.int .i64 0,.slice none 0 0] 83 (0,0)) (by (with_reducible repeat (first | apply bkN | apply bkd | apply bka));exact a7.out) aj.out (by simp))
             have ao :=AZ.mk (Kd.R_lower aZ (keep_size (w :=w) (g :=g) (row :=none) (by repeat (first | (with_reducible first | exact HK.out | apply KB.set_ | apply kpN | apply keep_drew | apply keep_alloc | refine keep_far ?_ ae.out _ | refine keep_far ?_ ah.out _) | exact HK.out))))
             have an :=AZ.mk (KB.trans (by repeat (first | (with_reducible first | exact HK.out | apply KB.set_ | apply kpN | apply keep_drew | apply keep_alloc | refine keep_far ?_ ae.out _ | refine keep_far ?_ ah.out _) | exact HK.out)) hk (.inl rfl))
             have au :=AZ.mk (hb)
             have ax :=AZ.mk (hi)
             clear a2
             clear a4
             clear a7
             clear HK
             clear HB
             clear HI0
             have a2 :=ar
             have a4 :=aq
             have a7 :=ap
             have ag :=ao
             have HK :=an
             have HB :=au
             have HI0 :=ax
             clear ar aq ap ao an au ax
             (try clear hb)
             (try clear hb2)
             (try clear hk)
             (try clear hi)
             (try clear aZ)
             refine hK.out _ _ trivial (fun hHeld => ?_)
             clear hK K
             refine norm_ (a' :=?_) ?_ ?_
             rotate_left
             ·show Act.put _ (some 24) _ = _
              simp only [Act.put,List.setIfInBounds_toArray,List.set_cons_zero,List.set_cons_succ,i64_w,i32_w]
              rfl
             exact norm_ (by first | (simp only [putAll,Act.put,List.setIfInBounds_toArray,List.set_cons_zero,List.set_cons_succ];done) | (simp only [putAll,Act.put,List.setIfInBounds_toArray,List.set_cons_zero,List.set_cons_succ];rfl)) (hJ1_7 (v125,a3) _ ⟨(by (with_reducible repeat (first | apply Kd.R_alloc | apply Kd.R_drewN | apply Kd.R_drew));exact ag.out),(by (with_reducible repeat (first | apply Kd.R_alloc | apply Kd.R_drewN | apply Kd.R_drew));exact Kd.R_mono a2.out (fun _ hk => ⟨hk.2,hk.1⟩)),(by (with_reducible repeat (first | apply bkN | apply bkd | apply bka));exact a4.out),(by (with_reducible repeat (first | apply bkN | apply bkd | apply bka));exact a7.out),ah.out,ak.out,a9.out,aj.out,ad.out,af.out,(by repeat (first | (with_reducible first | exact HI0.out | apply I5.alloc | apply I5.drewN | apply I5.drew | apply I5.set_0 | apply I5.set_1 | refine I5.far ?_ a6.out _ | refine I5.far ?_ a9.out _) | exact HI0.out)),(by repeat (first | (with_reducible first | exact HK.out | apply KB.set_ | apply kpN | apply keep_drew | apply keep_alloc | refine keep_far ?_ ae.out _ | refine keep_far ?_ ah.out _) | exact HK.out)),(by repeat (first | (with_reducible first | exact HB.out | apply bwa | apply pwN | apply bw1 | refine bws ?_ (I5.ge HI0.out) | refine bws ?_ al.out | refine bws ?_ ak.out) | exact HB.out))⟩)
           ·skip
            rintro v125 w16 ⟨h0_,h1_,h2_,h3_,h4_,h5_⟩
            have ar : AZ (Kd.R (Kd.int .u8) 5 w16 w.heap.size (fun _ => True) v125 am) :=⟨h0_⟩
            have aq : AZ (Kd.R k83 83 w16 w.heap.size (fun k_ => some k_ ≠ (v125 : Value).ownBlock) a5 aa) :=⟨h1_⟩
            have ap : AZ (w16.heap[a8]? = some (.cells #[.string (strOfNums ai),a5] 43 (0,0))) :=⟨h2_⟩
            have ao : AZ (I5 w0 w16 g aB aA) :=⟨h3_⟩
            have an : AZ (KB w w16 g none) :=⟨h4_⟩
            have au : AZ (Below w0.heap.size w0 w16) :=⟨h5_⟩
            clear a2
            clear a4
            clear HI0
            clear HK
            clear HB
            clear h0_ h1_ h2_ h3_ h4_ h5_
            have ag :=ar
            have a2 :=aq
            have a4 :=ap
            have HI0 :=ao
            have HK :=an
            have HB :=au
            clear ar aq ap ao an au
            have hHeld :=trivial
            refine norm_ (a' :=?_) ?_ ?_
            rotate_left
            ·simp only [putAll,Act.put,List.setIfInBounds_toArray,List.set_cons_zero,List.set_cons_succ]
             rfl
            refine three_ (i :=2) (j :=4) (k :=7) (Ni :=some 25) (Nj :=some 27) (Nk :=some 6) #[true,true,true,true,false,false,false,false,false] #[true,true,false,true,true,false,false,false,false] #[true,true,false,true,false,false,false,true,false] rfl rfl rfl rfl rfl rfl (three_of HT_.out (by kernel_rfl)) (by decide) (by decide) (by decide) (fun K hK => ?_) (fun K hK => ?_) (fun K hK => ?_)
            ·skip
             have hcv17 :=own_string (P :=Tryz.prog) Tryz.underlying22 Tryz.underlying5 Tryz.underlying9 (Kd.own_of_R ag.out)
             refine value_ (w1 :=?_) (v :=?_) (by rfl) rfl ?_ ?_
             rotate_left 2
             ·go_simp
              constructor
              ·rfl
              ·rfl
             clear hcv17
             refine hK.out _ _ trivial (fun hHeld => ?_)
             clear hK K
             refine norm_ (a' :=?_) ?_ ?_
             rotate_left
             ·show Act.put _ (some 25) _ = _
              simp only [Act.put,List.setIfInBounds_toArray,List.set_cons_zero,List.set_cons_succ,i64_w,i32_w]
              rfl
             exact norm_ (by first | (simp only [putAll,Act.put,List.setIfInBounds_toArray,List.set_cons_zero,List.set_cons_succ];done) | (simp only [putAll,Act.put,List.setIfInBounds_toArray,List.set_cons_zero,List.set_cons_succ];rfl)) (hJ1_2 (v125) _ ⟨(by (with_reducible repeat (first | apply Kd.R_alloc | apply Kd.R_drewN | apply Kd.R_drew));exact ag.out),(by (with_reducible repeat (first | apply Kd.R_alloc | apply Kd.R_drewN | apply Kd.R_drew));exact a2.out),(by (with_reducible repeat (first | apply bkN | apply bkd | apply bka));exact a4.out),(by repeat (first | (with_reducible first | exact HI0.out | apply I5.alloc | apply I5.drewN | apply I5.drew | apply I5.set_0 | apply I5.set_1 | refine I5.far ?_ a6.out _) | exact HI0.out)),(by repeat (first | (with_reducible first | exact HK.out | apply KB.set_ | apply kpN | apply keep_drew | apply keep_alloc | refine keep_far ?_ ae.out _) | exact HK.out)),(by repeat (first | (with_reducible first | exact HB.out | apply bwa | apply pwN | apply bw1 | refine bws ?_ (I5.ge HI0.out) | refine bws ?_ al.out) | exact HB.out))⟩)
            ·skip
             refine goesC_ Tryz.func13 (by kernel_rfl) rfl #[.pointer (some ⟨g,0,none⟩),.int .i64 8] (by rfl) rfl rfl rfl (by (try simp only [List.map_toArray,List.map_cons,List.map_nil]);first | done | rfl | (simp only [List.length_drop,List.length_take];rfl)) ?_
             with_reducible refine (pr_num.calls k1 g aB aA 8 av aI aH w0 _ ?side1 ?side2 cf.out).mono ?_
             (case side1 => repeat (first | (with_reducible first | exact HI0.out | apply I5.alloc | apply I5.drewN | apply I5.drew | apply I5.set_0 | apply I5.set_1 | refine I5.far ?_ a6.out _) | exact HI0.out))
             (case side2 => repeat (first | (with_reducible first | exact HB.out | apply bwa | apply pwN | apply bw1 | refine bws ?_ (I5.ge HI0.out) | refine bws ?_ al.out) | exact HB.out))
             rintro e w17 ⟨rfl,hi,hb,hk⟩
             refine ⟨_,rfl,?_⟩
             have ar :=AZ.mk (Kd.R_mono (Kd.R_keep (I5.apart (show I5 w0 _ g aB aA from by repeat (first | (with_reducible first | exact HI0.out | apply I5.alloc | apply I5.drewN | apply I5.drew | apply I5.set_0 | apply I5.set_1 | refine I5.far ?_ a6.out _) | exact HI0.out)) (by (with_reducible repeat (first | apply Kd.R_alloc | apply Kd.R_drewN | apply Kd.R_drew));exact a2.out) (by decide)) hk (fun _ h => h.2)) (fun _ h => h.1))
             have aq :=AZ.mk (KB.blk hk (g' :=a8) (o :=.cells #[.string (strOfNums ai),a5] 43 (0,0)) (by (with_reducible repeat (first | apply bkN | apply bkd | apply bka));exact a4.out) aw.out (by simp))
             have ap :=AZ.mk (Kd.R_mono (Kd.R_keep (I5.apart (show I5 w0 _ g aB aA from by repeat (first | (with_reducible first | exact HI0.out | apply I5.alloc | apply I5.drewN | apply I5.drew | apply I5.set_0 | apply I5.set_1 | refine I5.far ?_ a6.out _) | exact HI0.out)) (by (with_reducible repeat (first | apply Kd.R_alloc | apply Kd.R_drewN | apply Kd.R_drew));exact ag.out) (by decide)) hk (fun _ h => h.2)) (fun _ h => h.1))
             have ao :=AZ.mk (KB.trans (by repeat (first | (with_reducible first | exact HK.out | apply KB.set_ | apply kpN | apply keep_drew | apply keep_alloc | refine keep_far ?_ ae.out _) | exact HK.out)) hk (.inl rfl))
             have an :=AZ.mk (hb)
             have au :=AZ.mk (hi)
             clear a2
             clear a4
             clear ag
             clear HK
             clear HB
             clear HI0
             have a2 :=ar
             have a4 :=aq
             have ag :=ap
             have HK :=ao
             have HB :=an
             have HI0 :=au
             clear ar aq ap ao an au
             (try clear hb)
             (try clear hb2)
             (try clear hk)
             (try clear hi)
             refine hK.out _ _ trivial (fun hHeld => ?_)
             clear hK K
             refine norm_ (a' :=?_) ?_ ?_
             rotate_left
             ·show Act.put _ (some 27) _ = _
              simp only [Act.put,List.setIfInBounds_toArray,List.set_cons_zero,List.set_cons_succ,i64_w,i32_w]
              rfl
             refine pure_ (i :=5) (N :=some 28) (v :=?_) (a' :=?_) #[true,true,false,true,true,true,false,false,false] rfl rfl (any_of HT_.out (by kernel_rfl)) (fun _ _ _ h => h) (Or.inl ⟨by rfl,?_⟩) ?_ ?_
             rotate_left
             ·intro w'
              go_simp
              with_reducible rfl
             rotate_left
             ·simp only [Act.put,List.setIfInBounds_toArray,List.set_cons_zero,List.set_cons_succ,i64_w,i32_w]
              rfl
             exact norm_ (by first | (simp only [putAll,Act.put,List.setIfInBounds_toArray,List.set_cons_zero,List.set_cons_succ];done) | (simp only [putAll,Act.put,List.setIfInBounds_toArray,List.set_cons_zero,List.set_cons_succ];rfl)) (hJ1_4 (v125) _ ⟨(by (with_reducible repeat (first | apply Kd.R_alloc | apply Kd.R_drewN | apply Kd.R_drew));exact ag.out),(by (with_reducible repeat (first | apply Kd.R_alloc | apply Kd.R_drewN | apply Kd.R_drew));exact a2.out),(by (with_reducible repeat (first | apply bkN | apply bkd | apply bka));exact a4.out),(by repeat (first | (with_reducible first | exact HI0.out | apply I5.alloc | apply I5.drewN | apply I5.drew | apply I5.set_0 | apply I5.set_1 | refine I5.far ?_ a6.out _) | exact HI0.out)),(by repeat (first | (with_reducible first | exact HK.out | apply KB.set_ | apply kpN | apply keep_drew | apply keep_alloc | refine keep_far ?_ ae.out _) | exact HK.out)),(by repeat (first | (with_reducible first | exact HB.out | apply bwa | apply pwN | apply bw1 | refine bws ?_ (I5.ge HI0.out) | refine bws ?_ al.out) | exact HB.out))⟩)
            ·skip
             refine box_step ?hg (N :=6) ?hd (cs :=#[.string ⟨#[]⟩,.int .i64 0,.slice none 0 0]) (t :=83) ?hr ?_;(case hd => rfl);(case hg => rfl);(case hr => first | (go_simp;done) | (go_simp;rfl))
             intro a3 hg w17 hbox hb
             have ar :=AZ.mk (Kd.R_below (Kd.R_elderB (by (with_reducible repeat (first | apply Kd.R_alloc | apply Kd.R_drewN | apply Kd.R_drew));exact a2.out) a3 (Nat.le_of_eq hg.symm)) hb)
             have aq :=AZ.mk (Kd.R_below (by (with_reducible repeat (first | apply Kd.R_alloc | apply Kd.R_drewN | apply Kd.R_drew));exact ag.out) hb)
             have ap :=AZ.mk (blk_below (g :=a8) (o :=.cells #[.string (strOfNums ai),a5] 43 (0,0)) (by (with_reducible repeat (first | apply bkN | apply bkd | apply bka));exact a4.out) hb)
             have ao :=AZ.mk (I5.below (by repeat (first | (with_reducible first | exact HI0.out | apply I5.alloc | apply I5.drewN | apply I5.drew | apply I5.set_0 | apply I5.set_1 | refine I5.far ?_ a6.out _) | exact HI0.out)) hb)
             have an :=AZ.mk (KB.trans (by repeat (first | (with_reducible first | exact HK.out | apply KB.set_ | apply kpN | apply keep_drew | apply keep_alloc | refine keep_far ?_ ae.out _) | exact HK.out)) (KB.of_below hb g none) (.inl rfl))
             have au :=AZ.mk (below_step (by repeat (first | (with_reducible first | exact HB.out | apply bwa | apply pwN | apply bw1 | refine bws ?_ (I5.ge HI0.out) | refine bws ?_ al.out) | exact HB.out)) hb)
             have ax :=AZ.mk (hbox)
             have aD :=AZ.mk ((by rw [hg];exact (keep_size (w :=w) (g :=g) (row :=none) (by repeat (first | (with_reducible first | exact HK.out | apply KB.set_ | apply kpN | apply keep_drew | apply keep_alloc | refine keep_far ?_ ae.out _) | exact HK.out))) : w.heap.size ≤ a3))
             have aJ :=AZ.mk ((Nat.le_trans HW0.out (by rw [hg];exact (keep_size (w :=w) (g :=g) (row :=none) (by repeat (first | (with_reducible first | exact HK.out | apply KB.set_ | apply kpN | apply keep_drew | apply keep_alloc | refine keep_far ?_ ae.out _) | exact HK.out))) : w.heap.size ≤ a3) : w0.heap.size ≤ a3))
             have aX :=AZ.mk ((by rw [hg];exact Nat.ne_of_lt (blk_lt (g :=a8) (o :=.cells #[.string (strOfNums ai),a5] 43 (0,0)) (by (with_reducible repeat (first | apply bkN | apply bkd | apply bka));exact a4.out)) : a8 ≠ a3))
             have n10_ :=AZ.mk ((by rw [hg];exact Nat.ne_of_gt (blk_lt (g :=a8) (o :=.cells #[.string (strOfNums ai),a5] 43 (0,0)) (by (with_reducible repeat (first | apply bkN | apply bkd | apply bka));exact a4.out)) : a3 ≠ a8))
             have n11_ :=AZ.mk ((by rw [hg];exact Nat.ne_of_lt (I5.lt (show I5 w0 _ g aB aA from by repeat (first | (with_reducible first | exact HI0.out | apply I5.alloc | apply I5.drewN | apply I5.drew | apply I5.set_0 | apply I5.set_1 | refine I5.far ?_ a6.out _) | exact HI0.out))) : g ≠ a3))
             have n12_ :=AZ.mk ((by rw [hg];exact Nat.ne_of_gt (I5.lt (show I5 w0 _ g aB aA from by repeat (first | (with_reducible first | exact HI0.out | apply I5.alloc | apply I5.drewN | apply I5.drew | apply I5.set_0 | apply I5.set_1 | refine I5.far ?_ a6.out _) | exact HI0.out))) : a3 ≠ g))
             clear a2
             clear ag
             clear a4
             clear HI0
             clear HK
             clear HB
             have a2 :=ar
             have ag :=aq
             have a4 :=ap
             have HI0 :=ao
             have HK :=an
             have HB :=au
             have a7 :=ax
             have ah :=aD
             have ak :=aJ
             have ad :=aX
             have af :=n10_
             have a9 :=n11_
             have aj :=n12_
             clear ar aq ap ao an au ax aD aJ aX n10_ n11_ n12_
             clear hb hbox hg
             refine hK.out _ _ trivial (fun hHeld => ?_)
             clear hK K
             refine norm_ (a' :=?_) ?_ ?_
             rotate_left
             ·show Act.put _ (some 6) _ = _
              simp only [Act.put,List.setIfInBounds_toArray,List.set_cons_zero,List.set_cons_succ,i64_w,i32_w]
              rfl
             exact norm_ (by first | (simp only [putAll,Act.put,List.setIfInBounds_toArray,List.set_cons_zero,List.set_cons_succ];done) | (simp only [putAll,Act.put,List.setIfInBounds_toArray,List.set_cons_zero,List.set_cons_succ];rfl)) (hJ1_7 (v125,a3) _ ⟨(by (with_reducible repeat (first | apply Kd.R_alloc | apply Kd.R_drewN | apply Kd.R_drew));exact ag.out),(by (with_reducible repeat (first | apply Kd.R_alloc | apply Kd.R_drewN | apply Kd.R_drew));exact a2.out),(by (with_reducible repeat (first | apply bkN | apply bkd | apply bka));exact a4.out),(by (with_reducible repeat (first | apply bkN | apply bkd | apply bka));exact a7.out),ah.out,ak.out,a9.out,aj.out,ad.out,af.out,(by repeat (first | (with_reducible first | exact HI0.out | apply I5.alloc | apply I5.drewN | apply I5.drew | apply I5.set_0 | apply I5.set_1 | refine I5.far ?_ a6.out _ | refine I5.far ?_ a9.out _) | exact HI0.out)),(by repeat (first | (with_reducible first | exact HK.out | apply KB.set_ | apply kpN | apply keep_drew | apply keep_alloc | refine keep_far ?_ ae.out _ | refine keep_far ?_ ah.out _) | exact HK.out)),(by repeat (first | (with_reducible first | exact HB.out | apply bwa | apply pwN | apply bw1 | refine bws ?_ (I5.ge HI0.out) | refine bws ?_ al.out | refine bws ?_ ak.out) | exact HB.out))⟩)
          ·skip
           rintro ⟨v125,a3⟩ w17 ⟨h0_,h1_,h2_,h3_,h4_,h5_,h6_,h7_,h8_,h9_,h10_,h11_,h12_⟩
           have ar : AZ (Kd.R (Kd.int .u8) 5 w17 w.heap.size (fun _ => True) v125 am) :=⟨h0_⟩
           have aq : AZ (Kd.R k83 83 w17 w.heap.size (fun k_ => some k_ ≠ (v125 : Value).ownBlock ∧ k_ ≠ a3) a5 aa) :=⟨h1_⟩
           have ap : AZ (w17.heap[a8]? = some (.cells #[.string (strOfNums ai),a5] 43 (0,0))) :=⟨h2_⟩
           have ao : AZ (w17.heap[a3]? = some (.cells #[.string ⟨#[]⟩,.int .i64 0,.slice none 0 0] 83 (0,0))) :=⟨h3_⟩
           have an : AZ (w.heap.size ≤ a3) :=⟨h4_⟩
           have au : AZ (w0.heap.size ≤ a3) :=⟨h5_⟩
           have ax : AZ (g ≠ a3) :=⟨h6_⟩
           have aD : AZ (a3 ≠ g) :=⟨h7_⟩
           have aJ : AZ (a8 ≠ a3) :=⟨h8_⟩
           have aX : AZ (a3 ≠ a8) :=⟨h9_⟩
           have n10_ : AZ (I5 w0 w17 g aB aA) :=⟨h10_⟩
           have n11_ : AZ (KB w w17 g none) :=⟨h11_⟩
           have n12_ : AZ (Below w0.heap.size w0 w17) :=⟨h12_⟩
           clear a2
           clear a4
           clear HI0
           clear HK
           clear HB
           clear h0_ h1_ h2_ h3_ h4_ h5_ h6_ h7_ h8_ h9_ h10_ h11_ h12_
           have ag :=ar
           have a2 :=aq
           have a4 :=ap
           have a7 :=ao
           have ah :=an
           have ak :=au
           have a9 :=ax
           have aj :=aD
           have ad :=aJ
           have af :=aX
           have HI0 :=n10_
           have HK :=n11_
           have HB :=n12_
           clear ar aq ap ao an au ax aD aJ aX n10_ n11_ n12_
           have hHeld :=trivial
           refine norm_ (a' :=?_) ?_ ?_
           rotate_left
           ·simp only [putAll,Act.put,List.setIfInBounds_toArray,List.set_cons_zero,List.set_cons_succ]
            rfl
           refine two_ (i :=2) (j :=4) (Ni :=some 25) (Nj :=some 27) #[true,true,true,true,false,false,false,true,false] #[true,true,false,true,true,false,false,true,false] rfl rfl rfl rfl (two_of HT_.out (by kernel_rfl)) (by decide) (by decide) (fun K hK => ?_) (fun K hK => ?_)
           ·skip
            have hcv18 :=own_string (P :=Tryz.prog) Tryz.underlying22 Tryz.underlying5 Tryz.underlying9 (Kd.own_of_R ag.out)
            refine value_ (w1 :=?_) (v :=?_) (by rfl) rfl ?_ ?_
            rotate_left 2
            ·go_simp
             constructor
             ·rfl
             ·rfl
            clear hcv18
            refine hK.out _ _ trivial (fun hHeld => ?_)
            clear hK K
            refine norm_ (a' :=?_) ?_ ?_
            rotate_left
            ·show Act.put _ (some 25) _ = _
             simp only [Act.put,List.setIfInBounds_toArray,List.set_cons_zero,List.set_cons_succ,i64_w,i32_w]
             rfl
            exact norm_ (by first | (simp only [putAll,Act.put,List.setIfInBounds_toArray,List.set_cons_zero,List.set_cons_succ];done) | (simp only [putAll,Act.put,List.setIfInBounds_toArray,List.set_cons_zero,List.set_cons_succ];rfl)) (hJ1_2_7 (v125,a3) _ ⟨(by (with_reducible repeat (first | apply Kd.R_alloc | apply Kd.R_drewN | apply Kd.R_drew));exact ag.out),(by (with_reducible repeat (first | apply Kd.R_alloc | apply Kd.R_drewN | apply Kd.R_drew));exact a2.out),(by (with_reducible repeat (first | apply bkN | apply bkd | apply bka));exact a4.out),(by (with_reducible repeat (first | apply bkN | apply bkd | apply bka));exact a7.out),ah.out,ak.out,a9.out,aj.out,ad.out,af.out,(by repeat (first | (with_reducible first | exact HI0.out | apply I5.alloc | apply I5.drewN | apply I5.drew | apply I5.set_0 | apply I5.set_1 | refine I5.far ?_ a6.out _ | refine I5.far ?_ a9.out _) | exact HI0.out)),(by repeat (first | (with_reducible first | exact HK.out | apply KB.set_ | apply kpN | apply keep_drew | apply keep_alloc | refine keep_far ?_ ae.out _ | refine keep_far ?_ ah.out _) | exact HK.out)),(by repeat (first | (with_reducible first | exact HB.out | apply bwa | apply pwN | apply bw1 | refine bws ?_ (I5.ge HI0.out) | refine bws ?_ al.out | refine bws ?_ ak.out) | exact HB.out))⟩)
           ·skip
            refine goesC_ Tryz.func13 (by kernel_rfl) rfl #[.pointer (some ⟨g,0,none⟩),.int .i64 8] (by rfl) rfl rfl rfl (by (try simp only [List.map_toArray,List.map_cons,List.map_nil]);first | done | rfl | (simp only [List.length_drop,List.length_take];rfl)) ?_
            with_reducible refine (pr_num.calls k1 g aB aA 8 av aI aH w0 _ ?side1 ?side2 cf.out).mono ?_
            (case side1 => repeat (first | (with_reducible first | exact HI0.out | apply I5.alloc | apply I5.drewN | apply I5.drew | apply I5.set_0 | apply I5.set_1 | refine I5.far ?_ a6.out _ | refine I5.far ?_ a9.out _) | exact HI0.out))
            (case side2 => repeat (first | (with_reducible first | exact HB.out | apply bwa | apply pwN | apply bw1 | refine bws ?_ (I5.ge HI0.out) | refine bws ?_ al.out | refine bws ?_ ak.out) | exact HB.out))
            rintro e w18 ⟨rfl,hi,hb,hk⟩
            refine ⟨_,rfl,?_⟩
            have ar :=AZ.mk (Kd.R_mono (Kd.R_keep (I5.apart (show I5 w0 _ g aB aA from by repeat (first | (with_reducible first | exact HI0.out | apply I5.alloc | apply I5.drewN | apply I5.drew | apply I5.set_0 | apply I5.set_1 | refine I5.far ?_ a6.out _ | refine I5.far ?_ a9.out _) | exact HI0.out)) (by (with_reducible repeat (first | apply Kd.R_alloc | apply Kd.R_drewN | apply Kd.R_drew));exact a2.out) (by decide)) hk (fun _ h => h.2)) (fun _ h => h.1))
            have aq :=AZ.mk (KB.blk hk (g' :=a8) (o :=.cells #[.string (strOfNums ai),a5] 43 (0,0)) (by (with_reducible repeat (first | apply bkN | apply bkd | apply bka));exact a4.out) aw.out (by simp))
            have ap :=AZ.mk (Kd.R_mono (Kd.R_keep (I5.apart (show I5 w0 _ g aB aA from by repeat (first | (with_reducible first | exact HI0.out | apply I5.alloc | apply I5.drewN | apply I5.drew | apply I5.set_0 | apply I5.set_1 | refine I5.far ?_ a6.out _ | refine I5.far ?_ a9.out _) | exact HI0.out)) (by (with_reducible repeat (first | apply Kd.R_alloc | apply Kd.R_drewN | apply Kd.R_drew));exact ag.out) (by decide)) hk (fun _ h => h.2)) (fun _ h => h.1))
            have ao :=AZ.mk (KB.blk hk (g' :=a3) (o :=.cells #[.string ⟨#[]⟩,.int .i64 0,.slice none 0 0] 83 (0,0)) (by (with_reducible repeat (first | apply bkN | apply bkd | apply bka));exact a7.out) aj.out (by simp))
            have an :=AZ.mk (KB.trans (by repeat (first | (with_reducible first | exact HK.out | apply KB.set_ | apply kpN | apply keep_drew | apply keep_alloc | refine keep_far ?_ ae.out _ | refine keep_far ?_ ah.out _) | exact HK.out)) hk (.inl rfl))
            have au :=AZ.mk (hb)
            have ax :=AZ.mk (hi)
            clear a2
            clear a4
            clear ag
            clear a7
            clear HK
            clear HB
            clear HI0
            have a2 :=ar
            have a4 :=aq
            have ag :=ap
            have a7 :=ao
            have HK :=an
            have HB :=au
            have HI0 :=ax
            clear ar aq ap ao an au ax
            (try clear hb)
            (try clear hb2)
            (try clear hk)
            (try clear hi)
            refine hK.out _ _ trivial (fun hHeld => ?_)
            clear hK K
            refine norm_ (a' :=?_) ?_ ?_
            rotate_left
            ·show Act.put _ (some 27) _ = _
             simp only [Act.put,List.setIfInBounds_toArray,List.set_cons_zero,List.set_cons_succ,i64_w,i32_w]
             rfl
            refine pure_ (i :=5) (N :=some 28) (v :=?_) (a' :=?_) #[true,true,false,true,true,true,false,true,false] rfl rfl (any_of HT_.out (by kernel_rfl)) (fun _ _ _ h => h) (Or.inl ⟨by rfl,?_⟩) ?_ ?_
            rotate_left
            ·intro w'
             go_simp
             with_reducible rfl
            rotate_left
            ·simp only [Act.put,List.setIfInBounds_toArray,List.set_cons_zero,List.set_cons_succ,i64_w,i32_w]
             rfl
            exact norm_ (by first | (simp only [putAll,Act.put,List.setIfInBounds_toArray,List.set_cons_zero,List.set_cons_succ];done) | (simp only [putAll,Act.put,List.setIfInBounds_toArray,List.set_cons_zero,List.set_cons_succ];rfl)) (hJ1_4_7 (v125,a3) _ ⟨(by (with_reducible repeat (first | apply Kd.R_alloc | apply Kd.R_drewN | apply Kd.R_drew));exact ag.out),(by (with_reducible repeat (first | apply Kd.R_alloc | apply Kd.R_drewN | apply Kd.R_drew));exact a2.out),(by (with_reducible repeat (first | apply bkN | apply bkd | apply bka));exact a4.out),(by (with_reducible repeat (first | apply bkN | apply bkd | apply bka));exact a7.out),ah.out,ak.out,a9.out,aj.out,ad.out,af.out,(by repeat (first | (with_reducible first | exact HI0.out | apply I5.alloc | apply I5.drewN | apply I5.drew | apply I5.set_0 | apply I5.set_1 | refine I5.far ?_ a6.out _ | refine I5.far ?_ a9.out _) | exact HI0.out)),(by repeat (first | (with_reducible first | exact HK.out | apply KB.set_ | apply kpN | apply keep_drew | apply keep_alloc | refine keep_far ?_ ae.out _ | refine keep_far ?_ ah.out _) | exact HK.out)),(by repeat (first | (with_reducible first | exact HB.out | apply bwa | apply pwN | apply bw1 | refine bws ?_ (I5.ge HI0.out) | refine bws ?_ al.out | refine bws ?_ ak.out) | exact HB.out))⟩)
         ·skip
          rintro v125 w17 ⟨h0_,h1_,h2_,h3_,h4_,h5_⟩
          have ar : AZ (Kd.R (Kd.int .u8) 5 w17 w.heap.size (fun _ => True) v125 am) :=⟨h0_⟩
          have aq : AZ (Kd.R k83 83 w17 w.heap.size (fun k_ => some k_ ≠ (v125 : Value).ownBlock) a5 aa) :=⟨h1_⟩
          have ap : AZ (w17.heap[a8]? = some (.cells #[.string (strOfNums ai),a5] 43 (0,0))) :=⟨h2_⟩
          have ao : AZ (I5 w0 w17 g aI aH) :=⟨h3_⟩
          have an : AZ (KB w w17 g none) :=⟨h4_⟩
          have au : AZ (Below w0.heap.size w0 w17) :=⟨h5_⟩
          clear a2
          clear a4
          clear HI0
          clear HK
          clear HB
          clear h0_ h1_ h2_ h3_ h4_ h5_
          have ag :=ar
          have a2 :=aq
          have a4 :=ap
          have HI0 :=ao
          have HK :=an
          have HB :=au
          clear ar aq ap ao an au
          have hHeld :=trivial
          refine norm_ (a' :=?_) ?_ ?_
          rotate_left
          ·simp only [putAll,Act.put,List.setIfInBounds_toArray,List.set_cons_zero,List.set_cons_succ]
           rfl
          refine two_ (i :=2) (j :=7) (Ni :=some 25) (Nj :=some 6) #[true,true,true,true,true,true,false,false,false] #[true,true,false,true,true,true,false,true,false] rfl rfl rfl rfl (two_of HT_.out (by kernel_rfl)) (by decide) (by decide) (fun K hK => ?_) (fun K hK => ?_)
          ·skip
           have hcv18 :=own_string (P :=Tryz.prog) Tryz.underlying22 Tryz.underlying5 Tryz.underlying9 (Kd.own_of_R ag.out)
           refine value_ (w1 :=?_) (v :=?_) (by rfl) rfl ?_ ?_
           rotate_left 2
           ·go_simp
            constructor
            ·rfl
            ·rfl
           clear hcv18
           refine hK.out _ _ trivial (fun hHeld => ?_)
           clear hK K
           refine norm_ (a' :=?_) ?_ ?_
           rotate_left
           ·show Act.put _ (some 25) _ = _
            simp only [Act.put,List.setIfInBounds_toArray,List.set_cons_zero,List.set_cons_succ,i64_w,i32_w]
            rfl
           refine pure_ (i :=6) (N :=some 29) (v :=?_) (a' :=?_) #[true,true,true,true,true,true,true,false,false] rfl rfl (any_of HT_.out (by kernel_rfl)) (fun _ _ _ h => h) (Or.inl ⟨by rfl,?_⟩) ?_ ?_
           rotate_left
           ·intro w'
            go_simp
            with_reducible rfl
           rotate_left
           ·simp only [Act.put,List.setIfInBounds_toArray,List.set_cons_zero,List.set_cons_succ,i64_w,i32_w]
            rfl
           exact norm_ (by first | (simp only [putAll,Act.put,List.setIfInBounds_toArray,List.set_cons_zero,List.set_cons_succ];done) | (simp only [putAll,Act.put,List.setIfInBounds_toArray,List.set_cons_zero,List.set_cons_succ];rfl)) (hJ1_2_4 (v125) _ ⟨(by (with_reducible repeat (first | apply Kd.R_alloc | apply Kd.R_drewN | apply Kd.R_drew));exact ag.out),(by (with_reducible repeat (first | apply Kd.R_alloc | apply Kd.R_drewN | apply Kd.R_drew));exact a2.out),(by (with_reducible repeat (first | apply bkN | apply bkd | apply bka));exact a4.out),(by repeat (first | (with_reducible first | exact HI0.out | apply I5.alloc | apply I5.drewN | apply I5.drew | apply I5.set_0 | apply I5.set_1 | refine I5.far ?_ a6.out _) | exact HI0.out)),(by repeat (first | (with_reducible first | exact HK.out | apply KB.set_ | apply kpN | apply keep_drew | apply keep_alloc | refine keep_far ?_ ae.out _) | exact HK.out)),(by repeat (first | (with_reducible first | exact HB.out | apply bwa | apply pwN | apply bw1 | refine bws ?_ (I5.ge HI0.out) | refine bws ?_ al.out) | exact HB.out))⟩)
          ·skip
           refine box_step ?hg (N :=6) ?hd (cs :=#[.string ⟨#[]⟩,.int .i64 0,.slice none 0 0]) (t :=83) ?hr ?_;(case hd => rfl);(case hg => rfl);(case hr => first | (go_simp;done) | (go_simp;rfl))
           intro a3 hg w18 hbox hb
           have ar :=AZ.mk (Kd.R_below (Kd.R_elderB (by (with_reducible repeat (first | apply Kd.R_alloc | apply Kd.R_drewN | apply Kd.R_drew));exact a2.out) a3 (Nat.le_of_eq hg.symm)) hb)
           have aq :=AZ.mk (Kd.R_below (by (with_reducible repeat (first | apply Kd.R_alloc | apply Kd.R_drewN | apply Kd.R_drew));exact ag.out) hb)
           have ap :=AZ.mk (blk_below (g :=a8) (o :=.cells #[.string (strOfNums ai),a5] 43 (0,0)) (by (with_reducible repeat (first | apply bkN | apply bkd | apply bka));exact a4.out) hb)
           have ao :=AZ.mk (I5.below (by repeat (first | (with_reducible first | exact HI0.out | apply I5.alloc | apply I5.drewN | apply I5.drew | apply I5.set_0 | apply I5.set_1 | refine I5.far ?_ a6.out _) | exact HI0.out)) hb)
           have an :=AZ.mk (KB.trans (by repeat (first | (with_reducible first | exact HK.out | apply KB.set_ | apply kpN | apply keep_drew | apply keep_alloc | refine keep_far ?_ ae.out _) | exact HK.out)) (KB.of_below hb g none) (.inl rfl))
           have au :=AZ.mk (below_step (by repeat (first | (with_reducible first | exact HB.out | apply bwa | apply pwN | apply bw1 | refine bws ?_ (I5.ge HI0.out) | refine bws ?_ al.out) | exact HB.out)) hb)
           have ax :=AZ.mk (hbox)
           have aD :=AZ.mk ((by rw [hg];exact (keep_size (w :=w) (g :=g) (row :=none) (by repeat (first | (with_reducible first | exact HK.out | apply KB.set_ | apply kpN | apply keep_drew | apply keep_alloc | refine keep_far ?_ ae.out _) | exact HK.out))) : w.heap.size ≤ a3))
           have aJ :=AZ.mk ((Nat.le_trans HW0.out (by rw [hg];exact (keep_size (w :=w) (g :=g) (row :=none) (by repeat (first | (with_reducible first | exact HK.out | apply KB.set_ | apply kpN | apply keep_drew | apply keep_alloc | refine keep_far ?_ ae.out _) | exact HK.out))) : w.heap.size ≤ a3) : w0.heap.size ≤ a3))
           have aX :=AZ.mk ((by rw [hg];exact Nat.ne_of_lt (blk_lt (g :=a8) (o :=.cells #[.string (strOfNums ai),a5] 43 (0,0)) (by (with_reducible repeat (first | apply bkN | apply bkd | apply bka));exact a4.out)) : a8 ≠ a3))
           have n10_ :=AZ.mk ((by rw [hg];exact Nat.ne_of_gt (blk_lt (g :=a8) (o :=.cells #[.string (strOfNums ai),a5] 43 (0,0)) (by (with_reducible repeat (first | apply bkN | apply bkd | apply bka));exact a4.out)) : a3 ≠ a8))
           have n11_ :=AZ.mk ((by rw [hg];exact Nat.ne_of_lt (I5.lt (show I5 w0 _ g aI aH from by repeat (first | (with_reducible first | exact HI0.out | apply I5.alloc | apply I5.drewN | apply I5.drew | apply I5.set_0 | apply I5.set_1 | refine I5.far ?_ a6.out _) | exact HI0.out))) : g ≠ a3))
           have n12_ :=AZ.mk ((by rw [hg];exact Nat.ne_of_gt (I5.lt (show I5 w0 _ g aI aH from by repeat (first | (with_reducible first | exact HI0.out | apply I5.alloc | apply I5.drewN | apply I5.drew | apply I5.set_0 | apply I5.set_1 | refine I5.far ?_ a6.out _) | exact HI0.out))) : a3 ≠ g))
           clear a2
           clear ag
           clear a4
           clear HI0
           clear HK
           clear HB
           have a2 :=ar
           have ag :=aq
           have a4 :=ap
           have HI0 :=ao
           have HK :=an
           have HB :=au
           have a7 :=ax
           have ah :=aD
           have ak :=aJ
           have ad :=aX
           have af :=n10_
           have a9 :=n11_
           have aj :=n12_
           clear ar aq ap ao an au ax aD aJ aX n10_ n11_ n12_
           clear hb hbox hg
           refine hK.out _ _ trivial (fun hHeld => ?_)
           clear hK K
           refine norm_ (a' :=?_) ?_ ?_
           rotate_left
           ·show Act.put _ (some 6) _ = _
            simp only [Act.put,List.setIfInBounds_toArray,List.set_cons_zero,List.set_cons_succ,i64_w,i32_w]
            rfl
           exact norm_ (by first | (simp only [putAll,Act.put,List.setIfInBounds_toArray,List.set_cons_zero,List.set_cons_succ];done) | (simp only [putAll,Act.put,List.setIfInBounds_toArray,List.set_cons_zero,List.set_cons_succ];rfl)) (hJ1_4_7 (v125,a3) _ ⟨(by (with_reducible repeat (first | apply Kd.R_alloc | apply Kd.R_drewN | apply Kd.R_drew));exact ag.out),(by (with_reducible repeat (first | apply Kd.R_alloc | apply Kd.R_drewN | apply Kd.R_drew));exact a2.out),(by (with_reducible repeat (first | apply bkN | apply bkd | apply bka));exact a4.out),(by (with_reducible repeat (first | apply bkN | apply bkd | apply bka));exact a7.out),ah.out,ak.out,a9.out,aj.out,ad.out,af.out,(by repeat (first | (with_reducible first | exact HI0.out | apply I5.alloc | apply I5.drewN | apply I5.drew | apply I5.set_0 | apply I5.set_1 | refine I5.far ?_ a6.out _ | refine I5.far ?_ a9.out _) | exact HI0.out)),(by repeat (first | (with_reducible first | exact HK.out | apply KB.set_ | apply kpN | apply keep_drew | apply keep_alloc | refine keep_far ?_ ae.out _ | refine keep_far ?_ ah.out _) | exact HK.out)),(by repeat (first | (with_reducible first | exact HB.out | apply bwa | apply pwN | apply bw1 | refine bws ?_ (I5.ge HI0.out) | refine bws ?_ al.out | refine bws ?_ ak.out) | exact HB.out))⟩)
        ·skip
         rintro v125 w17 ⟨h0_,h1_,h2_,h3_,h4_,h5_⟩
         have ar : AZ (Kd.R (Kd.int .u8) 5 w17 w.heap.size (fun _ => True) v125 am) :=⟨h0_⟩
         have aq : AZ (Kd.R k83 83 w17 w.heap.size (fun k_ => some k_ ≠ (v125 : Value).ownBlock) a5 aa) :=⟨h1_⟩
         have ap : AZ (w17.heap[a8]? = some (.cells #[.string (strOfNums ai),a5] 43 (0,0))) :=⟨h2_⟩
         have ao : AZ (I5 w0 w17 g aB aA) :=⟨h3_⟩
         have an : AZ (KB w w17 g none) :=⟨h4_⟩
         have au : AZ (Below w0.heap.size w0 w17) :=⟨h5_⟩
         clear a2
         clear a4
         clear HI0
         clear HK
         clear HB
         clear h0_ h1_ h2_ h3_ h4_ h5_
         have ag :=ar
         have a2 :=aq
         have a4 :=ap
         have HI0 :=ao
         have HK :=an
         have HB :=au
         clear ar aq ap ao an au
         have hHeld :=trivial
         refine norm_ (a' :=?_) ?_ ?_
         rotate_left
         ·simp only [putAll,Act.put,List.setIfInBounds_toArray,List.set_cons_zero,List.set_cons_succ]
          rfl
         refine two_ (i :=4) (j :=7) (Ni :=some 27) (Nj :=some 6) #[true,true,true,true,true,false,false,false,false] #[true,true,true,true,false,false,false,true,false] rfl rfl rfl rfl (two_of HT_.out (by kernel_rfl)) (by decide) (by decide) (fun K hK => ?_) (fun K hK => ?_)
         ·skip
          refine goesC_ Tryz.func13 (by kernel_rfl) rfl #[.pointer (some ⟨g,0,none⟩),.int .i64 8] (by rfl) rfl rfl rfl (by (try simp only [List.map_toArray,List.map_cons,List.map_nil]);first | done | rfl | (simp only [List.length_drop,List.length_take];rfl)) ?_
          with_reducible refine (pr_num.calls k1 g aB aA 8 av aI aH w0 _ ?side1 ?side2 cf.out).mono ?_
          (case side1 => repeat (first | (with_reducible first | exact HI0.out | apply I5.alloc | apply I5.drewN | apply I5.drew | apply I5.set_0 | apply I5.set_1 | refine I5.far ?_ a6.out _) | exact HI0.out))
          (case side2 => repeat (first | (with_reducible first | exact HB.out | apply bwa | apply pwN | apply bw1 | refine bws ?_ (I5.ge HI0.out) | refine bws ?_ al.out) | exact HB.out))
          rintro e w18 ⟨rfl,hi,hb,hk⟩
          refine ⟨_,rfl,?_⟩
          have ar :=AZ.mk (Kd.R_mono (Kd.R_keep (I5.apart (show I5 w0 _ g aB aA from by repeat (first | (with_reducible first | exact HI0.out | apply I5.alloc | apply I5.drewN | apply I5.drew | apply I5.set_0 | apply I5.set_1 | refine I5.far ?_ a6.out _) | exact HI0.out)) (by (with_reducible repeat (first | apply Kd.R_alloc | apply Kd.R_drewN | apply Kd.R_drew));exact a2.out) (by decide)) hk (fun _ h => h.2)) (fun _ h => h.1))
          have aq :=AZ.mk (KB.blk hk (g' :=a8) (o :=.cells #[.string (strOfNums ai),a5] 43 (0,0)) (by (with_reducible repeat (first | apply bkN | apply bkd | apply bka));exact a4.out) aw.out (by simp))
          have ap :=AZ.mk (Kd.R_mono (Kd.R_keep (I5.apart (show I5 w0 _ g aB aA from by repeat (first | (with_reducible first | exact HI0.out | apply I5.alloc | apply I5.drewN | apply I5.drew | apply I5.set_0 | apply I5.set_1 | refine I5.far ?_ a6.out _) | exact HI0.out)) (by (with_reducible repeat (first | apply Kd.R_alloc | apply Kd.R_drewN | apply Kd.R_drew));exact ag.out) (by decide)) hk (fun _ h => h.2)) (fun _ h => h.1))
          have ao :=AZ.mk (KB.trans (by repeat (first | (with_reducible first | exact HK.out | apply KB.set_ | apply kpN | apply keep_drew | apply keep_alloc | refine keep_far ?_ ae.out _) | exact HK.out)) hk (.inl rfl))
          have an :=AZ.mk (hb)
          have au :=AZ.mk (hi)
          clear a2
          clear a4
          clear ag
          clear HK
          clear HB
          clear HI0
          have a2 :=ar
          have a4 :=aq
          have ag :=ap
          have HK :=ao
          have HB :=an
          have HI0 :=au
          clear ar aq ap ao an au
          (try clear hb)
          (try clear hb2)
          (try clear hk)
          (try clear hi)
          refine hK.out _ _ trivial (fun hHeld => ?_)
          clear hK K
          refine norm_ (a' :=?_) ?_ ?_
          rotate_left
          ·show Act.put _ (some 27) _ = _
           simp only [Act.put,List.setIfInBounds_toArray,List.set_cons_zero,List.set_cons_succ,i64_w,i32_w]
           rfl
          refine pure_ (i :=5) (N :=some 28) (v :=?_) (a' :=?_) #[true,true,true,true,true,true,false,false,false] rfl rfl (any_of HT_.out (by kernel_rfl)) (fun _ _ _ h => h) (Or.inl ⟨by rfl,?_⟩) ?_ ?_
          rotate_left
          ·intro w'
           go_simp
           with_reducible rfl
          rotate_left
          ·simp only [Act.put,List.setIfInBounds_toArray,List.set_cons_zero,List.set_cons_succ,i64_w,i32_w]
           rfl
          refine pure_ (i :=6) (N :=some 29) (v :=?_) (a' :=?_) #[true,true,true,true,true,true,true,false,false] rfl rfl (any_of HT_.out (by kernel_rfl)) (fun _ _ _ h => h) (Or.inl ⟨by rfl,?_⟩) ?_ ?_
          rotate_left
          ·intro w'
           go_simp
           with_reducible rfl
          rotate_left
          ·simp only [Act.put,List.setIfInBounds_toArray,List.set_cons_zero,List.set_cons_succ,i64_w,i32_w]
           rfl
          exact norm_ (by first | (simp only [putAll,Act.put,List.setIfInBounds_toArray,List.set_cons_zero,List.set_cons_succ];done) | (simp only [putAll,Act.put,List.setIfInBounds_toArray,List.set_cons_zero,List.set_cons_succ];rfl)) (hJ1_2_4 (v125) _ ⟨(by (with_reducible repeat (first | apply Kd.R_alloc | apply Kd.R_drewN | apply Kd.R_drew));exact ag.out),(by (with_reducible repeat (first | apply Kd.R_alloc | apply Kd.R_drewN | apply Kd.R_drew));exact a2.out),(by (with_reducible repeat (first | apply bkN | apply bkd | apply bka));exact a4.out),(by repeat (first | (with_reducible first | exact HI0.out | apply I5.alloc | apply I5.drewN | apply I5.drew | apply I5.set_0 | apply I5.set_1 | refine I5.far ?_ a6.out _) | exact HI0.out)),(by repeat (first | (with_reducible first | exact HK.out | apply KB.set_ | apply kpN | apply keep_drew | apply keep_alloc | refine keep_far ?_ ae.out _) | exact HK.out)),(by repeat (first | (with_reducible first | exact HB.out | apply bwa | apply pwN | apply bw1 | refine bws ?_ (I5.ge HI0.out) | refine bws ?_ al.out) | exact HB.out))⟩)
         ·skip
          refine box_step ?hg (N :=6) ?hd (cs :=#[.string ⟨#[]⟩,.int .i64 0,.slice none 0 0]) (t :=83) ?hr ?_;(case hd => rfl);(case hg => rfl);(case hr => first | (go_simp;done) | (go_simp;rfl))
          intro a3 hg w18 hbox hb
          have ar :=AZ.mk (Kd.R_below (Kd.R_elderB (by (with_reducible repeat (first | apply Kd.R_alloc | apply Kd.R_drewN | apply Kd.R_drew));exact a2.out) a3 (Nat.le_of_eq hg.symm)) hb)
          have aq :=AZ.mk (Kd.R_below (by (with_reducible repeat (first | apply Kd.R_alloc | apply Kd.R_drewN | apply Kd.R_drew));exact ag.out) hb)
          have ap :=AZ.mk (blk_below (g :=a8) (o :=.cells #[.string (strOfNums ai),a5] 43 (0,0)) (by (with_reducible repeat (first | apply bkN | apply bkd | apply bka));exact a4.out) hb)
          have ao :=AZ.mk (I5.below (by repeat (first | (with_reducible first | exact HI0.out | apply I5.alloc | apply I5.drewN | apply I5.drew | apply I5.set_0 | apply I5.set_1 | refine I5.far ?_ a6.out _) | exact HI0.out)) hb)
          have an :=AZ.mk (KB.trans (by repeat (first | (with_reducible first | exact HK.out | apply KB.set_ | apply kpN | apply keep_drew | apply keep_alloc | refine keep_far ?_ ae.out _) | exact HK.out)) (KB.of_below hb g none) (.inl rfl))
          have au :=AZ.mk (below_step (by repeat (first | (with_reducible first | exact HB.out | apply bwa | apply pwN | apply bw1 | refine bws ?_ (I5.ge HI0.out) | refine bws ?_ al.out) | exact HB.out)) hb)
          have ax :=AZ.mk (hbox)
          have aD :=AZ.mk ((by rw [hg];exact (keep_size (w :=w) (g :=g) (row :=none) (by repeat (first | (with_reducible first | exact HK.out | apply KB.set_ | apply kpN | apply keep_drew | apply keep_alloc | refine keep_far ?_ ae.out _) | exact HK.out))) : w.heap.size ≤ a3))
          have aJ :=AZ.mk ((Nat.le_trans HW0.out (by rw [hg];exact (keep_size (w :=w) (g :=g) (row :=none) (by repeat (first | (with_reducible first | exact HK.out | apply KB.set_ | apply kpN | apply keep_drew | apply keep_alloc | refine keep_far ?_ ae.out _) | exact HK.out))) : w.heap.size ≤ a3) : w0.heap.size ≤ a3))
          have aX :=AZ.mk ((by rw [hg];exact Nat.ne_of_lt (blk_lt (g :=a8) (o :=.cells #[.string (strOfNums ai),a5] 43 (0,0)) (by (with_reducible repeat (first | apply bkN | apply bkd | apply bka));exact a4.out)) : a8 ≠ a3))
          have n10_ :=AZ.mk ((by rw [hg];exact Nat.ne_of_gt (blk_lt (g :=a8) (o :=.cells #[.string (strOfNums ai),a5] 43 (0,0)) (by (with_reducible repeat (first | apply bkN | apply bkd | apply bka));exact a4.out)) : a3 ≠ a8))
          have n11_ :=AZ.mk ((by rw [hg];exact Nat.ne_of_lt (I5.lt (show I5 w0 _ g aB aA from by repeat (first | (with_reducible first | exact HI0.out | apply I5.alloc | apply I5.drewN | apply I5.drew | apply I5.set_0 | apply I5.set_1 | refine I5.far ?_ a6.out _) | exact HI0.out))) : g ≠ a3))
          have n12_ :=AZ.mk ((by rw [hg];exact Nat.ne_of_gt (I5.lt (show I5 w0 _ g aB aA from by repeat (first | (with_reducible first | exact HI0.out | apply I5.alloc | apply I5.drewN | apply I5.drew | apply I5.set_0 | apply I5.set_1 | refine I5.far ?_ a6.out _) | exact HI0.out))) : a3 ≠ g))
          clear a2
          clear ag
          clear a4
          clear HI0
          clear HK
          clear HB
          have a2 :=ar
          have ag :=aq
          have a4 :=ap
          have HI0 :=ao
          have HK :=an
          have HB :=au
          have a7 :=ax
          have ah :=aD
          have ak :=aJ
          have ad :=aX
          have af :=n10_
          have a9 :=n11_
          have aj :=n12_
          clear ar aq ap ao an au ax aD aJ aX n10_ n11_ n12_
          clear hb hbox hg
          refine hK.out _ _ trivial (fun hHeld => ?_)
          clear hK K
          refine norm_ (a' :=?_) ?_ ?_
          rotate_left
          ·show Act.put _ (some 6) _ = _
           simp only [Act.put,List.setIfInBounds_toArray,List.set_cons_zero,List.set_cons_succ,i64_w,i32_w]
           rfl
          exact norm_ (by first | (simp only [putAll,Act.put,List.setIfInBounds_toArray,List.set_cons_zero,List.set_cons_succ];done) | (simp only [putAll,Act.put,List.setIfInBounds_toArray,List.set_cons_zero,List.set_cons_succ];rfl)) (hJ1_2_7 (v125,a3) _ ⟨(by (with_reducible repeat (first | apply Kd.R_alloc | apply Kd.R_drewN | apply Kd.R_drew));exact ag.out),(by (with_reducible repeat (first | apply Kd.R_alloc | apply Kd.R_drewN | apply Kd.R_drew));exact a2.out),(by (with_reducible repeat (first | apply bkN | apply bkd | apply bka));exact a4.out),(by (with_reducible repeat (first | apply bkN | apply bkd | apply bka));exact a7.out),ah.out,ak.out,a9.out,aj.out,ad.out,af.out,(by repeat (first | (with_reducible first | exact HI0.out | apply I5.alloc | apply I5.drewN | apply I5.drew | apply I5.set_0 | apply I5.set_1 | refine I5.far ?_ a6.out _ | refine I5.far ?_ a9.out _) | exact HI0.out)),(by repeat (first | (with_reducible first | exact HK.out | apply KB.set_ | apply kpN | apply keep_drew | apply keep_alloc | refine keep_far ?_ ae.out _ | refine keep_far ?_ ah.out _) | exact HK.out)),(by repeat (first | (with_reducible first | exact HB.out | apply bwa | apply pwN | apply bw1 | refine bws ?_ (I5.ge HI0.out) | refine bws ?_ al.out | refine bws ?_ ak.out) | exact HB.out))⟩)
       ·skip
        rintro ⟨v125,a3⟩ w18 ⟨h0_,h1_,h2_,h3_,h4_,h5_,h6_,h7_,h8_,h9_,h10_,h11_,h12_⟩
        have ar : AZ (Kd.R (Kd.int .u8) 5 w18 w.heap.size (fun _ => True) v125 am) :=⟨h0_⟩
        have aq : AZ (Kd.R k83 83 w18 w.heap.size (fun k_ => some k_ ≠ (v125 : Value).ownBlock ∧ k_ ≠ a3) a5 aa) :=⟨h1_⟩
        have ap : AZ (w18.heap[a8]? = some (.cells #[.string (strOfNums ai),a5] 43 (0,0))) :=⟨h2_⟩
        have ao : AZ (w18.heap[a3]? = some (.cells #[.string ⟨#[]⟩,.int .i64 0,.slice none 0 0] 83 (0,0))) :=⟨h3_⟩
        have an : AZ (w.heap.size ≤ a3) :=⟨h4_⟩
        have au : AZ (w0.heap.size ≤ a3) :=⟨h5_⟩
        have ax : AZ (g ≠ a3) :=⟨h6_⟩
        have aD : AZ (a3 ≠ g) :=⟨h7_⟩
        have aJ : AZ (a8 ≠ a3) :=⟨h8_⟩
        have aX : AZ (a3 ≠ a8) :=⟨h9_⟩
        have n10_ : AZ (I5 w0 w18 g aI aH) :=⟨h10_⟩
        have n11_ : AZ (KB w w18 g none) :=⟨h11_⟩
        have n12_ : AZ (Below w0.heap.size w0 w18) :=⟨h12_⟩
        clear a2
        clear a4
        clear HI0
        clear HK
        clear HB
        clear h0_ h1_ h2_ h3_ h4_ h5_ h6_ h7_ h8_ h9_ h10_ h11_ h12_
        have ag :=ar
        have a2 :=aq
        have a4 :=ap
        have a7 :=ao
        have ah :=an
        have ak :=au
        have a9 :=ax
        have aj :=aD
        have ad :=aJ
        have af :=aX
        have HI0 :=n10_
        have HK :=n11_
        have HB :=n12_
        clear ar aq ap ao an au ax aD aJ aX n10_ n11_ n12_
        have hHeld :=trivial
        refine norm_ (a' :=?_) ?_ ?_
        rotate_left
        ·simp only [putAll,Act.put,List.setIfInBounds_toArray,List.set_cons_zero,List.set_cons_succ]
         rfl
        refine one_ (i :=2) (N :=some 25) #[true,true,true,true,true,true,false,true,false] rfl rfl (one_of HT_.out (by kernel_rfl)) (by decide) (fun K hK => ?_)
        have hcv19 :=own_string (P :=Tryz.prog) Tryz.underlying22 Tryz.underlying5 Tryz.underlying9 (Kd.own_of_R ag.out)
        refine value_ (w1 :=?_) (v :=?_) (by rfl) rfl ?_ ?_
        rotate_left 2
        ·go_simp
         constructor
         ·rfl
         ·rfl
        clear hcv19
        refine hK.out _ _ trivial (fun hHeld => ?_)
        clear hK K
        refine norm_ (a' :=?_) ?_ ?_
        rotate_left
        ·show Act.put _ (some 25) _ = _
         simp only [Act.put,List.setIfInBounds_toArray,List.set_cons_zero,List.set_cons_succ,i64_w,i32_w]
         rfl
        refine pure_ (i :=6) (N :=some 29) (v :=?_) (a' :=?_) #[true,true,true,true,true,true,true,true,false] rfl rfl (any_of HT_.out (by kernel_rfl)) (fun _ _ _ h => h) (Or.inl ⟨by rfl,?_⟩) ?_ ?_
        rotate_left
        ·intro w'
         go_simp
         with_reducible rfl
        rotate_left
        ·simp only [Act.put,List.setIfInBounds_toArray,List.set_cons_zero,List.set_cons_succ,i64_w,i32_w]
         rfl
        exact norm_ (by first | (simp only [putAll,Act.put,List.setIfInBounds_toArray,List.set_cons_zero,List.set_cons_succ];done) | (simp only [putAll,Act.put,List.setIfInBounds_toArray,List.set_cons_zero,List.set_cons_succ];rfl)) (hJ1_2_4_7 (v125,a3) _ ⟨(by (with_reducible repeat (first | apply Kd.R_alloc | apply Kd.R_drewN | apply Kd.R_drew));exact ag.out),(by (with_reducible repeat (first | apply Kd.R_alloc | apply Kd.R_drewN | apply Kd.R_drew));exact a2.out),(by (with_reducible repeat (first | apply bkN | apply bkd | apply bka));exact a4.out),(by (with_reducible repeat (first | apply bkN | apply bkd | apply bka));exact a7.out),ah.out,ak.out,a9.out,aj.out,ad.out,af.out,(by repeat (first | (with_reducible first | exact HI0.out | apply I5.alloc | apply I5.drewN | apply I5.drew | apply I5.set_0 | apply I5.set_1 | refine I5.far ?_ a6.out _ | refine I5.far ?_ a9.out _) | exact HI0.out)),(by repeat (first | (with_reducible first | exact HK.out | apply KB.set_ | apply kpN | apply keep_drew | apply keep_alloc | refine keep_far ?_ ae.out _ | refine keep_far ?_ ah.out _) | exact HK.out)),(by repeat (first | (with_reducible first | exact HB.out | apply bwa | apply pwN | apply bw1 | refine bws ?_ (I5.ge HI0.out) | refine bws ?_ al.out | refine bws ?_ ak.out) | exact HB.out))⟩)
      ·skip
       rintro ⟨v125,a3⟩ w18 ⟨h0_,h1_,h2_,h3_,h4_,h5_,h6_,h7_,h8_,h9_,h10_,h11_,h12_⟩
       have ar : AZ (Kd.R (Kd.int .u8) 5 w18 w.heap.size (fun _ => True) v125 am) :=⟨h0_⟩
       have aq : AZ (Kd.R k83 83 w18 w.heap.size (fun k_ => some k_ ≠ (v125 : Value).ownBlock ∧ k_ ≠ a3) a5 aa) :=⟨h1_⟩
       have ap : AZ (w18.heap[a8]? = some (.cells #[.string (strOfNums ai),a5] 43 (0,0))) :=⟨h2_⟩
       have ao : AZ (w18.heap[a3]? = some (.cells #[.string ⟨#[]⟩,.int .i64 0,.slice none 0 0] 83 (0,0))) :=⟨h3_⟩
       have an : AZ (w.heap.size ≤ a3) :=⟨h4_⟩
       have au : AZ (w0.heap.size ≤ a3) :=⟨h5_⟩
       have ax : AZ (g ≠ a3) :=⟨h6_⟩
       have aD : AZ (a3 ≠ g) :=⟨h7_⟩
       have aJ : AZ (a8 ≠ a3) :=⟨h8_⟩
       have aX : AZ (a3 ≠ a8) :=⟨h9_⟩
       have n10_ : AZ (I5 w0 w18 g aB aA) :=⟨h10_⟩
       have n11_ : AZ (KB w w18 g none) :=⟨h11_⟩
       have n12_ : AZ (Below w0.heap.size w0 w18) :=⟨h12_⟩
       clear a2
       clear a4
       clear HI0
       clear HK
       clear HB
       clear h0_ h1_ h2_ h3_ h4_ h5_ h6_ h7_ h8_ h9_ h10_ h11_ h12_
       have ag :=ar
       have a2 :=aq
       have a4 :=ap
       have a7 :=ao
       have ah :=an
       have ak :=au
       have a9 :=ax
       have aj :=aD
       have ad :=aJ
       have af :=aX
       have HI0 :=n10_
       have HK :=n11_
       have HB :=n12_
       clear ar aq ap ao an au ax aD aJ aX n10_ n11_ n12_
       have hHeld :=trivial
       refine norm_ (a' :=?_) ?_ ?_
       rotate_left
       ·simp only [putAll,Act.put,List.setIfInBounds_toArray,List.set_cons_zero,List.set_cons_succ]
        rfl
       refine one_ (i :=4) (N :=some 27) #[true,true,true,true,true,false,false,true,false] rfl rfl (one_of HT_.out (by kernel_rfl)) (by decide) (fun K hK => ?_)
       refine goesC_ Tryz.func13 (by kernel_rfl) rfl #[.pointer (some ⟨g,0,none⟩),.int .i64 8] (by rfl) rfl rfl rfl (by (try simp only [List.map_toArray,List.map_cons,List.map_nil]);first | done | rfl | (simp only [List.length_drop,List.length_take];rfl)) ?_
       with_reducible refine (pr_num.calls k1 g aB aA 8 av aI aH w0 _ ?side1 ?side2 cf.out).mono ?_
       (case side1 => repeat (first | (with_reducible first | exact HI0.out | apply I5.alloc | apply I5.drewN | apply I5.drew | apply I5.set_0 | apply I5.set_1 | refine I5.far ?_ a6.out _ | refine I5.far ?_ a9.out _) | exact HI0.out))
       (case side2 => repeat (first | (with_reducible first | exact HB.out | apply bwa | apply pwN | apply bw1 | refine bws ?_ (I5.ge HI0.out) | refine bws ?_ al.out | refine bws ?_ ak.out) | exact HB.out))
       rintro e w19 ⟨rfl,hi,hb,hk⟩
       refine ⟨_,rfl,?_⟩
       have ar :=AZ.mk (Kd.R_mono (Kd.R_keep (I5.apart (show I5 w0 _ g aB aA from by repeat (first | (with_reducible first | exact HI0.out | apply I5.alloc | apply I5.drewN | apply I5.drew | apply I5.set_0 | apply I5.set_1 | refine I5.far ?_ a6.out _ | refine I5.far ?_ a9.out _) | exact HI0.out)) (by (with_reducible repeat (first | apply Kd.R_alloc | apply Kd.R_drewN | apply Kd.R_drew));exact a2.out) (by decide)) hk (fun _ h => h.2)) (fun _ h => h.1))
       have aq :=AZ.mk (KB.blk hk (g' :=a8) (o :=.cells #[.string (strOfNums ai),a5] 43 (0,0)) (by (with_reducible repeat (first | apply bkN | apply bkd | apply bka));exact a4.out) aw.out (by simp))
       have ap :=AZ.mk (Kd.R_mono (Kd.R_keep (I5.apart (show I5 w0 _ g aB aA from by repeat (first | (with_reducible first | exact HI0.out | apply I5.alloc | apply I5.drewN | apply I5.drew | apply I5.set_0 | apply I5.set_1 | refine I5.far ?_ a6.out _ | refine I5.far ?_ a9.out _) | exact HI0.out)) (by (with_reducible repeat (first | apply Kd.R_alloc | apply Kd.R_drewN | apply Kd.R_drew));exact ag.out) (by decide)) hk (fun _ h => h.2)) (fun _ h => h.1))
       have ao :=AZ.mk (KB.blk hk (g' :=a3) (o :=.cells #[.string ⟨#[]⟩,.int .i64 0,.slice none 0 0] 83 (0,0)) (by (with_reducible repeat (first | apply bkN | apply bkd | apply bka));exact a7.out) aj.out (by simp))
       have an :=AZ.mk (KB.trans (by repeat (first | (with_reducible first | exact HK.out | apply KB.set_ | apply kpN | apply keep_drew | apply keep_alloc | refine keep_far ?_ ae.out _ | refine keep_far ?_ ah.out _) | exact HK.out)) hk (.inl rfl))
       have au :=AZ.mk (hb)
       have ax :=AZ.mk (hi)
       clear a2
       clear a4
       clear ag
       clear a7
       clear HK
       clear HB
       clear HI0
       have a2 :=ar
       have a4 :=aq
       have ag :=ap
       have a7 :=ao
       have HK :=an
       have HB :=au
       have HI0 :=ax
       clear ar aq ap ao an au ax
       (try clear hb)
       (try clear hb2)
       (try clear hk)
       (try clear hi)
       refine hK.out _ _ trivial (fun hHeld => ?_)
       clear hK K
       refine norm_ (a' :=?_) ?_ ?_
       rotate_left
       ·show Act.put _ (some 27) _ = _
        simp only [Act.put,List.setIfInBounds_toArray,List.set_cons_zero,List.set_cons_succ,i64_w,i32_w]
        rfl
       refine pure_ (i :=5) (N :=some 28) (v :=?_) (a' :=?_) #[true,true,true,true,true,true,false,true,false] rfl rfl (any_of HT_.out (by kernel_rfl)) (fun _ _ _ h => h) (Or.inl ⟨by rfl,?_⟩) ?_ ?_
       rotate_left
       ·intro w'
        go_simp
        with_reducible rfl
       rotate_left
       ·simp only [Act.put,List.setIfInBounds_toArray,List.set_cons_zero,List.set_cons_succ,i64_w,i32_w]
        rfl
       refine pure_ (i :=6) (N :=some 29) (v :=?_) (a' :=?_) #[true,true,true,true,true,true,true,true,false] rfl rfl (any_of HT_.out (by kernel_rfl)) (fun _ _ _ h => h) (Or.inl ⟨by rfl,?_⟩) ?_ ?_
       rotate_left
       ·intro w'
        go_simp
        with_reducible rfl
       rotate_left
       ·simp only [Act.put,List.setIfInBounds_toArray,List.set_cons_zero,List.set_cons_succ,i64_w,i32_w]
        rfl
       exact norm_ (by first | (simp only [putAll,Act.put,List.setIfInBounds_toArray,List.set_cons_zero,List.set_cons_succ];done) | (simp only [putAll,Act.put,List.setIfInBounds_toArray,List.set_cons_zero,List.set_cons_succ];rfl)) (hJ1_2_4_7 (v125,a3) _ ⟨(by (with_reducible repeat (first | apply Kd.R_alloc | apply Kd.R_drewN | apply Kd.R_drew));exact ag.out),(by (with_reducible repeat (first | apply Kd.R_alloc | apply Kd.R_drewN | apply Kd.R_drew));exact a2.out),(by (with_reducible repeat (first | apply bkN | apply bkd | apply bka));exact a4.out),(by (with_reducible repeat (first | apply bkN | apply bkd | apply bka));exact a7.out),ah.out,ak.out,a9.out,aj.out,ad.out,af.out,(by repeat (first | (with_reducible first | exact HI0.out | apply I5.alloc | apply I5.drewN | apply I5.drew | apply I5.set_0 | apply I5.set_1 | refine I5.far ?_ a6.out _ | refine I5.far ?_ a9.out _) | exact HI0.out)),(by repeat (first | (with_reducible first | exact HK.out | apply KB.set_ | apply kpN | apply keep_drew | apply keep_alloc | refine keep_far ?_ ae.out _ | refine keep_far ?_ ah.out _) | exact HK.out)),(by repeat (first | (with_reducible first | exact HB.out | apply bwa | apply pwN | apply bw1 | refine bws ?_ (I5.ge HI0.out) | refine bws ?_ al.out | refine bws ?_ ak.out) | exact HB.out))⟩)
     ·skip
      rintro v125 w18 ⟨h0_,h1_,h2_,h3_,h4_,h5_⟩
      have ar : AZ (Kd.R (Kd.int .u8) 5 w18 w.heap.size (fun _ => True) v125 am) :=⟨h0_⟩
      have aq : AZ (Kd.R k83 83 w18 w.heap.size (fun k_ => some k_ ≠ (v125 : Value).ownBlock) a5 aa) :=⟨h1_⟩
      have ap : AZ (w18.heap[a8]? = some (.cells #[.string (strOfNums ai),a5] 43 (0,0))) :=⟨h2_⟩
      have ao : AZ (I5 w0 w18 g aI aH) :=⟨h3_⟩
      have an : AZ (KB w w18 g none) :=⟨h4_⟩
      have au : AZ (Below w0.heap.size w0 w18) :=⟨h5_⟩
      clear a2
      clear a4
      clear HI0
      clear HK
      clear HB
      clear h0_ h1_ h2_ h3_ h4_ h5_
      have ag :=ar
      have a2 :=aq
      have a4 :=ap
      have HI0 :=ao
      have HK :=an
      have HB :=au
      clear ar aq ap ao an au
      have hHeld :=trivial
      refine norm_ (a' :=?_) ?_ ?_
      rotate_left
      ·simp only [putAll,Act.put,List.setIfInBounds_toArray,List.set_cons_zero,List.set_cons_succ]
       rfl
      refine one_ (i :=7) (N :=some 6) #[true,true,true,true,true,true,true,true,false] rfl rfl (one_of HT_.out (by kernel_rfl)) (by decide) (fun K hK => ?_)
      refine box_step ?hg (N :=6) ?hd (cs :=#[.string ⟨#[]⟩,.int .i64 0,.slice none 0 0]) (t :=83) ?hr ?_;(case hd => rfl);(case hg => rfl);(case hr => first | (go_simp;done) | (go_simp;rfl))
      intro a3 hg w19 hbox hb
      have ar :=AZ.mk (Kd.R_below (Kd.R_elderB (by (with_reducible repeat (first | apply Kd.R_alloc | apply Kd.R_drewN | apply Kd.R_drew));exact a2.out) a3 (Nat.le_of_eq hg.symm)) hb)
      have aq :=AZ.mk (Kd.R_below (by (with_reducible repeat (first | apply Kd.R_alloc | apply Kd.R_drewN | apply Kd.R_drew));exact ag.out) hb)
      have ap :=AZ.mk (blk_below (g :=a8) (o :=.cells #[.string (strOfNums ai),a5] 43 (0,0)) (by (with_reducible repeat (first | apply bkN | apply bkd | apply bka));exact a4.out) hb)
      have ao :=AZ.mk (I5.below (by repeat (first | (with_reducible first | exact HI0.out | apply I5.alloc | apply I5.drewN | apply I5.drew | apply I5.set_0 | apply I5.set_1 | refine I5.far ?_ a6.out _) | exact HI0.out)) hb)
      have an :=AZ.mk (KB.trans (by repeat (first | (with_reducible first | exact HK.out | apply KB.set_ | apply kpN | apply keep_drew | apply keep_alloc | refine keep_far ?_ ae.out _) | exact HK.out)) (KB.of_below hb g none) (.inl rfl))
      have au :=AZ.mk (below_step (by repeat (first | (with_reducible first | exact HB.out | apply bwa | apply pwN | apply bw1 | refine bws ?_ (I5.ge HI0.out) | refine bws ?_ al.out) | exact HB.out)) hb)
      have ax :=AZ.mk (hbox)
      have aD :=AZ.mk ((by rw [hg];exact (keep_size (w :=w) (g :=g) (row :=none) (by repeat (first | (with_reducible first | exact HK.out | apply KB.set_ | apply kpN | apply keep_drew | apply keep_alloc | refine keep_far ?_ ae.out _) | exact HK.out))) : w.heap.size ≤ a3))
      have aJ :=AZ.mk ((Nat.le_trans HW0.out (by rw [hg];exact (keep_size (w :=w) (g :=g) (row :=none) (by repeat (first | (with_reducible first | exact HK.out | apply KB.set_ | apply kpN | apply keep_drew | apply keep_alloc | refine keep_far ?_ ae.out _) | exact HK.out))) : w.heap.size ≤ a3) : w0.heap.size ≤ a3))
      have aX :=AZ.mk ((by rw [hg];exact Nat.ne_of_lt (blk_lt (g :=a8) (o :=.cells #[.string (strOfNums ai),a5] 43 (0,0)) (by (with_reducible repeat (first | apply bkN | apply bkd | apply bka));exact a4.out)) : a8 ≠ a3))
      have n10_ :=AZ.mk ((by rw [hg];exact Nat.ne_of_gt (blk_lt (g :=a8) (o :=.cells #[.string (strOfNums ai),a5] 43 (0,0)) (by (with_reducible repeat (first | apply bkN | apply bkd | apply bka));exact a4.out)) : a3 ≠ a8))
      have n11_ :=AZ.mk ((by rw [hg];exact Nat.ne_of_lt (I5.lt (show I5 w0 _ g aI aH from by repeat (first | (with_reducible first | exact HI0.out | apply I5.alloc | apply I5.drewN | apply I5.drew | apply I5.set_0 | apply I5.set_1 | refine I5.far ?_ a6.out _) | exact HI0.out))) : g ≠ a3))
      have n12_ :=AZ.mk ((by rw [hg];exact Nat.ne_of_gt (I5.lt (show I5 w0 _ g aI aH from by repeat (first | (with_reducible first | exact HI0.out | apply I5.alloc | apply I5.drewN | apply I5.drew | apply I5.set_0 | apply I5.set_1 | refine I5.far ?_ a6.out _) | exact HI0.out))) : a3 ≠ g))
      clear a2
      clear ag
      clear a4
      clear HI0
      clear HK
      clear HB
      have a2 :=ar
      have ag :=aq
      have a4 :=ap
      have HI0 :=ao
      have HK :=an
      have HB :=au
      have a7 :=ax
      have ah :=aD
      have ak :=aJ
      have ad :=aX
      have af :=n10_
      have a9 :=n11_
      have aj :=n12_
      clear ar aq ap ao an au ax aD aJ aX n10_ n11_ n12_
      clear hb hbox hg
      refine hK.out _ _ trivial (fun hHeld => ?_)
      clear hK K
      refine norm_ (a' :=?_) ?_ ?_
      rotate_left
      ·show Act.put _ (some 6) _ = _
       simp only [Act.put,List.setIfInBounds_toArray,List.set_cons_zero,List.set_cons_succ,i64_w,i32_w]
       rfl
      exact norm_ (by first | (simp only [putAll,Act.put,List.setIfInBounds_toArray,List.set_cons_zero,List.set_cons_succ];done) | (simp only [putAll,Act.put,List.setIfInBounds_toArray,List.set_cons_zero,List.set_cons_succ];rfl)) (hJ1_2_4_7 (v125,a3) _ ⟨(by (with_reducible repeat (first | apply Kd.R_alloc | apply Kd.R_drewN | apply Kd.R_drew));exact ag.out),(by (with_reducible repeat (first | apply Kd.R_alloc | apply Kd.R_drewN | apply Kd.R_drew));exact a2.out),(by (with_reducible repeat (first | apply bkN | apply bkd | apply bka));exact a4.out),(by (with_reducible repeat (first | apply bkN | apply bkd | apply bka));exact a7.out),ah.out,ak.out,a9.out,aj.out,ad.out,af.out,(by repeat (first | (with_reducible first | exact HI0.out | apply I5.alloc | apply I5.drewN | apply I5.drew | apply I5.set_0 | apply I5.set_1 | refine I5.far ?_ a6.out _ | refine I5.far ?_ a9.out _) | exact HI0.out)),(by repeat (first | (with_reducible first | exact HK.out | apply KB.set_ | apply kpN | apply keep_drew | apply keep_alloc | refine keep_far ?_ ae.out _ | refine keep_far ?_ ah.out _) | exact HK.out)),(by repeat (first | (with_reducible first | exact HB.out | apply bwa | apply pwN | apply bw1 | refine bws ?_ (I5.ge HI0.out) | refine bws ?_ al.out | refine bws ?_ ak.out) | exact HB.out))⟩)
    rintro ⟨v125,a3⟩ w19 ⟨h0_,h1_,h2_,h3_,h4_,h5_,h6_,h7_,h8_,h9_,h10_,h11_,h12_⟩
    have ar : AZ (Kd.R (Kd.int .u8) 5 w19 w.heap.size (fun _ => True) v125 am) :=⟨h0_⟩
    have aq : AZ (Kd.R k83 83 w19 w.heap.size (fun k_ => some k_ ≠ (v125 : Value).ownBlock ∧ k_ ≠ a3) a5 aa) :=⟨h1_⟩
    have ap : AZ (w19.heap[a8]? = some (.cells #[.string (strOfNums ai),a5] 43 (0,0))) :=⟨h2_⟩
    have ao : AZ (w19.heap[a3]? = some (.cells #[.string ⟨#[]⟩,.int .i64 0,.slice none 0 0] 83 (0,0))) :=⟨h3_⟩
    have an : AZ (w.heap.size ≤ a3) :=⟨h4_⟩
    have au : AZ (w0.heap.size ≤ a3) :=⟨h5_⟩
    have ax : AZ (g ≠ a3) :=⟨h6_⟩
    have aD : AZ (a3 ≠ g) :=⟨h7_⟩
    have aJ : AZ (a8 ≠ a3) :=⟨h8_⟩
    have aX : AZ (a3 ≠ a8) :=⟨h9_⟩
    have n10_ : AZ (I5 w0 w19 g aI aH) :=⟨h10_⟩
    have n11_ : AZ (KB w w19 g none) :=⟨h11_⟩
    have n12_ : AZ (Below w0.heap.size w0 w19) :=⟨h12_⟩
    clear a2
    clear a4
    clear HI0
    clear HK
    clear HB
    clear h0_ h1_ h2_ h3_ h4_ h5_ h6_ h7_ h8_ h9_ h10_ h11_ h12_
    have ag :=ar
    have a2 :=aq
    have a4 :=ap
    have a7 :=ao
    have ah :=an
    have ak :=au
    have a9 :=ax
    have aj :=aD
    have ad :=aJ
    have af :=aX
    have HI0 :=n10_
    have HK :=n11_
    have HB :=n12_
    clear ar aq ap ao an au ax aD aJ aX n10_ n11_ n12_
    have hHeld :=trivial
    refine norm_ (a' :=?_) ?_ ?_
    rotate_left
    ·simp only [putAll,Act.put,List.setIfInBounds_toArray,List.set_cons_zero,List.set_cons_succ]
     rfl
    refine one_ (i :=8) (N :=none) #[true,true,true,true,true,true,true,true,true] rfl rfl (one_of HT_.out (by kernel_rfl)) (by decide) (fun K hK => ?_)
    have hs20 : w19.cell? ⟨a3,0,none⟩ = some (.string ⟨#[]⟩) :=(bkc a7.out 0).trans rfl
    have hfs20 :=bkz a7.out 0
    have hns20_0 :=ad.out
    have hms20_0 :=af.out
    have hs21 : w19.cell? ⟨a3,1,none⟩ = some (.int .i64 0) :=(bkc a7.out 1).trans rfl
    have hfs21 :=bkz a7.out 1
    have hns21_0 :=ad.out
    have hms21_0 :=af.out
    have hs22 : w19.cell? ⟨a3,2,none⟩ = some (.slice none 0 0) :=(bkc a7.out 2).trans rfl
    have hfs22 :=bkz a7.out 2
    have hns22_0 :=ad.out
    have hms22_0 :=af.out
    refine skip_ (w1 :=?_) (by rfl) rfl ?_ ?_
    rotate_left
    ·go_simp
     rfl
    refine hK.out _ _ trivial (fun hHeld => ?_)
    clear hK K
    refine done_ (done_of HT_.out (by kernel_rfl)) ?_
    try go_wp2_with (first | ((with_reducible refine gate_clos rfl ?_);refine goesLC_ (some 31) rfl rfl Tryz.func13 (by kernel_rfl) rfl #[.pointer (some ⟨g,0,none⟩),.int .i64 1] rfl rfl (by (try simp only [List.map_toArray,List.map_cons,List.map_nil]);first | done | rfl | (simp only [List.length_drop,List.length_take];rfl)) ?_;(with_reducible refine (pr_num.calls k1 g aI aH 1 bs br bq w0 _ ?side1 ?side2 A13.out).mono ?_);(case side1 => repeat (first | (with_reducible first | exact HI0.out | apply I5.alloc | apply I5.drewN | apply I5.drew | apply I5.set_0 | apply I5.set_1 | refine I5.far ?_ a6.out _ | refine I5.far ?_ a9.out _) | exact HI0.out));(case side2 => repeat (first | (with_reducible first | exact HB.out | apply bwa | apply pwN | apply bw1 | refine bws ?_ (I5.ge HI0.out) | refine bws ?_ al.out | refine bws ?_ ak.out) | exact HB.out));rintro e w23 ⟨rfl,hi,hb,hk⟩;refine ⟨_,rfl,?_⟩;have ar :=AZ.mk (Kd.R_mono (Kd.R_keep (I5.apart (show I5 w0 _ g aI aH from by repeat (first | (with_reducible first | exact HI0.out | apply I5.alloc | apply I5.drewN | apply I5.drew | apply I5.set_0 | apply I5.set_1 | refine I5.far ?_ a6.out _ | refine I5.far ?_ a9.out _) | exact HI0.out)) (by (with_reducible repeat (first | apply Kd.R_alloc | apply Kd.R_drewN | apply Kd.R_drew));exact (Kd.R_mono (Kd.R_far (p :=⟨a3,2,none⟩) (Kd.R_far (p :=⟨a3,1,none⟩) (Kd.R_far (p :=⟨a3,0,none⟩) (Kd.R_mono a2.out (fun k_ hk => (⟨hk,hk.2⟩ : _ ∧ k_ ≠ a3))) (fun _ hk => hk.2) (.string (strOfNums am))) (fun _ hk => hk.2) (.int .i64 (wrap64 (av)))) (fun _ hk => hk.2) (.slice none 0 0)) (fun _ h_ => h_.1))) (by decide)) hk (fun _ h => h.2)) (fun _ h => h.1));have aq :=AZ.mk (KB.blk hk (g' :=a8) (o :=.cells #[.string (strOfNums ai),a5] 43 (0,0)) (by (with_reducible repeat (first | apply bkN | apply bkd | apply bka));refine blk_far ?_ ad.out _;(with_reducible repeat (first | apply bkN | apply bkd | apply bka));refine blk_far ?_ ad.out _;(with_reducible repeat (first | apply bkN | apply bkd | apply bka));refine blk_far ?_ ad.out _;(with_reducible repeat (first | apply bkN | apply bkd | apply bka));exact a4.out) aw.out (by simp));have ap :=AZ.mk (Kd.R_mono (Kd.R_keep (I5.apart (show I5 w0 _ g aI aH from by repeat (first | (with_reducible first | exact HI0.out | apply I5.alloc | apply I5.drewN | apply I5.drew | apply I5.set_0 | apply I5.set_1 | refine I5.far ?_ a6.out _ | refine I5.far ?_ a9.out _) | exact HI0.out)) (by (with_reducible repeat (first | apply Kd.R_alloc | apply Kd.R_drewN | apply Kd.R_drew));exact (Kd.R_mono (Kd.R_far (p :=⟨a3,2,none⟩) (Kd.R_far (p :=⟨a3,1,none⟩) (Kd.R_far (p :=⟨a3,0,none⟩) (Kd.R_types ag.out a7.out (by decide)) (fun _ hk => hk.2) (.string (strOfNums am))) (fun _ hk => hk.2) (.int .i64 (wrap64 (av)))) (fun _ hk => hk.2) (.slice none 0 0)) (fun _ h_ => h_.1))) (by decide)) hk (fun _ h => h.2)) (fun _ h => h.1));have ao :=AZ.mk (KB.blk hk (g' :=a3) (o :=.cells #[.string (strOfNums am),.int .i64 (wrap64 (av)),.slice none 0 0] 83 (0,0)) (by (with_reducible repeat (first | apply bkN | apply bkd | apply bka));refine blk_put (cs :=#[.string (strOfNums am),.int .i64 (wrap64 (av)),.slice none 0 0]) ?_ 2 _ rfl;(with_reducible repeat (first | apply bkN | apply bkd | apply bka));refine blk_put (cs :=#[.string (strOfNums am),.int .i64 0,.slice none 0 0]) ?_ 1 _ rfl;(with_reducible repeat (first | apply bkN | apply bkd | apply bka));refine blk_put (cs :=#[.string ⟨#[]⟩,.int .i64 0,.slice none 0 0]) ?_ 0 _ rfl;(with_reducible repeat (first | apply bkN | apply bkd | apply bka));exact a7.out) aj.out (by simp));have an :=AZ.mk (KB.trans (by repeat (first | (with_reducible first | exact HK.out | apply KB.set_ | apply kpN | apply keep_drew | apply keep_alloc | refine keep_far ?_ ae.out _ | refine keep_far ?_ ah.out _) | exact HK.out)) hk (.inl rfl));have au :=AZ.mk (hb);have ax :=AZ.mk (hi);clear a2;clear a4;clear ag;clear a7;clear HK;clear HB;clear HI0;have a2 :=ar;have a4 :=aq;have ag :=ap;have a7 :=ao;have HK :=an;have HB :=au;have HI0 :=ax;clear ar aq ap ao an au ax;(try clear hb);(try clear hb2);(try clear hk);(try clear hi)))
    go_loopg [7] k1 (fun kq v7 w' => ∃ (b3 : Int) (aG : ByteArray) (aE : Bool) (ab : List (S85)) (aW : Value),v7 = .int .u64 b3 ∧ AZ (pr_commit.l1 kq aU b3 aG aE (strOfNums ai) aa (strOfNums am) (wrap64 (av)) ab = some (r1,r2,r3,r4)) ∧ AZ (kq ≤ k1) ∧ AZ (Kd.R k83 83 w' w.heap.size (fun k_ => some k_ ≠ (aW : Value).ownBlock ∧ k_ ≠ a3) a5 aa) ∧ AZ (Kd.S k85 85 w' w.heap.size (fun _ => True) aW ab) ∧ AZ (w'.heap[a8]? = some (.cells #[.string (strOfNums ai),a5] 43 (0,0))) ∧ AZ (w'.heap[a3]? = some (.cells #[.string (strOfNums am),.int .i64 (wrap64 (av)),aW] 83 (0,0))) ∧ AZ (I5 w0 w' g aG aE) ∧ AZ (KB w w' g none) ∧ AZ (Below w0.heap.size w0 w'))
    case atStart => exact ⟨(Int.tmod bs 7),(br),(bq),(([] : List (S85))),(.slice none 0 0),(by first | rfl | (simp;done) | (simp [*];done)),H',⟨Nat.le_refl _⟩,⟨by (with_reducible repeat (first | apply Kd.R_alloc | apply Kd.R_drewN | apply Kd.R_drew));exact Kd.R_mono a2.out (fun _ hk => ⟨(by simp [Value.ownBlock]),hk.2⟩)⟩,⟨by first | exact Kd.S_nil _ _ _ _ _ | exact Kd.N_nil _ _ _ _ _ | exact Kd.V_nil _ _ _ _ _ | exact Kd.Q_nil _ _ _ _ _ | exact Kd.R_nil _ _ _ _ _⟩,⟨by (with_reducible repeat (first | apply bkN | apply bkd | apply bka));exact a4.out⟩,⟨by (with_reducible repeat (first | apply bkN | apply bkd | apply bka));exact a7.out⟩,⟨by repeat (first | (with_reducible first | exact HI0.out | apply I5.alloc | apply I5.drewN | apply I5.drew | apply I5.set_0 | apply I5.set_1 | refine I5.far ?_ a6.out _ | refine I5.far ?_ a9.out _) | exact HI0.out)⟩,⟨by repeat (first | (with_reducible first | exact HK.out | apply KB.set_ | apply kpN | apply keep_drew | apply keep_alloc | refine keep_far ?_ ae.out _ | refine keep_far ?_ ah.out _) | exact HK.out)⟩,⟨by repeat (first | (with_reducible first | exact HB.out | apply bwa | apply pwN | apply bw1 | refine bws ?_ (I5.ge HI0.out) | refine bws ?_ al.out | refine bws ?_ ak.out) | exact HB.out)⟩⟩
    case round =>
     clear H'
     try clear c1
     try clear hcv1
     try clear p2
     try clear p6
     try clear c13
     try clear hcv18
     try clear hcv19
     obtain ⟨b3,aG,aE,ab,aW,rfl,HA,HK2,a2,ac,a4,a7,HI0,HK,HB⟩ :=hrel
     cases gk with
     | zero => exact absurd HA.out (by simp [pr_commit.l1])
     | succ k2 =>
      have H :=HA.out
      clear HA
      simp only [pr_commit.l1] at H
      by_cases c24 : b3 > 0
      ·rw [if_pos c24] at H
       have bM : decide (0 < b3) = true :=decide_eq_true c24
       clear c24
       replace H :=Option.bind_eq_some_iff.mp H
       obtain ⟨⟨b6,b5,b4⟩,bQ,H⟩ :=H
       replace H : ((pr_text.f k2 b5 b4).bind fun b0 => (if ab.length < 3518437208883 then (pr_commit.l1 k2 aU (IntKind.u64.wrap (b3 - 1)) b0.2.1 b0.2.2 (strOfNums ai) aa (strOfNums am) (wrap64 (av)) (ab ++ [(⟨strOfNums b6,b0.1⟩ : S85)])) else (none))) = some (r1,r2,r3,r4) :=H
       have A25 :=AZ.mk bQ
       clear bQ
       replace H :=Option.bind_eq_some_iff.mp H
       obtain ⟨⟨aY,bd,bc⟩,bP,H⟩ :=H
       replace H : (if ab.length < 3518437208883 then (pr_commit.l1 k2 aU (IntKind.u64.wrap (b3 - 1)) bd bc (strOfNums ai) aa (strOfNums am) (wrap64 (av)) (ab ++ [(⟨strOfNums b6,aY⟩ : S85)])) else (none)) = some (r1,r2,r3,r4) :=H
       have cl :=AZ.mk bP
       clear bP
       by_cases c27 : ab.length < 3518437208883
       ·rw [if_pos c27] at H
        have LMc27 :=AZ.mk c27
        clear c27
        obtain ⟨y146,hy146⟩ : ∃ y_ : List (S85),y_ = (ab ++ [(⟨strOfNums b6,aY⟩ : S85)]) :=⟨_,rfl⟩
        replace H : (pr_commit.l1 k2 aU (IntKind.u64.wrap (b3 - 1)) bd bc (strOfNums ai) aa (strOfNums am) (wrap64 (av)) y146) = some (r1,r2,r3,r4) :=by first | (rw [hy146];with_reducible exact H) | (have H2_ :=(Option.bind_some _ _).symm.trans H;rw [hy146];with_reducible exact H2_) | (have H2_ :=(Option.bind_some _ _).symm.trans H;with_reducible exact H2_) | with_reducible exact H | (rw [hy146];exact H) | exact H
        have Ny146 :=AZ.mk hy146
        clear hy146
        have H' :=AZ.mk H
        clear H
        obtain ⟨aM,aK,cj⟩ :=Kd.S_slice ac.out
        subst cj
        try go_wp2
        have ar :=AZ.mk (Kd.R_drew a2.out)
        have aq :=AZ.mk (Kd.S_drew ac.out)
        have ap :=AZ.mk (bkd a4.out)
        have ao :=AZ.mk (bkd a7.out)
        have an :=AZ.mk (I5.drew HI0.out)
        have au :=AZ.mk (keep_drew HK.out)
        have ax :=AZ.mk (bw1 HB.out)
        clear a2
        clear ac
        clear a4
        clear a7
        clear HI0
        clear HK
        clear HB
        have a2 :=ar
        have ac :=aq
        have a4 :=ap
        have a7 :=ao
        have HI0 :=an
        have HK :=au
        have HB :=ax
        clear ar aq ap ao an au ax
        refine start_ (n :=12) (S :=fun w' => w'.cell? ⟨a3,0,none⟩ = some (.string (strOfNums am)) ∧ w'.cell? ⟨a3,1,none⟩ = some (.int .i64 (wrap64 (av))) ∧ w'.cell? ⟨a3,2,none⟩ = some (.slice aM ab.length aK)) (ds :=[11]) #[false,false,false,false,false,false,false,false,false,false,false,false] (by kernel_rfl) rfl rfl ⟨(bkc a7.out 0).trans rfl,(bkc a7.out 1).trans rfl,(bkc a7.out 2).trans rfl⟩ (fun hHeld => ?_);refine with_tabW pr_commit.tab10 pr_commit.bits10 (fun HT_ HW_ => ?_)
        generalize wr.drew = w29 at a2 ac a4 a7 HI0 HK HB hHeld ⊢
        refine pure_ (i :=0) (N :=some 37) (v :=?_) (a' :=?_) #[true,false,false,false,false,false,false,false,false,false,false,false] rfl rfl (any_of HT_.out (by kernel_rfl)) (fun _ _ _ h => h) (Or.inl ⟨by rfl,?_⟩) ?_ ?_
        rotate_left
        ·intro w'
         go_simp
         with_reducible rfl
        rotate_left
        ·simp only [Act.put,List.setIfInBounds_toArray,List.set_cons_zero,List.set_cons_succ,i64_w,i32_w]
         rfl
        refine pure_ (i :=2) (N :=some 39) (v :=?_) (a' :=?_) #[true,false,true,false,false,false,false,false,false,false,false,false] rfl rfl (any_of HT_.out (by kernel_rfl)) (fun _ _ _ h => h) (Or.inl ⟨by rfl,?_⟩) ?_ ?_
        rotate_left
        ·intro w'
         go_simp
         with_reducible rfl
        rotate_left
        ·simp only [Act.put,List.setIfInBounds_toArray,List.set_cons_zero,List.set_cons_succ,i64_w,i32_w]
         rfl
        refine pure_ (i :=5) (N :=some 42) (v :=?_) (a' :=?_) #[true,false,true,false,false,true,false,false,false,false,false,false] rfl rfl (any_of HT_.out (by kernel_rfl)) (fun _ _ _ h => h) (Or.inl ⟨by rfl,?_⟩) ?_ ?_
        rotate_left
        ·intro w'
         go_simp
         with_reducible rfl
        rotate_left
        ·simp only [Act.put,List.setIfInBounds_toArray,List.set_cons_zero,List.set_cons_succ,i64_w,i32_w]
         rfl
        refine take_ (i :=1) (N :=some 38) (v :=?_) (a' :=?_) #[true,true,true,false,false,true,false,false,false,false,false,false] rfl rfl (take_ofW HT_.out HW_.out (by kernel_rfl)) (fun _ _ _ h => h) (Or.inl ⟨by rfl,?_⟩) hHeld ?_ ?_
        rotate_left
        ·rintro w' ⟨s0,s1,s2⟩
         go_simp
         with_reducible rfl
        rotate_left
        ·simp only [Act.put,List.setIfInBounds_toArray,List.set_cons_zero,List.set_cons_succ,i64_w,i32_w]
         rfl
        refine one_ (i :=3) (N :=some 40) #[true,true,true,true,false,true,false,false,false,false,false,false] rfl rfl (one_of HT_.out (by kernel_rfl)) (by decide) (fun K hK => ?_)
        refine goesC_ Tryz.func15 (by kernel_rfl) rfl #[.pointer (some ⟨g,0,none⟩)] (by rfl) rfl rfl rfl (by (try simp only [List.map_toArray,List.map_cons,List.map_nil]);first | done | rfl | (simp only [List.length_drop,List.length_take];rfl)) ?_
        with_reducible refine (pr_text.calls k2 g aG aE b6 b5 b4 w0 _ ?side1 ?side2 A25.out).mono ?_
        (case side1 => repeat (first | (with_reducible first | exact HI0.out | apply I5.alloc | apply I5.drewN | apply I5.drew | apply I5.set_0 | apply I5.set_1 | refine I5.far ?_ a6.out _ | refine I5.far ?_ a9.out _) | exact HI0.out))
        (case side2 => repeat (first | (with_reducible first | exact HB.out | apply bwa | apply pwN | apply bw1 | refine bws ?_ (I5.ge HI0.out) | refine bws ?_ al.out | refine bws ?_ ak.out) | exact HB.out))
        rintro e w30 ⟨v137,rfl,aZ,hi,hb,hk⟩
        refine ⟨_,rfl,?_⟩
        have ar :=AZ.mk (Kd.R_mono (Kd.R_told (Kd.R_oldK (I5.apart (show I5 w0 _ g aG aE from by repeat (first | (with_reducible first | exact HI0.out | apply I5.alloc | apply I5.drewN | apply I5.drew | apply I5.set_0 | apply I5.set_1 | refine I5.far ?_ a6.out _ | refine I5.far ?_ a9.out _) | exact HI0.out)) (by (with_reducible repeat (first | apply Kd.R_alloc | apply Kd.R_drewN | apply Kd.R_drew));exact a2.out) (by decide)) hk) (Kd.R_base aZ)) (fun _ h_ => h_.1))
        have aq :=AZ.mk (Kd.S_mono (Kd.S_told (Kd.S_oldK (I5.apartS (show I5 w0 _ g aG aE from by repeat (first | (with_reducible first | exact HI0.out | apply I5.alloc | apply I5.drewN | apply I5.drew | apply I5.set_0 | apply I5.set_1 | refine I5.far ?_ a6.out _ | refine I5.far ?_ a9.out _) | exact HI0.out)) (by (with_reducible repeat (first | apply Kd.S_alloc | apply Kd.S_drewN | apply Kd.S_drew));exact ac.out) (by decide)) hk) (Kd.R_base aZ)) (fun _ h_ => h_.1))
        have ap :=AZ.mk (KB.blk hk (g' :=a8) (o :=.cells #[.string (strOfNums ai),a5] 43 (0,0)) (by (with_reducible repeat (first | apply bkN | apply bkd | apply bka));exact a4.out) aw.out (by simp))
        have ao :=AZ.mk (KB.blk hk (g' :=a3) (o :=.cells #[.string (strOfNums am),.int .i64 (wrap64 (av)),.slice aM ab.length aK] 83 (0,0)) (by (with_reducible repeat (first | apply bkN | apply bkd | apply bka));exact a7.out) aj.out (by simp))
        have an :=AZ.mk (Kd.R_lower aZ (keep_size (w :=w) (g :=g) (row :=none) (by repeat (first | (with_reducible first | exact HK.out | apply KB.set_ | apply kpN | apply keep_drew | apply keep_alloc | refine keep_far ?_ ae.out _ | refine keep_far ?_ ah.out _) | exact HK.out))))
        have au :=AZ.mk (KB.trans (by repeat (first | (with_reducible first | exact HK.out | apply KB.set_ | apply kpN | apply keep_drew | apply keep_alloc | refine keep_far ?_ ae.out _ | refine keep_far ?_ ah.out _) | exact HK.out)) hk (.inl rfl))
        have ax :=AZ.mk (hb)
        have aD :=AZ.mk (hi)
        clear a2
        clear ac
        clear a4
        clear a7
        clear HK
        clear HB
        clear HI0
        have a2 :=ar
        have ac :=aq
        have a4 :=ap
        have a7 :=ao
        have aC :=an
        have HK :=au
        have HB :=ax
        have HI0 :=aD
        clear ar aq ap ao an au ax aD
        (try clear hb)
        (try clear hb2)
        (try clear hk)
        (try clear hi)
        (try clear aZ)
        refine hK.out _ _ ⟨(bkc a7.out 0).trans rfl,(bkc a7.out 1).trans rfl,(bkc a7.out 2).trans rfl⟩ (fun hHeld => ?_)
        clear hK K
        refine norm_ (a' :=?_) ?_ ?_
        rotate_left
        ·show Act.put _ (some 40) _ = _
         simp only [Act.put,List.setIfInBounds_toArray,List.set_cons_zero,List.set_cons_succ,i64_w,i32_w]
         rfl
        refine join_ (σ :=Value) 5 #[true,true,true,true,true,true,true,false,false,false,false,false] (fun s_ => [(41,.string (strOfNums b6)),(43,s_)]) (fun s_ w' => (w'.cell? ⟨a3,0,none⟩ = some (.string (strOfNums am)) ∧ w'.cell? ⟨a3,1,none⟩ = some (.int .i64 (wrap64 (av))) ∧ w'.cell? ⟨a3,2,none⟩ = some (.slice aM ab.length aK)) ∧ (Kd.R (Kd.int .u8) 5 w' w.heap.size (fun k_ => some k_ ≠ (s_ : Value).ownBlock) v137 b6) ∧ (Kd.R (Kd.int .u8) 5 w' w.heap.size (fun k_ => some k_ ≠ (v137 : Value).ownBlock) s_ aY) ∧ (Kd.R k83 83 w' w.heap.size (fun k_ => some k_ ≠ (v137 : Value).ownBlock ∧ some k_ ≠ (s_ : Value).ownBlock ∧ some k_ ≠ (.slice aM ab.length aK : Value).ownBlock ∧ k_ ≠ a3) a5 aa) ∧ (Kd.S k85 85 w' w.heap.size (fun k_ => some k_ ≠ (v137 : Value).ownBlock ∧ some k_ ≠ (s_ : Value).ownBlock) (.slice aM ab.length aK) ab) ∧ (w'.heap[a8]? = some (.cells #[.string (strOfNums ai),a5] 43 (0,0))) ∧ (w'.heap[a3]? = some (.cells #[.string (strOfNums am),.int .i64 (wrap64 (av)),.slice aM ab.length aK] 83 (0,0))) ∧ (I5 w0 w' g bd bc) ∧ (KB w w' g none) ∧ (Below w0.heap.size w0 w')) ?_ ?_
        rotate_left
        ·intro hCont
         refine two_ (i :=4) (j :=6) (Ni :=some 41) (Nj :=some 43) #[true,true,true,true,true,true,false,false,false,false,false,false] #[true,true,true,true,false,true,true,false,false,false,false,false] rfl rfl rfl rfl (two_of HT_.out (by kernel_rfl)) (by decide) (by decide) (fun K hK => ?_) (fun K hK => ?_)
         ·skip
          have hcv31 :=own_string (P :=Tryz.prog) Tryz.underlying22 Tryz.underlying5 Tryz.underlying9 (Kd.own_of_R aC.out)
          refine value_ (w1 :=?_) (v :=?_) (by rfl) rfl ?_ ?_
          rotate_left 2
          ·go_simp
           constructor
           ·rfl
           ·rfl
          clear hcv31
          refine hK.out _ _ ⟨(bkc a7.out 0).trans rfl,(bkc a7.out 1).trans rfl,(bkc a7.out 2).trans rfl⟩ (fun hHeld => ?_)
          clear hK K
          refine norm_ (a' :=?_) ?_ ?_
          rotate_left
          ·show Act.put _ (some 41) _ = _
           simp only [Act.put,List.setIfInBounds_toArray,List.set_cons_zero,List.set_cons_succ,i64_w,i32_w]
           rfl
          refine one_ (i :=6) (N :=some 43) #[true,true,true,true,true,true,true,false,false,false,false,false] rfl rfl (one_of HT_.out (by kernel_rfl)) (by decide) (fun K hK => ?_)
          refine goesC_ Tryz.func15 (by kernel_rfl) rfl #[.pointer (some ⟨g,0,none⟩)] (by rfl) rfl rfl rfl (by (try simp only [List.map_toArray,List.map_cons,List.map_nil]);first | done | rfl | (simp only [List.length_drop,List.length_take];rfl)) ?_
          with_reducible refine (pr_text.calls k2 g b5 b4 aY bd bc w0 _ ?side1 ?side2 cl.out).mono ?_
          (case side1 => repeat (first | (with_reducible first | exact HI0.out | apply I5.alloc | apply I5.drewN | apply I5.drew | apply I5.set_0 | apply I5.set_1 | refine I5.far ?_ a6.out _ | refine I5.far ?_ a9.out _) | exact HI0.out))
          (case side2 => repeat (first | (with_reducible first | exact HB.out | apply bwa | apply pwN | apply bw1 | refine bws ?_ (I5.ge HI0.out) | refine bws ?_ al.out | refine bws ?_ ak.out) | exact HB.out))
          rintro e w32 ⟨v142,rfl,aZ,hi,hb,hk⟩
          refine ⟨_,rfl,?_⟩
          have ar :=AZ.mk (Kd.R_mono (Kd.R_told (Kd.R_oldK (I5.apart (show I5 w0 _ g b5 b4 from by repeat (first | (with_reducible first | exact HI0.out | apply I5.alloc | apply I5.drewN | apply I5.drew | apply I5.set_0 | apply I5.set_1 | refine I5.far ?_ a6.out _ | refine I5.far ?_ a9.out _) | exact HI0.out)) (by (with_reducible repeat (first | apply Kd.R_alloc | apply Kd.R_drewN | apply Kd.R_drew));exact a2.out) (by decide)) hk) (Kd.R_base aZ)) (fun _ h_ => h_.1))
          have aq :=AZ.mk (Kd.S_mono (Kd.S_told (Kd.S_oldK (I5.apartS (show I5 w0 _ g b5 b4 from by repeat (first | (with_reducible first | exact HI0.out | apply I5.alloc | apply I5.drewN | apply I5.drew | apply I5.set_0 | apply I5.set_1 | refine I5.far ?_ a6.out _ | refine I5.far ?_ a9.out _) | exact HI0.out)) (by (with_reducible repeat (first | apply Kd.S_alloc | apply Kd.S_drewN | apply Kd.S_drew));exact ac.out) (by decide)) hk) (Kd.R_base aZ)) (fun _ h_ => h_.1))
          have ap :=AZ.mk (KB.blk hk (g' :=a8) (o :=.cells #[.string (strOfNums ai),a5] 43 (0,0)) (by (with_reducible repeat (first | apply bkN | apply bkd | apply bka));exact a4.out) aw.out (by simp))
          have ao :=AZ.mk (KB.blk hk (g' :=a3) (o :=.cells #[.string (strOfNums am),.int .i64 (wrap64 (av)),.slice aM ab.length aK] 83 (0,0)) (by (with_reducible repeat (first | apply bkN | apply bkd | apply bka));exact a7.out) aj.out (by simp))
          have an :=AZ.mk (Kd.R_mono (Kd.R_told (Kd.R_oldK (I5.apart (show I5 w0 _ g b5 b4 from by repeat (first | (with_reducible first | exact HI0.out | apply I5.alloc | apply I5.drewN | apply I5.drew | apply I5.set_0 | apply I5.set_1 | refine I5.far ?_ a6.out _ | refine I5.far ?_ a9.out _) | exact HI0.out)) (by (with_reducible repeat (first | apply Kd.R_alloc | apply Kd.R_drewN | apply Kd.R_drew));exact aC.out) (by decide)) hk) (Kd.R_base aZ)) (fun _ h_ => h_.1))
          have au :=AZ.mk (Kd.R_lower (Kd.R_new' aZ (Kd.R_lt (by (with_reducible repeat (first | apply Kd.R_alloc | apply Kd.R_drewN | apply Kd.R_drew));exact aC.out))) (keep_size (w :=w) (g :=g) (row :=none) (by repeat (first | (with_reducible first | exact HK.out | apply KB.set_ | apply kpN | apply keep_drew | apply keep_alloc | refine keep_far ?_ ae.out _ | refine keep_far ?_ ah.out _) | exact HK.out))))
          have ax :=AZ.mk (KB.trans (by repeat (first | (with_reducible first | exact HK.out | apply KB.set_ | apply kpN | apply keep_drew | apply keep_alloc | refine keep_far ?_ ae.out _ | refine keep_far ?_ ah.out _) | exact HK.out)) hk (.inl rfl))
          have aD :=AZ.mk (hb)
          have aJ :=AZ.mk (hi)
          clear a2
          clear ac
          clear a4
          clear a7
          clear aC
          clear HK
          clear HB
          clear HI0
          have a2 :=ar
          have ac :=aq
          have a4 :=ap
          have a7 :=ao
          have aC :=an
          have aT :=au
          have HK :=ax
          have HB :=aD
          have HI0 :=aJ
          clear ar aq ap ao an au ax aD aJ
          (try clear hb)
          (try clear hb2)
          (try clear hk)
          (try clear hi)
          (try clear aZ)
          obtain ⟨bI,bE,bh⟩ :=Kd.R_slice aT.out
          (first | subst bh | (injection bh with f1_ f2_ f3_;have f4_ :=f1_.symm;have f5_ :=f3_.symm;clear f1_ f2_ f3_;subst f4_;subst f5_))
          refine hK.out _ _ ⟨(bkc a7.out 0).trans rfl,(bkc a7.out 1).trans rfl,(bkc a7.out 2).trans rfl⟩ (fun hHeld => ?_)
          clear hK K
          refine norm_ (a' :=?_) ?_ ?_
          rotate_left
          ·show Act.put _ (some 43) _ = _
           simp only [Act.put,List.setIfInBounds_toArray,List.set_cons_zero,List.set_cons_succ,i64_w,i32_w]
           rfl
          exact norm_ (by simp only [putAll,Act.put,List.setIfInBounds_toArray,List.set_cons_zero,List.set_cons_succ]) (hCont (.slice bI aY.length bE) _ ⟨hHeld,(by (with_reducible repeat (first | apply Kd.R_alloc | apply Kd.R_drewN | apply Kd.R_drew));exact Kd.R_mono aC.out (fun _ hk => hk.2)),(by (with_reducible repeat (first | apply Kd.R_alloc | apply Kd.R_drewN | apply Kd.R_drew));exact Kd.R_mono aT.out (fun _ hk => hk.2)),(by (with_reducible repeat (first | apply Kd.R_alloc | apply Kd.R_drewN | apply Kd.R_drew));exact Kd.R_mono a2.out (fun _ hk => ⟨hk.1.2,⟨hk.2,⟨hk.1.1.1,hk.1.1.2⟩⟩⟩)),(by (with_reducible repeat (first | apply Kd.S_alloc | apply Kd.S_drewN | apply Kd.S_drew));exact Kd.S_mono ac.out (fun _ hk => ⟨hk.1.2,hk.2⟩)),(by (with_reducible repeat (first | apply bkN | apply bkd | apply bka));exact a4.out),(by (with_reducible repeat (first | apply bkN | apply bkd | apply bka));exact a7.out),(by repeat (first | (with_reducible first | exact HI0.out | apply I5.alloc | apply I5.drewN | apply I5.drew | apply I5.set_0 | apply I5.set_1 | refine I5.far ?_ a6.out _ | refine I5.far ?_ a9.out _) | exact HI0.out)),(by repeat (first | (with_reducible first | exact HK.out | apply KB.set_ | apply kpN | apply keep_drew | apply keep_alloc | refine keep_far ?_ ae.out _ | refine keep_far ?_ ah.out _) | exact HK.out)),(by repeat (first | (with_reducible first | exact HB.out | apply bwa | apply pwN | apply bw1 | refine bws ?_ (I5.ge HI0.out) | refine bws ?_ al.out | refine bws ?_ ak.out) | exact HB.out))⟩)
         ·skip
          refine goesC_ Tryz.func15 (by kernel_rfl) rfl #[.pointer (some ⟨g,0,none⟩)] (by rfl) rfl rfl rfl (by (try simp only [List.map_toArray,List.map_cons,List.map_nil]);first | done | rfl | (simp only [List.length_drop,List.length_take];rfl)) ?_
          with_reducible refine (pr_text.calls k2 g b5 b4 aY bd bc w0 _ ?side1 ?side2 cl.out).mono ?_
          (case side1 => repeat (first | (with_reducible first | exact HI0.out | apply I5.alloc | apply I5.drewN | apply I5.drew | apply I5.set_0 | apply I5.set_1 | refine I5.far ?_ a6.out _ | refine I5.far ?_ a9.out _) | exact HI0.out))
          (case side2 => repeat (first | (with_reducible first | exact HB.out | apply bwa | apply pwN | apply bw1 | refine bws ?_ (I5.ge HI0.out) | refine bws ?_ al.out | refine bws ?_ ak.out) | exact HB.out))
          rintro e w31 ⟨v142,rfl,aZ,hi,hb,hk⟩
          refine ⟨_,rfl,?_⟩
          have ar :=AZ.mk (Kd.R_mono (Kd.R_told (Kd.R_oldK (I5.apart (show I5 w0 _ g b5 b4 from by repeat (first | (with_reducible first | exact HI0.out | apply I5.alloc | apply I5.drewN | apply I5.drew | apply I5.set_0 | apply I5.set_1 | refine I5.far ?_ a6.out _ | refine I5.far ?_ a9.out _) | exact HI0.out)) (by (with_reducible repeat (first | apply Kd.R_alloc | apply Kd.R_drewN | apply Kd.R_drew));exact a2.out) (by decide)) hk) (Kd.R_base aZ)) (fun _ h_ => h_.1))
          have aq :=AZ.mk (Kd.S_mono (Kd.S_told (Kd.S_oldK (I5.apartS (show I5 w0 _ g b5 b4 from by repeat (first | (with_reducible first | exact HI0.out | apply I5.alloc | apply I5.drewN | apply I5.drew | apply I5.set_0 | apply I5.set_1 | refine I5.far ?_ a6.out _ | refine I5.far ?_ a9.out _) | exact HI0.out)) (by (with_reducible repeat (first | apply Kd.S_alloc | apply Kd.S_drewN | apply Kd.S_drew));exact ac.out) (by decide)) hk) (Kd.R_base aZ)) (fun _ h_ => h_.1))
          have ap :=AZ.mk (KB.blk hk (g' :=a8) (o :=.cells #[.string (strOfNums ai),a5] 43 (0,0)) (by (with_reducible repeat (first | apply bkN | apply bkd | apply bka));exact a4.out) aw.out (by simp))
          have ao :=AZ.mk (KB.blk hk (g' :=a3) (o :=.cells #[.string (strOfNums am),.int .i64 (wrap64 (av)),.slice aM ab.length aK] 83 (0,0)) (by (with_reducible repeat (first | apply bkN | apply bkd | apply bka));exact a7.out) aj.out (by simp))
          have an :=AZ.mk (Kd.R_mono (Kd.R_told (Kd.R_oldK (I5.apart (show I5 w0 _ g b5 b4 from by repeat (first | (with_reducible first | exact HI0.out | apply I5.alloc | apply I5.drewN | apply I5.drew | apply I5.set_0 | apply I5.set_1 | refine I5.far ?_ a6.out _ | refine I5.far ?_ a9.out _) | exact HI0.out)) (by (with_reducible repeat (first | apply Kd.R_alloc | apply Kd.R_drewN | apply Kd.R_drew));exact aC.out) (by decide)) hk) (Kd.R_base aZ)) (fun _ h_ => h_.1))
          have au :=AZ.mk (Kd.R_lower (Kd.R_new' aZ (Kd.R_lt (by (with_reducible repeat (first | apply Kd.R_alloc | apply Kd.R_drewN | apply Kd.R_drew));exact aC.out))) (keep_size (w :=w) (g :=g) (row :=none) (by repeat (first | (with_reducible first | exact HK.out | apply KB.set_ | apply kpN | apply keep_drew | apply keep_alloc | refine keep_far ?_ ae.out _ | refine keep_far ?_ ah.out _) | exact HK.out))))
          have ax :=AZ.mk (KB.trans (by repeat (first | (with_reducible first | exact HK.out | apply KB.set_ | apply kpN | apply keep_drew | apply keep_alloc | refine keep_far ?_ ae.out _ | refine keep_far ?_ ah.out _) | exact HK.out)) hk (.inl rfl))
          have aD :=AZ.mk (hb)
          have aJ :=AZ.mk (hi)
          clear a2
          clear ac
          clear a4
          clear a7
          clear aC
          clear HK
          clear HB
          clear HI0
          have a2 :=ar
          have ac :=aq
          have a4 :=ap
          have a7 :=ao
          have aC :=an
          have aT :=au
          have HK :=ax
          have HB :=aD
          have HI0 :=aJ
          clear ar aq ap ao an au ax aD aJ
          (try clear hb)
          (try clear hb2)
          (try clear hk)
          (try clear hi)
          (try clear aZ)
          obtain ⟨bI,bE,bh⟩ :=Kd.R_slice aT.out
          (first | subst bh | (injection bh with f1_ f2_ f3_;have f4_ :=f1_.symm;have f5_ :=f3_.symm;clear f1_ f2_ f3_;subst f4_;subst f5_))
          refine hK.out _ _ ⟨(bkc a7.out 0).trans rfl,(bkc a7.out 1).trans rfl,(bkc a7.out 2).trans rfl⟩ (fun hHeld => ?_)
          clear hK K
          refine norm_ (a' :=?_) ?_ ?_
          rotate_left
          ·show Act.put _ (some 43) _ = _
           simp only [Act.put,List.setIfInBounds_toArray,List.set_cons_zero,List.set_cons_succ,i64_w,i32_w]
           rfl
          refine one_ (i :=4) (N :=some 41) #[true,true,true,true,true,true,true,false,false,false,false,false] rfl rfl (one_of HT_.out (by kernel_rfl)) (by decide) (fun K hK => ?_)
          have hcv32 :=own_string (P :=Tryz.prog) Tryz.underlying22 Tryz.underlying5 Tryz.underlying9 (Kd.own_of_R aC.out)
          refine value_ (w1 :=?_) (v :=?_) (by rfl) rfl ?_ ?_
          rotate_left 2
          ·go_simp
           constructor
           ·rfl
           ·rfl
          clear hcv32
          refine hK.out _ _ ⟨(bkc a7.out 0).trans rfl,(bkc a7.out 1).trans rfl,(bkc a7.out 2).trans rfl⟩ (fun hHeld => ?_)
          clear hK K
          refine norm_ (a' :=?_) ?_ ?_
          rotate_left
          ·show Act.put _ (some 41) _ = _
           simp only [Act.put,List.setIfInBounds_toArray,List.set_cons_zero,List.set_cons_succ,i64_w,i32_w]
           rfl
          exact norm_ (by simp only [putAll,Act.put,List.setIfInBounds_toArray,List.set_cons_zero,List.set_cons_succ]) (hCont (.slice bI aY.length bE) _ ⟨hHeld,(by (with_reducible repeat (first | apply Kd.R_alloc | apply Kd.R_drewN | apply Kd.R_drew));exact Kd.R_mono aC.out (fun _ hk => hk.2)),(by (with_reducible repeat (first | apply Kd.R_alloc | apply Kd.R_drewN | apply Kd.R_drew));exact Kd.R_mono aT.out (fun _ hk => hk.2)),(by (with_reducible repeat (first | apply Kd.R_alloc | apply Kd.R_drewN | apply Kd.R_drew));exact Kd.R_mono a2.out (fun _ hk => ⟨hk.1.2,⟨hk.2,⟨hk.1.1.1,hk.1.1.2⟩⟩⟩)),(by (with_reducible repeat (first | apply Kd.S_alloc | apply Kd.S_drewN | apply Kd.S_drew));exact Kd.S_mono ac.out (fun _ hk => ⟨hk.1.2,hk.2⟩)),(by (with_reducible repeat (first | apply bkN | apply bkd | apply bka));exact a4.out),(by (with_reducible repeat (first | apply bkN | apply bkd | apply bka));exact a7.out),(by repeat (first | (with_reducible first | exact HI0.out | apply I5.alloc | apply I5.drewN | apply I5.drew | apply I5.set_0 | apply I5.set_1 | refine I5.far ?_ a6.out _ | refine I5.far ?_ a9.out _) | exact HI0.out)),(by repeat (first | (with_reducible first | exact HK.out | apply KB.set_ | apply kpN | apply keep_drew | apply keep_alloc | refine keep_far ?_ ae.out _ | refine keep_far ?_ ah.out _) | exact HK.out)),(by repeat (first | (with_reducible first | exact HB.out | apply bwa | apply pwN | apply bw1 | refine bws ?_ (I5.ge HI0.out) | refine bws ?_ al.out | refine bws ?_ ak.out) | exact HB.out))⟩)
        rintro v142 w34 ⟨hS_,h0_,h1_,h2_,h3_,h4_,h5_,h6_,h7_,h8_⟩
        have ar : AZ (Kd.R (Kd.int .u8) 5 w34 w.heap.size (fun k_ => some k_ ≠ (v142 : Value).ownBlock) v137 b6) :=⟨h0_⟩
        have aq : AZ (Kd.R (Kd.int .u8) 5 w34 w.heap.size (fun k_ => some k_ ≠ (v137 : Value).ownBlock) v142 aY) :=⟨h1_⟩
        have ap : AZ (Kd.R k83 83 w34 w.heap.size (fun k_ => some k_ ≠ (v137 : Value).ownBlock ∧ some k_ ≠ (v142 : Value).ownBlock ∧ some k_ ≠ (.slice aM ab.length aK : Value).ownBlock ∧ k_ ≠ a3) a5 aa) :=⟨h2_⟩
        have ao : AZ (Kd.S k85 85 w34 w.heap.size (fun k_ => some k_ ≠ (v137 : Value).ownBlock ∧ some k_ ≠ (v142 : Value).ownBlock) (.slice aM ab.length aK) ab) :=⟨h3_⟩
        have an : AZ (w34.heap[a8]? = some (.cells #[.string (strOfNums ai),a5] 43 (0,0))) :=⟨h4_⟩
        have au : AZ (w34.heap[a3]? = some (.cells #[.string (strOfNums am),.int .i64 (wrap64 (av)),.slice aM ab.length aK] 83 (0,0))) :=⟨h5_⟩
        have ax : AZ (I5 w0 w34 g bd bc) :=⟨h6_⟩
        have aD : AZ (KB w w34 g none) :=⟨h7_⟩
        have aJ : AZ (Below w0.heap.size w0 w34) :=⟨h8_⟩
        clear a2
        clear ac
        clear a4
        clear a7
        clear HI0
        clear HK
        clear HB
        clear h0_ h1_ h2_ h3_ h4_ h5_ h6_ h7_ h8_
        have aC :=ar
        have aT :=aq
        have a2 :=ap
        have ac :=ao
        have a4 :=an
        have a7 :=au
        have HI0 :=ax
        have HK :=aD
        have HB :=aJ
        clear ar aq ap ao an au ax aD aJ
        have hHeld : w34.cell? ⟨a3,0,none⟩ = some (.string (strOfNums am)) ∧ w34.cell? ⟨a3,1,none⟩ = some (.int .i64 (wrap64 (av))) ∧ w34.cell? ⟨a3,2,none⟩ = some (.slice aM ab.length aK) :=hS_
        obtain ⟨bH,bD,bK⟩ :=Kd.R_slice aT.out
        (first | subst bK | (injection bK with f1_ f2_ f3_;have f4_ :=f1_.symm;have f5_ :=f3_.symm;clear f1_ f2_ f3_;subst f4_;subst f5_))
        refine norm_ (a' :=?_) ?_ ?_
        rotate_left
        ·simp only [putAll,Act.put,List.setIfInBounds_toArray,List.set_cons_zero,List.set_cons_succ]
         rfl
        refine pure_ (i :=7) (N :=some 44) (v :=?_) (a' :=?_) #[true,true,true,true,true,true,true,true,false,false,false,false] rfl rfl (any_of HT_.out (by kernel_rfl)) (fun _ _ _ h => h) (Or.inl ⟨by rfl,?_⟩) ?_ ?_
        rotate_left
        ·intro w'
         go_simp
         with_reducible rfl
        rotate_left
        ·simp only [Act.put,List.setIfInBounds_toArray,List.set_cons_zero,List.set_cons_succ,i64_w,i32_w]
         rfl
        refine one_ (i :=8) (N :=some 45) #[true,true,true,true,true,true,true,true,true,false,false,false] rfl rfl (one_of HT_.out (by kernel_rfl)) (by decide) (fun K hK => ?_)
        refine value_ (w1 :=?_) (v :=?_) (by rfl) rfl ?_ ?_
        rotate_left 2
        ·go_simp
         constructor
         ·rfl
         ·rfl
        refine hK.out _ _ ⟨(bkc (bka a7.out _) 0).trans rfl,(bkc (bka a7.out _) 1).trans rfl,(bkc (bka a7.out _) 2).trans rfl⟩ (fun hHeld => ?_)
        clear hK K
        refine norm_ (a' :=?_) ?_ ?_
        rotate_left
        ·show Act.put _ (some 45) _ = _
         simp only [Act.put,List.setIfInBounds_toArray,List.set_cons_zero,List.set_cons_succ,i64_w,i32_w]
         rfl
        refine one_ (i :=9) (N :=some 46) #[true,true,true,true,true,true,true,true,true,true,false,false] rfl rfl (one_of HT_.out (by kernel_rfl)) (by decide) (fun K hK => ?_)
        refine Kd.S_append_step k85 w.heap.size (by rfl) (.tmp 38) (.tmp 45) 81 85 (.agg #[(.string ⟨#[]⟩),(.slice none 0 0)]) 40 rfl Tryz.underlying81 info85 rfl (by decide) (by omega) (.slice aM ab.length aK) ab (⟨strOfNums b6,aY⟩ : S85) [.string (strOfNums b6),.slice bH aY.length bD] (fun k_ => some k_ ≠ (v137 : Value).ownBlock) (fun k_ => some k_ = (.slice bH aY.length bD : Value).ownBlock) rfl rfl ?aP (fun k_ hk_ => ((Kd.R_mono (ok' :=fun k_ => ((fun k_ => some k_ ≠ (v137 : Value).ownBlock)) k_ ∧ some k_ ≠ (.slice aM ab.length aK : Value).ownBlock) (Kd.R_apart' (aT.out) (Kd.S_typed ac.out) (by decide)) (fun k_ hk => ⟨hk.1,hk.2⟩))).1 k_ hk_.symm) ?aF ?aO (Below.refl _ _) ?aS ?aL ?_
        (case aP => exact k85_mkM _ _ _ (⟨strOfNums b6,aY⟩ : S85) (Kd.R_mono (Kd.R_tight rfl (Kd.R_mono (ok' :=fun k_ => ((fun k_ => some k_ ≠ (v137 : Value).ownBlock)) k_ ∧ some k_ ≠ (.slice aM ab.length aK : Value).ownBlock) (Kd.R_apart' (aT.out) (Kd.S_typed ac.out) (by decide)) (fun k_ hk => ⟨hk.1,hk.2⟩))) (fun _ h_ => h_)))
        (case aF => exact (fun k_ hk => Kd.fresh' (Kd.R_lt (by (with_reducible repeat (first | apply Kd.R_alloc | apply Kd.R_drewN | apply Kd.R_drew));exact aC.out)) k_ hk))
        (case aO => exact (by (with_reducible repeat (first | apply Kd.S_alloc | apply Kd.S_drewN | apply Kd.S_drew));exact Kd.S_mono ac.out (fun k_ hk => ⟨hk.1,fun e_ => hk.2 e_⟩)))
        (case aS => exact (keep_size (w :=w) (g :=g) (row :=none) (by repeat (first | (with_reducible first | exact HK.out | apply KB.set_ | apply kpN | apply keep_drew | apply keep_alloc | refine keep_far ?_ ae.out _ | refine keep_far ?_ ah.out _) | exact HK.out))))
        (case aL => have :=LMc27.out;omega)
        intro v147 w36 ho hb hg hat
        rw [← Ny146.out] at ho
        have ar :=AZ.mk (Kd.R_after (ok :=(fun k_ => some k_ ≠ (v137 : Value).ownBlock ∧ some k_ ≠ (.slice bH aY.length bD : Value).ownBlock ∧ k_ ≠ a3)) (by (with_reducible repeat (first | apply Kd.R_alloc | apply Kd.R_drewN | apply Kd.R_drew));exact Kd.R_mono a2.out (fun _ hk => ⟨⟨hk.1,⟨hk.2.1,hk.2.2.2⟩⟩,hk.2.2.1⟩)) hg hat)
        have aq :=AZ.mk (blk_grown (g :=a8) (o :=.cells #[.string (strOfNums ai),a5] 43 (0,0)) (by (with_reducible repeat (first | apply bkN | apply bkd | apply bka));exact a4.out) hg (Kd.S_ne ac.out a4.out (by decide)))
        have ap :=AZ.mk (blk_grown (g :=a3) (o :=.cells #[.string (strOfNums am),.int .i64 (wrap64 (av)),.slice aM ab.length aK] 83 (0,0)) (by (with_reducible repeat (first | apply bkN | apply bkd | apply bka));exact a7.out) hg (Kd.S_ne ac.out a7.out (by decide)))
        have ao :=AZ.mk (I5.grownF HI0.out (by repeat (first | (with_reducible first | exact HI0.out | apply I5.alloc | apply I5.drewN | apply I5.drew | apply I5.set_0 | apply I5.set_1 | refine I5.far ?_ a6.out _ | refine I5.far ?_ a9.out _) | exact HI0.out)) hg (I5.own_neS HI0.out ac.out (by decide)))
        have an :=AZ.mk (Kd.R_over' (by (with_reducible repeat (first | apply Kd.R_alloc | apply Kd.R_drewN | apply Kd.R_drew));exact aC.out) (Kd.S_typed (by (with_reducible repeat (first | apply Kd.S_alloc | apply Kd.S_drewN | apply Kd.S_drew));exact ac.out)) (by decide) hg)
        have au :=AZ.mk (below_weaken (by repeat (first | (with_reducible first | exact HB.out | apply bwa | apply pwN | apply bw1 | refine bws ?_ (I5.ge HI0.out) | refine bws ?_ al.out | refine bws ?_ ak.out) | exact HB.out)) HL.out hb)
        have ax :=AZ.mk (KB.trans (by repeat (first | (with_reducible first | exact HK.out | apply KB.set_ | apply kpN | apply keep_drew | apply keep_alloc | refine keep_far ?_ ae.out _ | refine keep_far ?_ ah.out _) | exact HK.out)) (KB.of_grown hg g) (Kd.S_base2 ac.out))
        have aD :=AZ.mk (ho)
        clear a2
        clear a4
        clear a7
        clear HI0
        clear aC
        clear HB
        clear HK
        clear ac
        clear aT
        have a2 :=ar
        have a4 :=aq
        have a7 :=ap
        have HI0 :=ao
        have aC :=an
        have HB :=au
        have HK :=ax
        have bp :=aD
        clear ar aq ap ao an au ax aD
        clear ho hb hg hat
        obtain ⟨bG,bC,bJ⟩ :=Kd.S_slice bp.out
        (first | subst bJ | (injection bJ with f1_ f2_ f3_;have f4_ :=f1_.symm;have f5_ :=f3_.symm;clear f1_ f2_ f3_;subst f4_;subst f5_))
        refine hK.out _ _ ⟨(bkc a7.out 0).trans rfl,(bkc a7.out 1).trans rfl,(bkc a7.out 2).trans rfl⟩ (fun hHeld => ?_)
        clear hK K
        refine norm_ (a' :=?_) ?_ ?_
        rotate_left
        ·show Act.put _ (some 46) _ = _
         simp only [Act.put,List.setIfInBounds_toArray,List.set_cons_zero,List.set_cons_succ,i64_w,i32_w]
         rfl
        refine pure_ (i :=10) (N :=some 47) (v :=?_) (a' :=?_) #[true,true,true,true,true,true,true,true,true,true,true,false] rfl rfl (any_of HT_.out (by kernel_rfl)) (fun _ _ _ h => h) (Or.inl ⟨by rfl,?_⟩) ?_ ?_
        rotate_left
        ·intro w'
         go_simp
         with_reducible rfl
        rotate_left
        ·simp only [Act.put,List.setIfInBounds_toArray,List.set_cons_zero,List.set_cons_succ,i64_w,i32_w]
         rfl
        refine last_ (i :=11) (N :=none) #[true,true,true,true,true,true,true,true,true,true,true,true] rfl rfl (one_of HT_.out (by kernel_rfl)) (by decide) (fun K hK => ?_)
        have hs38 : w36.cell? ⟨a3,2,none⟩ = some (.slice aM ab.length aK) :=(bkc a7.out 2).trans rfl
        have hfs38 :=bkz a7.out 2
        have hns38_0 :=ad.out
        have hms38_0 :=af.out
        refine skip_ (w1 :=?_) (by rfl) rfl ?_ ?_
        rotate_left
        ·go_simp
         rfl
        refine hK.out _ _ ?_
        clear hK K
        refine done_ (done_of HT_.out (by kernel_rfl)) ?_
        try go_wp2
        go_roundg k2
        case measure => have :=HK1.out;have :=HK2.out;omega
        case rel => exact ⟨(IntKind.u64.wrap (b3 - 1)),(bd),(bc),(y146),(.slice bG y146.length bC),(by first | rfl | (simp;done) | (simp [*];done)),H',⟨by have :=HK1.out;have :=HK2.out;omega⟩,⟨by (with_reducible repeat (first | apply Kd.R_alloc | apply Kd.R_drewN | apply Kd.R_drew));exact Kd.R_mono (Kd.R_far (p :=⟨a3,2,none⟩) (Kd.R_mono a2.out (fun k_ hk => (⟨hk,hk.1.2.2⟩ : _ ∧ k_ ≠ a3))) (fun _ hk => hk.2) (.slice bG y146.length bC)) (fun _ hk => ⟨hk.1.2,hk.1.1.2.2⟩)⟩,⟨by (with_reducible repeat (first | apply Kd.S_alloc | apply Kd.S_drewN | apply Kd.S_drew));exact Kd.S_mono (Kd.S_far (p :=⟨a3,2,none⟩) (Kd.S_types bp.out a7.out (by decide)) (fun _ hk => hk.2) (.slice bG y146.length bC)) (fun _ hk => trivial)⟩,⟨by (with_reducible repeat (first | apply bkN | apply bkd | apply bka));refine blk_far ?_ ad.out _;(with_reducible repeat (first | apply bkN | apply bkd | apply bka));exact a4.out⟩,⟨by (with_reducible repeat (first | apply bkN | apply bkd | apply bka));refine blk_put (cs :=#[.string (strOfNums am),.int .i64 (wrap64 (av)),.slice aM ab.length aK]) ?_ 2 _ rfl;(with_reducible repeat (first | apply bkN | apply bkd | apply bka));exact a7.out⟩,⟨by repeat (first | (with_reducible first | exact HI0.out | apply I5.alloc | apply I5.drewN | apply I5.drew | apply I5.set_0 | apply I5.set_1 | refine I5.far ?_ a6.out _ | refine I5.far ?_ a9.out _) | exact HI0.out)⟩,⟨by repeat (first | (with_reducible first | exact HK.out | apply KB.set_ | apply kpN | apply keep_drew | apply keep_alloc | refine keep_far ?_ ae.out _ | refine keep_far ?_ ah.out _) | exact HK.out)⟩,⟨by repeat (first | (with_reducible first | exact HB.out | apply bwa | apply pwN | apply bw1 | refine bws ?_ (I5.ge HI0.out) | refine bws ?_ al.out | refine bws ?_ ak.out) | exact HB.out)⟩⟩
       ·rw [if_neg c27] at H
        exact absurd H (by simp)
      ·rw [if_neg c24] at H
       have bM : decide (0 < b3) = false :=decide_eq_false c24
       clear c24
       by_cases c39 : aa.length < 2932031007402
       ·rw [if_pos c39] at H
        have LMc39 :=AZ.mk c39
        clear c39
        obtain ⟨y149,hy149⟩ : ∃ y_ : List (S83),y_ = (aa ++ [(⟨(strOfNums am),(wrap64 (av)),ab⟩ : S83)]) :=⟨_,rfl⟩
        replace H : (pr_commit.l0 k2 (IntKind.u64.wrap (aU - 1)) aG aE (strOfNums ai) y149) = some (r1,r2,r3,r4) :=by first | (rw [hy149];with_reducible exact H) | (have H2_ :=(Option.bind_some _ _).symm.trans H;rw [hy149];with_reducible exact H2_) | (have H2_ :=(Option.bind_some _ _).symm.trans H;with_reducible exact H2_) | with_reducible exact H | (rw [hy149];exact H) | exact H
        have Ny149 :=AZ.mk hy149
        clear hy149
        have H' :=AZ.mk H
        clear H
        have hnb40 :=ad.out
        have hnc40 :=af.out
        have hnb41 :=aw.out
        have hnc41 :=a6.out
        have ce : wr.cell? ⟨a8,0,none⟩ = some (.string (strOfNums ai)) :=(bkc a4.out 0).trans rfl
        have cd : wr.cell? ⟨a8,1,none⟩ = some (a5) :=(bkc a4.out 1).trans rfl
        have c4 :=bkz a4.out 0
        have c3 :=bkz a4.out 1
        have hnb43 :=aj.out
        have hnc43 :=a9.out
        have cc : wr.cell? ⟨a3,0,none⟩ = some (.string (strOfNums am)) :=(bkc a7.out 0).trans rfl
        have cb : wr.cell? ⟨a3,1,none⟩ = some (.int .i64 (wrap64 (av))) :=(bkc a7.out 1).trans rfl
        have ca : wr.cell? ⟨a3,2,none⟩ = some (aW) :=(bkc a7.out 2).trans rfl
        have c0 :=bkz a7.out 0
        have bZ :=bkz a7.out 1
        have bY :=bkz a7.out 2
        obtain ⟨bF,bB,ci⟩ :=Kd.S_slice ac.out
        subst ci
        go_wp2_with (first | ((with_reducible refine gate_builtin (b :=.append) (xs :=#[.tmp 49,.tmp 51]) rfl ?_);at_builtin;refine Kd.R_append k83 w.heap.size rfl (.tmp 49) (.tmp 51) 41 83 (.agg #[(.string ⟨#[]⟩),(.int .i64 0),(.slice none 0 0)]) 48 rfl Tryz.underlying41 info83 rfl (by decide) (by omega) a5 aa (⟨(strOfNums am),(wrap64 (av)),ab⟩ : S83) [.string (strOfNums am),.int .i64 (wrap64 (av)),.slice bF ab.length bB] (fun k_ => k_ ≠ a3) (fun k_ => ((fun k_ => k_ ≠ a3)) k_ ∧ some k_ ≠ (a5 : Value).ownBlock) rfl rfl ?aP (fun _ hk => hk) ?aF ?aO (Below.refl _ _) ?aS ?aL ?_;(case aP => exact k83_mkM _ _ _ (⟨(strOfNums am),(wrap64 (av)),ab⟩ : S83) (Kd.R_mono (Kd.R_types (Kd.R_apart' ((Kd.S_R ac.out)) (Kd.R_typed a2.out) (by decide)) a7.out (by decide)) (fun k_ hk => ⟨hk.2,hk.1.2⟩)));(case aF => exact (fun k_ hk => Kd.freshB (g :=a3) (o :=.cells #[.string (strOfNums am),.int .i64 (wrap64 (av)),.slice bF ab.length bB] 83 (0,0)) (by (with_reducible repeat (first | apply bkN | apply bkd | apply bka));exact a7.out) k_ hk));(case aO => exact (by (with_reducible repeat (first | apply Kd.R_alloc | apply Kd.R_drewN | apply Kd.R_drew));exact Kd.R_mono a2.out (fun _ hk => hk.2)));(case aS => exact (keep_size (w :=w) (g :=g) (row :=none) (by repeat (first | (with_reducible first | exact HK.out | apply KB.set_ | apply kpN | apply keep_drew | apply keep_alloc | refine keep_far ?_ ae.out _ | refine keep_far ?_ ah.out _) | exact HK.out))));(case aL => have :=LMc39.out;omega);intro v150 w45 ho hb hg hat;rw [← Ny149.out] at ho;have ar :=AZ.mk (blk_grown (g :=a8) (o :=.cells #[.string (strOfNums ai),a5] 43 (0,0)) (by (with_reducible repeat (first | apply bkN | apply bkd | apply bka));exact a4.out) hg (Kd.R_ne a2.out a4.out (by decide)));have aq :=AZ.mk (blk_grown (g :=a3) (o :=.cells #[.string (strOfNums am),.int .i64 (wrap64 (av)),.slice bF ab.length bB] 83 (0,0)) (by (with_reducible repeat (first | apply bkN | apply bkd | apply bka));exact a7.out) hg (Kd.R_away a2.out (fun _ hk => hk.2)));have ap :=AZ.mk (I5.grownF HI0.out (by repeat (first | (with_reducible first | exact HI0.out | apply I5.alloc | apply I5.drewN | apply I5.drew | apply I5.set_0 | apply I5.set_1 | refine I5.far ?_ a6.out _ | refine I5.far ?_ a9.out _) | exact HI0.out)) hg (I5.own_ne HI0.out a2.out (by decide)));have ao :=AZ.mk (below_weaken (by repeat (first | (with_reducible first | exact HB.out | apply bwa | apply pwN | apply bw1 | refine bws ?_ (I5.ge HI0.out) | refine bws ?_ al.out | refine bws ?_ ak.out) | exact HB.out)) HL.out hb);have an :=AZ.mk (KB.trans (by repeat (first | (with_reducible first | exact HK.out | apply KB.set_ | apply kpN | apply keep_drew | apply keep_alloc | refine keep_far ?_ ae.out _ | refine keep_far ?_ ah.out _) | exact HK.out)) (KB.of_grown hg g) (Kd.R_base2 a2.out));have au :=AZ.mk (ho);clear a4;clear a7;clear HI0;clear HB;clear HK;clear a2;clear ac;have a4 :=ar;have a7 :=aq;have HI0 :=ap;have HB :=ao;have HK :=an;have bo :=au;clear ar aq ap ao an au;clear ho hb hg hat;obtain ⟨bO,bL,ch⟩ :=Kd.R_slice bo.out;subst ch;have c9 : w45.cell? ⟨a8,0,none⟩ = some (.string (strOfNums ai)) :=(bkc a4.out 0).trans rfl;have c8 : w45.cell? ⟨a8,1,none⟩ = some (a5) :=(bkc a4.out 1).trans rfl;have bX :=bkz a4.out 0;have bW :=bkz a4.out 1))
        go_roundg k2
        case measure => have :=HK1.out;have :=HK2.out;omega
        case rel => exact ⟨(IntKind.u64.wrap (aU - 1)),(aG),(aE),(y149),(.slice bO y149.length bL),(by first | rfl | (simp;done) | (simp [*];done)),H',⟨by have :=HK1.out;have :=HK2.out;omega⟩,⟨by (with_reducible repeat (first | apply Kd.R_alloc | apply Kd.R_drewN | apply Kd.R_drew));exact Kd.R_mono (Kd.R_far (p :=⟨a8,1,none⟩) (Kd.R_types bo.out a4.out (by decide)) (fun _ hk => hk.2) (.slice bO y149.length bL)) (fun _ hk => trivial)⟩,⟨by (with_reducible repeat (first | apply bkN | apply bkd | apply bka));refine blk_put (cs :=#[.string (strOfNums ai),a5]) ?_ 1 _ rfl;(with_reducible repeat (first | apply bkN | apply bkd | apply bka));exact a4.out⟩,⟨by repeat (first | (with_reducible first | exact HI0.out | apply I5.alloc | apply I5.drewN | apply I5.drew | apply I5.set_0 | apply I5.set_1 | refine I5.far ?_ a6.out _ | refine I5.far ?_ a9.out _) | exact HI0.out)⟩,⟨by repeat (first | (with_reducible first | exact HK.out | apply KB.set_ | apply kpN | apply keep_drew | apply keep_alloc | refine keep_far ?_ ae.out _ | refine keep_far ?_ ah.out _) | exact HK.out)⟩,⟨by repeat (first | (with_reducible first | exact HB.out | apply bwa | apply pwN | apply bw1 | refine bws ?_ (I5.ge HI0.out) | refine bws ?_ al.out | refine bws ?_ ak.out) | exact HB.out)⟩⟩
       ·rw [if_neg c39] at H
        exact absurd H (by simp)
   ·rw [if_neg c10] at H
    have bN : decide (0 < aU) = false :=decide_eq_false c10
    clear c10
    simp only [Option.some.injEq,Prod.mk.injEq] at H
    obtain ⟨rfl,rfl,rfl,rfl⟩ :=H
    have hnb49 :=aw.out
    have hnc49 :=a6.out
    have c6 : wr.cell? ⟨a8,0,none⟩ = some (.string (strOfNums ai)) :=(bkc a4.out 0).trans rfl
    have c5 : wr.cell? ⟨a8,1,none⟩ = some (a5) :=(bkc a4.out 1).trans rfl
    have bV :=bkz a4.out 0
    have bU :=bkz a4.out 1
    obtain ⟨bn,bm,cg⟩ :=Kd.R_slice a2.out
    subst cg
    go_wp2
    refine bodyPost_ret (results_cell_row rfl _ _ a8 43 #[.string (strOfNums ai),.slice bn aa.length bm] (0,0) _ rfl (by (with_reducible repeat (first | apply bkN | apply bkd | apply bka));refine blk_put (cs :=#[.string (strOfNums ai),.slice bn aa.length bm]) ?_ 1 _ rfl;(with_reducible repeat (first | apply bkN | apply bkd | apply bka));refine blk_put (cs :=#[.string (strOfNums ai),.slice bn aa.length bm]) ?_ 0 _ rfl;(with_reducible repeat (first | apply bkN | apply bkd | apply bka));exact a4.out) Tryz.underlying43 rfl (by kernel_rfl)) rfl ?_
    exact ⟨_,by first | rfl | (simp [errW_none,errW_some] <;> rfl) | (simp [*,errW_none,errW_some] <;> rfl),by (with_reducible repeat (first | apply Kd.R_alloc | apply Kd.R_drewN | apply Kd.R_drew));exact Kd.R_mono (Kd.R_far (p :=⟨a8,1,none⟩) (Kd.R_far (p :=⟨a8,0,none⟩) (Kd.R_types a2.out a4.out (by decide)) (fun _ hk => hk.2) (.string (strOfNums ai))) (fun _ hk => hk.2) (.slice bn aa.length bm)) (fun _ hk => trivial),by repeat (first | (with_reducible first | exact HI0.out | apply I5.alloc | apply I5.drewN | apply I5.drew | apply I5.set_0 | apply I5.set_1 | refine I5.far ?_ a6.out _) | exact HI0.out),by repeat (first | (with_reducible first | exact HB.out | apply bwa | apply pwN | apply bw1 | refine bws ?_ (I5.ge HI0.out) | refine bws ?_ al.out) | exact HB.out),by repeat (first | (with_reducible first | exact HK.out | apply KB.set_ | apply kpN | apply keep_drew | apply keep_alloc | refine keep_far ?_ ae.out _) | exact HK.out)⟩
end Go.Proofs.YtlafgnanfkhobaaGreatDoor.P2
