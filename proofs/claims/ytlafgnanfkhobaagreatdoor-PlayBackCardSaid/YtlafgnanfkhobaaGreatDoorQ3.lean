-- Written for this claim by a program, out of the translation.
import Derived.Test.YtlafgnanfkhobaaGreatDoorQ0
import Derived.Test.YtlafgnanfkhobaaGreatDoorQ1
import Derived.Test.YtlafgnanfkhobaaGreatDoorQ2
namespace Go.Proofs.YtlafgnanfkhobaaGreatDoor.P2
open Go.RowKit Go.Proofs.YtlafgnanfkhobaaGreatDoorW.PrintWords Go.Proofs.YtlafgnanfkhobaaGreatDoorW.PrintLast Go.Proofs.YtlafgnanfkhobaaGreatDoorW.PrintMore
attribute [local go_sem] max2_int min2_int max_two min_two max_three min_three max_four min_four
def pr_request.l0 : Nat → Int → ByteArray → Bool → Int → ByteArray → List (S83) → ByteArray → List ByteArray → Int → Int → Int → Bool → Option (Int × ByteArray × (List (S83)) × ByteArray × List ByteArray × Int × List Int × Int × Int × Bool × List Int × ByteArray × Bool)
 | 0,_,_,_,_,_,_,_,_,_,_,_,_ => none
 | k + 1,x5,cj,ci,b4,b3,b2,b1,aW,bt,bs,br,bq => if x5 > 0 then ((pr_text.f k cj ci).bind fun bp => (if aW.length < 8796093022208 then (pr_request.l0 k (IntKind.u64.wrap (x5 - 1)) bp.2.1 bp.2.2 b4 b3 b2 b1 (aW ++ [strOfNums bp.1]) bt bs br bq) else (none))) else ((pr_num.f k cj ci 8).bind fun bo => ((pr_text.f k bo.2.1 bo.2.2).bind fun aT => ((pr_num.f k aT.2.1 aT.2.2 2).bind fun aN => ((pr_num.f k aN.2.1 aN.2.2 2).bind fun aA => ((pr_num.f k aA.2.1 aA.2.2 1).bind fun ap => ((pr_text.f k ap.2.1 ap.2.2).bind fun ai => (some (b4,b3,b2,b1,aW,wrap64 (bo.1),aT.1,wrap64 (aN.1),wrap64 (aA.1),((Int.tmod ap.1 2) == 1),ai.1,ai.2.1,ai.2.2))))))))
def pr_request.f (k : Nat) (aZ : ByteArray) (aY : Bool) : Option (Int × ByteArray × (List (S83)) × ByteArray × List ByteArray × Int × List Int × Int × Int × Bool × List Int × ByteArray × Bool) :=(pr_num.f k aZ aY 1).bind fun aU => ((pr_commit.f k aU.2.1 aU.2.2).bind fun aH => ((pr_text.f k aH.2.2.1 aH.2.2.2).bind fun aB => ((pr_num.f k aB.2.1 aB.2.2 1).bind fun aq => (pr_request.l0 k (Int.tmod aq.1 10) aq.2.1 aq.2.2 (wrap64 (aU.1)) aH.1 aH.2.1 (strOfNums aB.1) ([] : List ByteArray) 0 0 0 false))))
theorem pr_request.mono_l : ∀ k,(∀ y0 y1 y2 y3 y4 y5 y6 y7 y8 y9 y10 y11,LeO (pr_request.l0 k y0 y1 y2 y3 y4 y5 y6 y7 y8 y9 y10 y11) (pr_request.l0 (k + 1) y0 y1 y2 y3 y4 y5 y6 y7 y8 y9 y10 y11))
 | 0 => fun _ _ _ _ _ _ _ _ _ _ _ _ r h => by simp [pr_request.l0] at h
 | k + 1 => by
  have ih0 :=pr_request.mono_l k
  ·intro y0 y1 y2 y3 y4 y5 y6 y7 y8 y9 y10 y11
   unfold pr_request.l0
   repeat' first
   | (with_reducible exact ih0 _ _ _ _ _ _ _ _ _ _ _ _)
   | (with_reducible exact pr_commit.mono _ _ _)
   | (with_reducible exact pr_num.mono _ _ _ _)
   | (with_reducible exact pr_text.mono _ _ _)
   | (with_reducible exact LeO.refl _)
   | (with_reducible exact LeO.none _)
   | (with_reducible refine LeO.ite ?_ ?_)
   | (with_reducible refine LeO.bind ?_ (fun _ => ?_))
   | exact ih0 _ _ _ _ _ _ _ _ _ _ _ _
   | exact pr_commit.mono _ _ _
   | exact pr_num.mono _ _ _ _
   | exact pr_text.mono _ _ _
   | exact LeO.none _
   | refine LeO.ite ?_ ?_
   | refine LeO.bind ?_ (fun _ => ?_)
theorem pr_request.mono : ∀ a0 a1 k,LeO (pr_request.f k a0 a1) (pr_request.f (k + 1) a0 a1) :=by
 intro a0 a1 k
 have ih0 :=pr_request.mono_l k
 unfold pr_request.f
 repeat' first
   | (with_reducible exact ih0 _ _ _ _ _ _ _ _ _ _ _ _)
   | (with_reducible exact pr_commit.mono _ _ _)
   | (with_reducible exact pr_num.mono _ _ _ _)
   | (with_reducible exact pr_text.mono _ _ _)
   | (with_reducible exact LeO.refl _)
   | (with_reducible exact LeO.none _)
   | (with_reducible refine LeO.ite ?_ ?_)
   | (with_reducible refine LeO.bind ?_ (fun _ => ?_))
   | exact ih0 _ _ _ _ _ _ _ _ _ _ _ _
   | exact pr_commit.mono _ _ _
   | exact pr_num.mono _ _ _ _
   | exact pr_text.mono _ _ _
   | exact LeO.none _
   | refine LeO.ite ?_ ?_
   | refine LeO.bind ?_ (fun _ => ?_)
def pr_request.T8 : Bool × List (List Nat × List Nat) :=(true,[([],[]),([0],[0]),([],[]),([2],[2]),([3],[3]),([4],[4]),([1,5,3],[1,5]),([0,1,2,3,4,5,6],[]),([7,6,6,0,1,2,3,4,5,6],[6,7])])
def pr_request.B8 : List Nat :=[0,1,0,4,12,28,63,127,255]
theorem pr_request.tab8 : rtab .any (opsOf Tryz.f14 8) = pr_request.T8 :=by kernel_rfl
theorem pr_request.bits8 : waitsOk pr_request.T8.2 pr_request.B8 = true :=by kernel_rfl
set_option maxHeartbeats 8000000 in
set_option maxRecDepth 100000 in
theorem pr_request.calls (k : Nat) (g : Nat) (aZ : ByteArray) (aY : Bool) (r1 : Int) (r2 : ByteArray) (r3 : List (S83)) (r4 : ByteArray) (r5 : List ByteArray) (r6 : Int) (r7 : List Int) (r8 : Int) (r9 : Int) (r10 : Bool) (r11 : List Int) (r12 : ByteArray) (r13 : Bool) (w0 w : World) (hI : I5 w0 w g aZ aY) (hB : Below w0.heap.size w0 w) (h : pr_request.f k aZ aY = some (r1,r2,r3,r4,r5,r6,r7,r8,r9,r10,r11,r12,r13)) :
  Calls Tryz.prog 14 #[.pointer (some ⟨g,0,none⟩)] w fun e w' => ∃ v2_ v4_ v6_ v10_ : Value,e = .returned (.agg #[.int .i64 r1,.string r2,v2_,.string r4,v4_,.int .i64 r6,v6_,.int .i64 r8,.int .i64 r9,.bool r10,v10_]) ∧ Kd.R k83 83 w' w.heap.size (fun k_ => some k_ ≠ (v6_ : Value).ownBlock ∧ some k_ ≠ (v10_ : Value).ownBlock) v2_ r3 ∧ Kd.R Kd.string 9 w' w.heap.size (fun _ => True) v4_ r5 ∧ Kd.R (Kd.int .u8) 5 w' w.heap.size (fun k_ => some k_ ≠ (v10_ : Value).ownBlock) v6_ r7 ∧ Kd.R (Kd.int .u8) 5 w' w.heap.size (fun k_ => some k_ ≠ (v6_ : Value).ownBlock) v10_ r11 ∧ I5 w0 w' g r12 r13 ∧ Below w0.heap.size w0 w' ∧ KB w w' g none :=by
 have hu46 :=Tryz.underlying46
 have hu43 :=Tryz.underlying43
 have HI0 :=AZ.mk hI
 have HK :=AZ.mk (KB.refl w g none)
 have HL :=AZ.mk hB.size
 clear hI
 have HW0 :=AZ.mk hB.size
 have HB :=AZ.mk hB
 clear hB
 have H : ((pr_num.f k aZ aY 1).bind fun aU => ((pr_commit.f k aU.2.1 aU.2.2).bind fun aH => ((pr_text.f k aH.2.2.1 aH.2.2.2).bind fun aB => ((pr_num.f k aB.2.1 aB.2.2 1).bind fun aq => (pr_request.l0 k (Int.tmod aq.1 10) aq.2.1 aq.2.2 (wrap64 (aU.1)) aH.1 aH.2.1 (strOfNums aB.1) ([] : List ByteArray) 0 0 0 false))))) = some (r1,r2,r3,r4,r5,r6,r7,r8,r9,r10,r11,r12,r13) :=h
 clear h
 replace H :=Option.bind_eq_some_iff.mp H
 obtain ⟨⟨aa,ct,cr⟩,eU,H⟩ :=H
 replace H : ((pr_commit.f k ct cr).bind fun aH => ((pr_text.f k aH.2.2.1 aH.2.2.2).bind fun aB => ((pr_num.f k aB.2.1 aB.2.2 1).bind fun aq => (pr_request.l0 k (Int.tmod aq.1 10) aq.2.1 aq.2.2 (wrap64 (aa)) aH.1 aH.2.1 (strOfNums aB.1) ([] : List ByteArray) 0 0 0 false)))) = some (r1,r2,r3,r4,r5,r6,r7,r8,r9,r10,r11,r12,r13) :=H
 have A2 :=AZ.mk eU
 clear eU
 replace H :=Option.bind_eq_some_iff.mp H
 obtain ⟨⟨ab,a9,bx,bw⟩,eN,H⟩ :=H
 replace H : ((pr_text.f k bx bw).bind fun aB => ((pr_num.f k aB.2.1 aB.2.2 1).bind fun aq => (pr_request.l0 k (Int.tmod aq.1 10) aq.2.1 aq.2.2 (wrap64 (aa)) ab a9 (strOfNums aB.1) ([] : List ByteArray) 0 0 0 false))) = some (r1,r2,r3,r4,r5,r6,r7,r8,r9,r10,r11,r12,r13) :=H
 have A3 :=AZ.mk eN
 clear eN
 replace H :=Option.bind_eq_some_iff.mp H
 obtain ⟨⟨ac,bj,bi⟩,eT,H⟩ :=H
 replace H : ((pr_num.f k bj bi 1).bind fun aq => (pr_request.l0 k (Int.tmod aq.1 10) aq.2.1 aq.2.2 (wrap64 (aa)) ab a9 (strOfNums ac) ([] : List ByteArray) 0 0 0 false)) = some (r1,r2,r3,r4,r5,r6,r7,r8,r9,r10,r11,r12,r13) :=H
 have A4 :=AZ.mk eT
 clear eT
 replace H :=Option.bind_eq_some_iff.mp H
 obtain ⟨⟨cq,cp,co⟩,eS,H⟩ :=H
 replace H : (pr_request.l0 k (Int.tmod cq 10) cp co (wrap64 (aa)) ab a9 (strOfNums ac) ([] : List ByteArray) 0 0 0 false) = some (r1,r2,r3,r4,r5,r6,r7,r8,r9,r10,r11,r12,r13) :=H
 have A5 :=AZ.mk eS
 clear eS
 have H' :=AZ.mk H
 clear H
 go_enter Tryz.func14,Tryz.ntmps14
 go_wp2_with (first | ((with_reducible refine gate_dst (N :=2) rfl ?_);refine box_event ?hg (N :=2) ?hd (cs :=#[.int .i64 0,.string ⟨#[]⟩,.slice none 0 0,.string ⟨#[]⟩,.slice none 0 0,.int .i64 0,.slice none 0 0,.int .i64 0,.int .i64 0,.bool false,.slice none 0 0]) (t :=46) ?hr ?_;(case hd => rfl);(case hg => rfl);(case hr => first | (go_simp;done) | (go_simp;rfl));intro a3 hg w6 hbox hb;have aG :=AZ.mk (I5.below (by repeat (first | (with_reducible first | exact HI0.out | apply I5.alloc | apply I5.drewN | apply I5.drew | apply I5.set_0 | apply I5.set_1) | exact HI0.out)) hb);have aE :=AZ.mk (KB.trans (by repeat (first | (with_reducible first | exact HK.out | apply KB.set_ | apply kpN | apply keep_drew | apply keep_alloc) | exact HK.out)) (KB.of_below hb g none) (.inl rfl));have aD :=AZ.mk (below_step (by repeat (first | (with_reducible first | exact HB.out | apply bwa | apply pwN | apply bw1 | refine bws ?_ (I5.ge HI0.out)) | exact HB.out)) hb);have aC :=AZ.mk (hbox);have aI :=AZ.mk ((by rw [hg];exact (keep_size (w :=w) (g :=g) (row :=none) (by repeat (first | (with_reducible first | exact HK.out | apply KB.set_ | apply kpN | apply keep_drew | apply keep_alloc) | exact HK.out))) : w.heap.size ≤ a3));have aM :=AZ.mk ((Nat.le_trans HW0.out (by rw [hg];exact (keep_size (w :=w) (g :=g) (row :=none) (by repeat (first | (with_reducible first | exact HK.out | apply KB.set_ | apply kpN | apply keep_drew | apply keep_alloc) | exact HK.out))) : w.heap.size ≤ a3) : w0.heap.size ≤ a3));have aQ :=AZ.mk ((by rw [hg];exact Nat.ne_of_lt (I5.lt (show I5 w0 _ g aZ aY from by repeat (first | (with_reducible first | exact HI0.out | apply I5.alloc | apply I5.drewN | apply I5.drew | apply I5.set_0 | apply I5.set_1) | exact HI0.out))) : g ≠ a3));have ck :=AZ.mk ((by rw [hg];exact Nat.ne_of_gt (I5.lt (show I5 w0 _ g aZ aY from by repeat (first | (with_reducible first | exact HI0.out | apply I5.alloc | apply I5.drewN | apply I5.drew | apply I5.set_0 | apply I5.set_1) | exact HI0.out))) : a3 ≠ g));clear HI0;clear HK;clear HB;have HI0 :=aG;have HK :=aE;have HB :=aD;have a2 :=aC;have al :=aI;have ax :=aM;have a7 :=aQ;have ak :=ck;clear aG aE aD aC aI aM aQ ck;clear hb hbox hg) | ((with_reducible refine gate_clos rfl ?_);refine goesLC_ (some 11) rfl rfl Tryz.func13 (by kernel_rfl) rfl #[.pointer (some ⟨g,0,none⟩),.int .i64 1] rfl rfl (by (try simp only [List.map_toArray,List.map_cons,List.map_nil]);first | done | rfl | (simp only [List.length_drop,List.length_take];rfl)) ?_;(with_reducible refine (pr_num.calls k g aZ aY 1 aa ct cr w0 _ ?side1 ?side2 A2.out).mono ?_);(case side1 => repeat (first | (with_reducible first | exact HI0.out | apply I5.alloc | apply I5.drewN | apply I5.drew | apply I5.set_0 | apply I5.set_1 | refine I5.far ?_ a7.out _) | exact HI0.out));(case side2 => repeat (first | (with_reducible first | exact HB.out | apply bwa | apply pwN | apply bw1 | refine bws ?_ (I5.ge HI0.out) | refine bws ?_ ax.out) | exact HB.out));rintro e w7 ⟨rfl,hi,hb,hk⟩;refine ⟨_,rfl,?_⟩;have aG :=AZ.mk (KB.blk hk (g' :=a3) (o :=.cells #[.int .i64 0,.string ⟨#[]⟩,.slice none 0 0,.string ⟨#[]⟩,.slice none 0 0,.int .i64 0,.slice none 0 0,.int .i64 0,.int .i64 0,.bool false,.slice none 0 0] 46 (0,0)) (by (with_reducible repeat (first | apply bkN | apply bkd | apply bka));exact a2.out) ak.out (by simp));have aE :=AZ.mk (KB.trans (by repeat (first | (with_reducible first | exact HK.out | apply KB.set_ | apply kpN | apply keep_drew | apply keep_alloc | refine keep_far ?_ al.out _) | exact HK.out)) hk (.inl rfl));have aD :=AZ.mk (hb);have aC :=AZ.mk (hi);clear a2;clear HK;clear HB;clear HI0;have a2 :=aG;have HK :=aE;have HB :=aD;have HI0 :=aC;clear aG aE aD aC;(try clear hb);(try clear hb2);(try clear hk);(try clear hi);have hnb8 :=ak.out;have hnc8 :=a7.out;have cN : w7.cell? ⟨a3,0,none⟩ = some (.int .i64 0) :=(bkc a2.out 0).trans rfl;have cM : w7.cell? ⟨a3,1,none⟩ = some (.string ⟨#[]⟩) :=(bkc a2.out 1).trans rfl;have cL : w7.cell? ⟨a3,2,none⟩ = some (.slice none 0 0) :=(bkc a2.out 2).trans rfl;have cK : w7.cell? ⟨a3,3,none⟩ = some (.string ⟨#[]⟩) :=(bkc a2.out 3).trans rfl;have cJ : w7.cell? ⟨a3,4,none⟩ = some (.slice none 0 0) :=(bkc a2.out 4).trans rfl;have cI : w7.cell? ⟨a3,5,none⟩ = some (.int .i64 0) :=(bkc a2.out 5).trans rfl;have cH : w7.cell? ⟨a3,6,none⟩ = some (.slice none 0 0) :=(bkc a2.out 6).trans rfl;have cG : w7.cell? ⟨a3,7,none⟩ = some (.int .i64 0) :=(bkc a2.out 7).trans rfl;have cF : w7.cell? ⟨a3,8,none⟩ = some (.int .i64 0) :=(bkc a2.out 8).trans rfl;have cE : w7.cell? ⟨a3,9,none⟩ = some (.bool false) :=(bkc a2.out 9).trans rfl;have bU : w7.cell? ⟨a3,10,none⟩ = some (.slice none 0 0) :=(bkc a2.out 10).trans rfl;have cD :=bkz a2.out 0;have cC :=bkz a2.out 1;have cB :=bkz a2.out 2;have cA :=bkz a2.out 3;have cz :=bkz a2.out 4;have cy :=bkz a2.out 5;have cx :=bkz a2.out 6;have cw :=bkz a2.out 7;have cv :=bkz a2.out 8;have cu :=bkz a2.out 9;have bz :=bkz a2.out 10) | ((with_reducible refine gate_callee (f :=26) rfl ?_);refine goesL_ (some 15) rfl rfl Tryz.func26 (by kernel_rfl) rfl #[.pointer (some ⟨g,0,none⟩)] rfl (by (try simp only [List.map_toArray,List.map_cons,List.map_nil]);first | done | rfl | (simp only [List.length_drop,List.length_take];rfl)) ?_;(with_reducible refine (pr_commit.calls k g ct cr ab a9 bx bw w0 _ ?side1 ?side2 A3.out).mono ?_);(case side1 => repeat (first | (with_reducible first | exact HI0.out | apply I5.alloc | apply I5.drewN | apply I5.drew | apply I5.set_0 | apply I5.set_1 | refine I5.far ?_ a7.out _) | exact HI0.out));(case side2 => repeat (first | (with_reducible first | exact HB.out | apply bwa | apply pwN | apply bw1 | refine bws ?_ (I5.ge HI0.out) | refine bws ?_ ax.out) | exact HB.out));rintro e w10 ⟨v158,rfl,aX,hi,hb,hk⟩;refine ⟨_,rfl,?_⟩;have aG :=AZ.mk (KB.blk hk (g' :=a3) (o :=.cells #[.int .i64 (wrap64 (aa)),.string ⟨#[]⟩,.slice none 0 0,.string ⟨#[]⟩,.slice none 0 0,.int .i64 0,.slice none 0 0,.int .i64 0,.int .i64 0,.bool false,.slice none 0 0] 46 (0,0)) (by (with_reducible repeat (first | apply bkN | apply bkd | apply bka));refine blk_put (cs :=#[.int .i64 0,.string ⟨#[]⟩,.slice none 0 0,.string ⟨#[]⟩,.slice none 0 0,.int .i64 0,.slice none 0 0,.int .i64 0,.int .i64 0,.bool false,.slice none 0 0]) ?_ 0 _ rfl;(with_reducible repeat (first | apply bkN | apply bkd | apply bka));exact a2.out) ak.out (by simp));have aE :=AZ.mk (Kd.R_lower aX (keep_size (w :=w) (g :=g) (row :=none) (by repeat (first | (with_reducible first | exact HK.out | apply KB.set_ | apply kpN | apply keep_drew | apply keep_alloc | refine keep_far ?_ al.out _) | exact HK.out))));have aD :=AZ.mk (KB.trans (by repeat (first | (with_reducible first | exact HK.out | apply KB.set_ | apply kpN | apply keep_drew | apply keep_alloc | refine keep_far ?_ al.out _) | exact HK.out)) hk (.inl rfl));have aC :=AZ.mk (hb);have aI :=AZ.mk (hi);clear a2;clear HK;clear HB;clear HI0;have a2 :=aG;have aR :=aE;have HK :=aD;have HB :=aC;have HI0 :=aI;clear aG aE aD aC aI;(try clear hb);(try clear hb2);(try clear hk);(try clear hi);(try clear aX);have ch : w10.cell? ⟨a3,0,none⟩ = some (.int .i64 (wrap64 (aa))) :=(bkc a2.out 0).trans rfl;have cg : w10.cell? ⟨a3,1,none⟩ = some (.string ⟨#[]⟩) :=(bkc a2.out 1).trans rfl;have cf : w10.cell? ⟨a3,2,none⟩ = some (.slice none 0 0) :=(bkc a2.out 2).trans rfl;have ce : w10.cell? ⟨a3,3,none⟩ = some (.string ⟨#[]⟩) :=(bkc a2.out 3).trans rfl;have cd : w10.cell? ⟨a3,4,none⟩ = some (.slice none 0 0) :=(bkc a2.out 4).trans rfl;have cc : w10.cell? ⟨a3,5,none⟩ = some (.int .i64 0) :=(bkc a2.out 5).trans rfl;have cb : w10.cell? ⟨a3,6,none⟩ = some (.slice none 0 0) :=(bkc a2.out 6).trans rfl;have ca : w10.cell? ⟨a3,7,none⟩ = some (.int .i64 0) :=(bkc a2.out 7).trans rfl;have c9 : w10.cell? ⟨a3,8,none⟩ = some (.int .i64 0) :=(bkc a2.out 8).trans rfl;have c7 : w10.cell? ⟨a3,9,none⟩ = some (.bool false) :=(bkc a2.out 9).trans rfl;have bn : w10.cell? ⟨a3,10,none⟩ = some (.slice none 0 0) :=(bkc a2.out 10).trans rfl;have bT :=bkz a2.out 0;have bS :=bkz a2.out 1;have bR :=bkz a2.out 2;have bQ :=bkz a2.out 3;have bP :=bkz a2.out 4;have bO :=bkz a2.out 5;have bN :=bkz a2.out 6;have bM :=bkz a2.out 7;have bL :=bkz a2.out 8;have bK :=bkz a2.out 9;have bl :=bkz a2.out 10;obtain ⟨ae,ad,eR⟩ :=Kd.R_slice aR.out;subst eR) | ((with_reducible refine gate_clos rfl ?_);refine goesLC_ (some 18) rfl rfl Tryz.func15 (by kernel_rfl) rfl #[.pointer (some ⟨g,0,none⟩)] rfl rfl (by (try simp only [List.map_toArray,List.map_cons,List.map_nil]);first | done | rfl | (simp only [List.length_drop,List.length_take];rfl)) ?_;(with_reducible refine (pr_text.calls k g bx bw ac bj bi w0 _ ?side1 ?side2 A4.out).mono ?_);(case side1 => repeat (first | (with_reducible first | exact HI0.out | apply I5.alloc | apply I5.drewN | apply I5.drew | apply I5.set_0 | apply I5.set_1 | refine I5.far ?_ a7.out _) | exact HI0.out));(case side2 => repeat (first | (with_reducible first | exact HB.out | apply bwa | apply pwN | apply bw1 | refine bws ?_ (I5.ge HI0.out) | refine bws ?_ ax.out) | exact HB.out));rintro e w13 ⟨v163,rfl,aX,hi,hb,hk⟩;refine ⟨_,rfl,?_⟩;have aG :=AZ.mk (KB.blk hk (g' :=a3) (o :=.cells #[.int .i64 (wrap64 (aa)),.string ab,.slice ae a9.length ad,.string ⟨#[]⟩,.slice none 0 0,.int .i64 0,.slice none 0 0,.int .i64 0,.int .i64 0,.bool false,.slice none 0 0] 46 (0,0)) (by (with_reducible repeat (first | apply bkN | apply bkd | apply bka));refine blk_put (cs :=#[.int .i64 (wrap64 (aa)),.string ab,.slice none 0 0,.string ⟨#[]⟩,.slice none 0 0,.int .i64 0,.slice none 0 0,.int .i64 0,.int .i64 0,.bool false,.slice none 0 0]) ?_ 2 _ rfl;(with_reducible repeat (first | apply bkN | apply bkd | apply bka));refine blk_put (cs :=#[.int .i64 (wrap64 (aa)),.string ⟨#[]⟩,.slice none 0 0,.string ⟨#[]⟩,.slice none 0 0,.int .i64 0,.slice none 0 0,.int .i64 0,.int .i64 0,.bool false,.slice none 0 0]) ?_ 1 _ rfl;(with_reducible repeat (first | apply bkN | apply bkd | apply bka));exact a2.out) ak.out (by simp));have aE :=AZ.mk (Kd.R_mono (Kd.R_told (Kd.R_oldK (I5.apart (show I5 w0 _ g bx bw from by repeat (first | (with_reducible first | exact HI0.out | apply I5.alloc | apply I5.drewN | apply I5.drew | apply I5.set_0 | apply I5.set_1 | refine I5.far ?_ a7.out _) | exact HI0.out)) (by (with_reducible repeat (first | apply Kd.R_alloc | apply Kd.R_drewN | apply Kd.R_drew));exact (Kd.R_mono (Kd.R_far (p :=⟨a3,2,none⟩) (Kd.R_far (p :=⟨a3,1,none⟩) (Kd.R_types aR.out a2.out (by decide)) (fun _ hk => hk.2) (.string ab)) (fun _ hk => hk.2) (.slice ae a9.length ad)) (fun _ h_ => h_.1))) (by decide)) hk) (Kd.R_base aX)) (fun _ h_ => h_.1));have aD :=AZ.mk (Kd.R_lower aX (keep_size (w :=w) (g :=g) (row :=none) (by repeat (first | (with_reducible first | exact HK.out | apply KB.set_ | apply kpN | apply keep_drew | apply keep_alloc | refine keep_far ?_ al.out _) | exact HK.out))));have aC :=AZ.mk (KB.trans (by repeat (first | (with_reducible first | exact HK.out | apply KB.set_ | apply kpN | apply keep_drew | apply keep_alloc | refine keep_far ?_ al.out _) | exact HK.out)) hk (.inl rfl));have aI :=AZ.mk (hb);have aM :=AZ.mk (hi);clear a2;clear aR;clear HK;clear HB;clear HI0;have a2 :=aG;have aR :=aE;have b6 :=aD;have HK :=aC;have HB :=aI;have HI0 :=aM;clear aG aE aD aC aI aM;(try clear hb);(try clear hb2);(try clear hk);(try clear hi);(try clear aX);have hcv14 :=own_string (P :=Tryz.prog) Tryz.underlying22 Tryz.underlying5 Tryz.underlying9 (Kd.own_of_R b6.out);have c6 : w13.cell? ⟨a3,0,none⟩ = some (.int .i64 (wrap64 (aa))) :=(bkc a2.out 0).trans rfl;have c5 : w13.cell? ⟨a3,1,none⟩ = some (.string ab) :=(bkc a2.out 1).trans rfl;have c4 : w13.cell? ⟨a3,2,none⟩ = some (.slice ae a9.length ad) :=(bkc a2.out 2).trans rfl;have c3 : w13.cell? ⟨a3,3,none⟩ = some (.string ⟨#[]⟩) :=(bkc a2.out 3).trans rfl;have c0 : w13.cell? ⟨a3,4,none⟩ = some (.slice none 0 0) :=(bkc a2.out 4).trans rfl;have bZ : w13.cell? ⟨a3,5,none⟩ = some (.int .i64 0) :=(bkc a2.out 5).trans rfl;have bY : w13.cell? ⟨a3,6,none⟩ = some (.slice none 0 0) :=(bkc a2.out 6).trans rfl;have bX : w13.cell? ⟨a3,7,none⟩ = some (.int .i64 0) :=(bkc a2.out 7).trans rfl;have bW : w13.cell? ⟨a3,8,none⟩ = some (.int .i64 0) :=(bkc a2.out 8).trans rfl;have bV : w13.cell? ⟨a3,9,none⟩ = some (.bool false) :=(bkc a2.out 9).trans rfl;have bm : w13.cell? ⟨a3,10,none⟩ = some (.slice none 0 0) :=(bkc a2.out 10).trans rfl;have bJ :=bkz a2.out 0;have bI :=bkz a2.out 1;have bH :=bkz a2.out 2;have bG :=bkz a2.out 3;have bF :=bkz a2.out 4;have bE :=bkz a2.out 5;have bD :=bkz a2.out 6;have bC :=bkz a2.out 7;have bB :=bkz a2.out 8;have bA :=bkz a2.out 9;have bk :=bkz a2.out 10) | ((with_reducible refine gate_clos rfl ?_);refine goesLC_ (some 22) rfl rfl Tryz.func13 (by kernel_rfl) rfl #[.pointer (some ⟨g,0,none⟩),.int .i64 1] rfl rfl (by (try simp only [List.map_toArray,List.map_cons,List.map_nil]);first | done | rfl | (simp only [List.length_drop,List.length_take];rfl)) ?_;(with_reducible refine (pr_num.calls k g bj bi 1 cq cp co w0 _ ?side1 ?side2 A5.out).mono ?_);(case side1 => repeat (first | (with_reducible first | exact HI0.out | apply I5.alloc | apply I5.drewN | apply I5.drew | apply I5.set_0 | apply I5.set_1 | refine I5.far ?_ a7.out _) | exact HI0.out));(case side2 => repeat (first | (with_reducible first | exact HB.out | apply bwa | apply pwN | apply bw1 | refine bws ?_ (I5.ge HI0.out) | refine bws ?_ ax.out) | exact HB.out));rintro e w16 ⟨rfl,hi,hb,hk⟩;refine ⟨_,rfl,?_⟩;have aG :=AZ.mk (KB.blk hk (g' :=a3) (o :=.cells #[.int .i64 (wrap64 (aa)),.string ab,.slice ae a9.length ad,.string (strOfNums ac),.slice none 0 0,.int .i64 0,.slice none 0 0,.int .i64 0,.int .i64 0,.bool false,.slice none 0 0] 46 (0,0)) (by (with_reducible repeat (first | apply bkN | apply bkd | apply bka));refine blk_put (cs :=#[.int .i64 (wrap64 (aa)),.string ab,.slice ae a9.length ad,.string ⟨#[]⟩,.slice none 0 0,.int .i64 0,.slice none 0 0,.int .i64 0,.int .i64 0,.bool false,.slice none 0 0]) ?_ 3 _ rfl;(with_reducible repeat (first | apply bkN | apply bkd | apply bka));exact a2.out) ak.out (by simp));have aE :=AZ.mk (Kd.R_mono (Kd.R_keep (I5.apart (show I5 w0 _ g bj bi from by repeat (first | (with_reducible first | exact HI0.out | apply I5.alloc | apply I5.drewN | apply I5.drew | apply I5.set_0 | apply I5.set_1 | refine I5.far ?_ a7.out _) | exact HI0.out)) (by (with_reducible repeat (first | apply Kd.R_alloc | apply Kd.R_drewN | apply Kd.R_drew));exact (Kd.R_mono (Kd.R_far (p :=⟨a3,3,none⟩) (Kd.R_types aR.out a2.out (by decide)) (fun _ hk => hk.2) (.string (strOfNums ac))) (fun _ h_ => h_.1))) (by decide)) hk (fun _ h => h.2)) (fun _ h => h.1));have aD :=AZ.mk (Kd.R_mono (Kd.R_keep (I5.apart (show I5 w0 _ g bj bi from by repeat (first | (with_reducible first | exact HI0.out | apply I5.alloc | apply I5.drewN | apply I5.drew | apply I5.set_0 | apply I5.set_1 | refine I5.far ?_ a7.out _) | exact HI0.out)) (by (with_reducible repeat (first | apply Kd.R_alloc | apply Kd.R_drewN | apply Kd.R_drew));exact (Kd.R_mono (Kd.R_far (p :=⟨a3,3,none⟩) (Kd.R_types b6.out a2.out (by decide)) (fun _ hk => hk.2) (.string (strOfNums ac))) (fun _ h_ => h_.1))) (by decide)) hk (fun _ h => h.2)) (fun _ h => h.1));have aC :=AZ.mk (KB.trans (by repeat (first | (with_reducible first | exact HK.out | apply KB.set_ | apply kpN | apply keep_drew | apply keep_alloc | refine keep_far ?_ al.out _) | exact HK.out)) hk (.inl rfl));have aI :=AZ.mk (hb);have aM :=AZ.mk (hi);clear a2;clear aR;clear b6;clear HK;clear HB;clear HI0;have a2 :=aG;have aR :=aE;have b6 :=aD;have HK :=aC;have HB :=aI;have HI0 :=aM;clear aG aE aD aC aI aM;(try clear hb);(try clear hb2);(try clear hk);(try clear hi)))
 go_loopg [5] k (fun kq v5 w' => ∃ (aV : Int) (az : ByteArray) (ay : Bool) (a5 : List ByteArray) (a8 : Value),v5 = .int .u64 aV ∧ AZ (pr_request.l0 kq aV az ay (wrap64 (aa)) ab a9 (strOfNums ac) a5 0 0 0 false = some (r1,r2,r3,r4,r5,r6,r7,r8,r9,r10,r11,r12,r13)) ∧ AZ (kq ≤ k) ∧ AZ (Kd.R k83 83 w' w.heap.size (fun _ => True) (.slice ae a9.length ad) a9) ∧ AZ (Kd.R Kd.string 9 w' w.heap.size (fun _ => True) a8 a5) ∧ AZ (w'.heap[a3]? = some (.cells #[.int .i64 (wrap64 (aa)),.string ab,(.slice ae a9.length ad),.string (strOfNums ac),a8,.int .i64 0,(.slice none 0 0),.int .i64 0,.int .i64 0,.bool false,(.slice none 0 0)] 46 (0,0))) ∧ AZ (I5 w0 w' g az ay) ∧ AZ (KB w w' g none) ∧ AZ (Below w0.heap.size w0 w'))
 case atStart => exact ⟨(Int.tmod cq 10),(cp),(co),(([] : List ByteArray)),(.slice none 0 0),(by first | rfl | (simp;done) | (simp [*];done)),H',⟨Nat.le_refl _⟩,⟨by (with_reducible repeat (first | apply Kd.R_alloc | apply Kd.R_drewN | apply Kd.R_drew));exact Kd.R_mono aR.out (fun _ hk => trivial)⟩,⟨by first | exact Kd.R_nil _ _ _ _ _ | exact Kd.N_nil _ _ _ _ _ | exact Kd.V_nil _ _ _ _ _ | exact Kd.Q_nil _ _ _ _ _ | exact Kd.S_nil _ _ _ _ _⟩,⟨by (with_reducible repeat (first | apply bkN | apply bkd | apply bka));exact a2.out⟩,⟨by repeat (first | (with_reducible first | exact HI0.out | apply I5.alloc | apply I5.drewN | apply I5.drew | apply I5.set_0 | apply I5.set_1 | refine I5.far ?_ a7.out _) | exact HI0.out)⟩,⟨by repeat (first | (with_reducible first | exact HK.out | apply KB.set_ | apply kpN | apply keep_drew | apply keep_alloc | refine keep_far ?_ al.out _) | exact HK.out)⟩,⟨by repeat (first | (with_reducible first | exact HB.out | apply bwa | apply pwN | apply bw1 | refine bws ?_ (I5.ge HI0.out) | refine bws ?_ ax.out) | exact HB.out)⟩⟩
 case round =>
  clear H'
  try clear c1
  try clear hcv1
  try clear c2
  try clear p2
  try clear p6
  try clear c8
  try clear c13
  try clear c14
  try clear hcv14
  try clear c15
  try clear ch
  try clear cg
  try clear bn
  try clear cf
  try clear ce
  try clear cd
  try clear cc
  try clear cb
  try clear ca
  try clear c9
  try clear c7
  try clear c6
  try clear c5
  try clear bm
  try clear c4
  try clear c3
  try clear c0
  try clear bZ
  try clear bY
  try clear bX
  try clear bW
  try clear bV
  try clear cN
  try clear cM
  try clear bU
  try clear cL
  try clear cK
  try clear cJ
  try clear cI
  try clear cH
  try clear cG
  try clear cF
  try clear cE
  try clear bT
  try clear bS
  try clear bl
  try clear bR
  try clear bQ
  try clear bP
  try clear bO
  try clear bN
  try clear bM
  try clear bL
  try clear bK
  try clear bJ
  try clear bI
  try clear bk
  try clear bH
  try clear bG
  try clear bF
  try clear bE
  try clear bD
  try clear bC
  try clear bB
  try clear bA
  try clear cD
  try clear cC
  try clear bz
  try clear cB
  try clear cA
  try clear cz
  try clear cy
  try clear cx
  try clear cw
  try clear cv
  try clear cu
  obtain ⟨aV,az,ay,a5,a8,rfl,HA,HK1,a6,a4,a2,HI0,HK,HB⟩ :=hrel
  cases gk with
  | zero => exact absurd HA.out (by simp [pr_request.l0])
  | succ k1 =>
   have H :=HA.out
   clear HA
   simp only [pr_request.l0] at H
   by_cases c17 : aV > 0
   ·rw [if_pos c17] at H
    have d1 : decide (0 < aV) = true :=decide_eq_true c17
    clear c17
    replace H :=Option.bind_eq_some_iff.mp H
    obtain ⟨⟨bh,bv,bu⟩,d8,H⟩ :=H
    replace H : (if a5.length < 8796093022208 then (pr_request.l0 k1 (IntKind.u64.wrap (aV - 1)) bv bu (wrap64 (aa)) ab a9 (strOfNums ac) (a5 ++ [strOfNums bh]) 0 0 0 false) else (none)) = some (r1,r2,r3,r4,r5,r6,r7,r8,r9,r10,r11,r12,r13) :=H
    have A18 :=AZ.mk d8
    clear d8
    by_cases c19 : a5.length < 8796093022208
    ·rw [if_pos c19] at H
     have LMc19 :=AZ.mk c19
     clear c19
     obtain ⟨y175,hy175⟩ : ∃ y_ : List ByteArray,y_ = (a5 ++ [strOfNums bh]) :=⟨_,rfl⟩
     replace H : (pr_request.l0 k1 (IntKind.u64.wrap (aV - 1)) bv bu (wrap64 (aa)) ab a9 (strOfNums ac) y175 0 0 0 false) = some (r1,r2,r3,r4,r5,r6,r7,r8,r9,r10,r11,r12,r13) :=by first | (rw [hy175];with_reducible exact H) | (have H2_ :=(Option.bind_some _ _).symm.trans H;rw [hy175];with_reducible exact H2_) | (have H2_ :=(Option.bind_some _ _).symm.trans H;with_reducible exact H2_) | with_reducible exact H | (rw [hy175];exact H) | exact H
     have Ny175 :=AZ.mk hy175
     clear hy175
     have H' :=AZ.mk H
     clear H
     try go_wp2
     have aG :=AZ.mk (Kd.R_drew a6.out)
     have aE :=AZ.mk (Kd.R_drew a4.out)
     have aD :=AZ.mk (bkd a2.out)
     have aC :=AZ.mk (I5.drew HI0.out)
     have aI :=AZ.mk (keep_drew HK.out)
     have aM :=AZ.mk (bw1 HB.out)
     clear a6
     clear a4
     clear a2
     clear HI0
     clear HK
     clear HB
     have a6 :=aG
     have a4 :=aE
     have a2 :=aD
     have HI0 :=aC
     have HK :=aI
     have HB :=aM
     clear aG aE aD aC aI aM
     refine start_ (n :=9) (S :=fun w' => w'.cell? ⟨a3,0,none⟩ = some (.int .i64 (wrap64 (aa))) ∧ w'.cell? ⟨a3,1,none⟩ = some (.string ab) ∧ w'.cell? ⟨a3,2,none⟩ = some (.slice ae a9.length ad) ∧ w'.cell? ⟨a3,3,none⟩ = some (.string (strOfNums ac)) ∧ w'.cell? ⟨a3,4,none⟩ = some (a8) ∧ w'.cell? ⟨a3,5,none⟩ = some (.int .i64 0) ∧ w'.cell? ⟨a3,6,none⟩ = some (.slice none 0 0) ∧ w'.cell? ⟨a3,7,none⟩ = some (.int .i64 0) ∧ w'.cell? ⟨a3,8,none⟩ = some (.int .i64 0) ∧ w'.cell? ⟨a3,9,none⟩ = some (.bool false) ∧ w'.cell? ⟨a3,10,none⟩ = some (.slice none 0 0)) (ds :=[8]) #[false,false,false,false,false,false,false,false,false] (by kernel_rfl) rfl rfl ⟨(bkc a2.out 0).trans rfl,(bkc a2.out 1).trans rfl,(bkc a2.out 2).trans rfl,(bkc a2.out 3).trans rfl,(bkc a2.out 4).trans rfl,(bkc a2.out 5).trans rfl,(bkc a2.out 6).trans rfl,(bkc a2.out 7).trans rfl,(bkc a2.out 8).trans rfl,(bkc a2.out 9).trans rfl,(bkc a2.out 10).trans rfl⟩ (fun hHeld => ?_);refine with_tabW pr_request.tab8 pr_request.bits8 (fun HT_ HW_ => ?_)
     generalize wr.drew = w20 at a6 a4 a2 HI0 HK HB hHeld ⊢
     refine pure_ (i :=0) (N :=some 28) (v :=?_) (a' :=?_) #[true,false,false,false,false,false,false,false,false] rfl rfl (any_of HT_.out (by kernel_rfl)) (fun _ _ _ h => h) (Or.inl ⟨by rfl,?_⟩) ?_ ?_
     rotate_left
     ·intro w'
      go_simp
      with_reducible rfl
     rotate_left
     ·simp only [Act.put,List.setIfInBounds_toArray,List.set_cons_zero,List.set_cons_succ,i64_w,i32_w]
      rfl
     refine pure_ (i :=2) (N :=some 30) (v :=?_) (a' :=?_) #[true,false,true,false,false,false,false,false,false] rfl rfl (any_of HT_.out (by kernel_rfl)) (fun _ _ _ h => h) (Or.inl ⟨by rfl,?_⟩) ?_ ?_
     rotate_left
     ·intro w'
      go_simp
      with_reducible rfl
     rotate_left
     ·simp only [Act.put,List.setIfInBounds_toArray,List.set_cons_zero,List.set_cons_succ,i64_w,i32_w]
      rfl
     refine take_ (i :=1) (N :=some 29) (v :=?_) (a' :=?_) #[true,true,true,false,false,false,false,false,false] rfl rfl (take_ofW HT_.out HW_.out (by kernel_rfl)) (fun _ _ _ h => h) (Or.inl ⟨by rfl,?_⟩) hHeld ?_ ?_
     rotate_left
     ·rintro w' ⟨s0,s1,s2,s3,s4,s5,s6,s7,s8,s9,s10⟩
      go_simp
      with_reducible rfl
     rotate_left
     ·simp only [Act.put,List.setIfInBounds_toArray,List.set_cons_zero,List.set_cons_succ,i64_w,i32_w]
      rfl
     refine one_ (i :=3) (N :=some 31) #[true,true,true,true,false,false,false,false,false] rfl rfl (one_of HT_.out (by kernel_rfl)) (by decide) (fun K hK => ?_)
     refine goesC_ Tryz.func15 (by kernel_rfl) rfl #[.pointer (some ⟨g,0,none⟩)] (by rfl) rfl rfl rfl (by (try simp only [List.map_toArray,List.map_cons,List.map_nil]);first | done | rfl | (simp only [List.length_drop,List.length_take];rfl)) ?_
     with_reducible refine (pr_text.calls k1 g az ay bh bv bu w0 _ ?side1 ?side2 A18.out).mono ?_
     (case side1 => repeat (first | (with_reducible first | exact HI0.out | apply I5.alloc | apply I5.drewN | apply I5.drew | apply I5.set_0 | apply I5.set_1 | refine I5.far ?_ a7.out _) | exact HI0.out))
     (case side2 => repeat (first | (with_reducible first | exact HB.out | apply bwa | apply pwN | apply bw1 | refine bws ?_ (I5.ge HI0.out) | refine bws ?_ ax.out) | exact HB.out))
     rintro e w21 ⟨v171,rfl,aX,hi,hb,hk⟩
     refine ⟨_,rfl,?_⟩
     have aG :=AZ.mk (Kd.R_mono (Kd.R_told (Kd.R_oldK (I5.apart (show I5 w0 _ g az ay from by repeat (first | (with_reducible first | exact HI0.out | apply I5.alloc | apply I5.drewN | apply I5.drew | apply I5.set_0 | apply I5.set_1 | refine I5.far ?_ a7.out _) | exact HI0.out)) (by (with_reducible repeat (first | apply Kd.R_alloc | apply Kd.R_drewN | apply Kd.R_drew));exact a6.out) (by decide)) hk) (Kd.R_base aX)) (fun _ h_ => h_.1))
     have aE :=AZ.mk (Kd.R_mono (Kd.R_keep (I5.apart (show I5 w0 _ g az ay from by repeat (first | (with_reducible first | exact HI0.out | apply I5.alloc | apply I5.drewN | apply I5.drew | apply I5.set_0 | apply I5.set_1 | refine I5.far ?_ a7.out _) | exact HI0.out)) (by (with_reducible repeat (first | apply Kd.R_alloc | apply Kd.R_drewN | apply Kd.R_drew));exact a4.out) (by decide)) hk (fun _ h => h.2)) (fun _ h => h.1))
     have aD :=AZ.mk (KB.blk hk (g' :=a3) (o :=.cells #[.int .i64 (wrap64 (aa)),.string ab,.slice ae a9.length ad,.string (strOfNums ac),a8,.int .i64 0,.slice none 0 0,.int .i64 0,.int .i64 0,.bool false,.slice none 0 0] 46 (0,0)) (by (with_reducible repeat (first | apply bkN | apply bkd | apply bka));exact a2.out) ak.out (by simp))
     have aC :=AZ.mk (Kd.R_lower aX (keep_size (w :=w) (g :=g) (row :=none) (by repeat (first | (with_reducible first | exact HK.out | apply KB.set_ | apply kpN | apply keep_drew | apply keep_alloc | refine keep_far ?_ al.out _) | exact HK.out))))
     have aI :=AZ.mk (KB.trans (by repeat (first | (with_reducible first | exact HK.out | apply KB.set_ | apply kpN | apply keep_drew | apply keep_alloc | refine keep_far ?_ al.out _) | exact HK.out)) hk (.inl rfl))
     have aM :=AZ.mk (hb)
     have aQ :=AZ.mk (hi)
     clear a6
     clear a4
     clear a2
     clear HK
     clear HB
     clear HI0
     have a6 :=aG
     have a4 :=aE
     have a2 :=aD
     have b5 :=aC
     have HK :=aI
     have HB :=aM
     have HI0 :=aQ
     clear aG aE aD aC aI aM aQ
     (try clear hb)
     (try clear hb2)
     (try clear hk)
     (try clear hi)
     (try clear aX)
     refine hK.out _ _ ⟨(bkc a2.out 0).trans rfl,(bkc a2.out 1).trans rfl,(bkc a2.out 2).trans rfl,(bkc a2.out 3).trans rfl,(bkc a2.out 4).trans rfl,(bkc a2.out 5).trans rfl,(bkc a2.out 6).trans rfl,(bkc a2.out 7).trans rfl,(bkc a2.out 8).trans rfl,(bkc a2.out 9).trans rfl,(bkc a2.out 10).trans rfl⟩ (fun hHeld => ?_)
     clear hK K
     refine norm_ (a' :=?_) ?_ ?_
     rotate_left
     ·show Act.put _ (some 31) _ = _
      simp only [Act.put,List.setIfInBounds_toArray,List.set_cons_zero,List.set_cons_succ,i64_w,i32_w]
      rfl
     refine one_ (i :=4) (N :=some 32) #[true,true,true,true,true,false,false,false,false] rfl rfl (one_of HT_.out (by kernel_rfl)) (by decide) (fun K hK => ?_)
     have hcv22 :=own_string (P :=Tryz.prog) Tryz.underlying22 Tryz.underlying5 Tryz.underlying9 (Kd.own_of_R b5.out)
     refine value_ (w1 :=?_) (v :=?_) (by rfl) rfl ?_ ?_
     rotate_left 2
     ·go_simp
      constructor
      ·rfl
      ·rfl
     clear hcv22
     refine hK.out _ _ ⟨(bkc a2.out 0).trans rfl,(bkc a2.out 1).trans rfl,(bkc a2.out 2).trans rfl,(bkc a2.out 3).trans rfl,(bkc a2.out 4).trans rfl,(bkc a2.out 5).trans rfl,(bkc a2.out 6).trans rfl,(bkc a2.out 7).trans rfl,(bkc a2.out 8).trans rfl,(bkc a2.out 9).trans rfl,(bkc a2.out 10).trans rfl⟩ (fun hHeld => ?_)
     clear hK K
     refine norm_ (a' :=?_) ?_ ?_
     rotate_left
     ·show Act.put _ (some 32) _ = _
      simp only [Act.put,List.setIfInBounds_toArray,List.set_cons_zero,List.set_cons_succ,i64_w,i32_w]
      rfl
     refine one_ (i :=5) (N :=some 33) #[true,true,true,true,true,true,false,false,false] rfl rfl (one_of HT_.out (by kernel_rfl)) (by decide) (fun K hK => ?_)
     refine value_ (w1 :=?_) (v :=?_) (by rfl) rfl ?_ ?_
     rotate_left 2
     ·go_simp
      constructor
      ·rfl
      ·rfl
     refine hK.out _ _ ⟨(bkc (bka a2.out _) 0).trans rfl,(bkc (bka a2.out _) 1).trans rfl,(bkc (bka a2.out _) 2).trans rfl,(bkc (bka a2.out _) 3).trans rfl,(bkc (bka a2.out _) 4).trans rfl,(bkc (bka a2.out _) 5).trans rfl,(bkc (bka a2.out _) 6).trans rfl,(bkc (bka a2.out _) 7).trans rfl,(bkc (bka a2.out _) 8).trans rfl,(bkc (bka a2.out _) 9).trans rfl,(bkc (bka a2.out _) 10).trans rfl⟩ (fun hHeld => ?_)
     clear hK K
     refine norm_ (a' :=?_) ?_ ?_
     rotate_left
     ·show Act.put _ (some 33) _ = _
      simp only [Act.put,List.setIfInBounds_toArray,List.set_cons_zero,List.set_cons_succ,i64_w,i32_w]
      rfl
     refine one_ (i :=6) (N :=some 34) #[true,true,true,true,true,true,true,false,false] rfl rfl (one_of HT_.out (by kernel_rfl)) (by decide) (fun K hK => ?_)
     refine Kd.R_append_step Kd.string w.heap.size (by rfl) (.tmp 29) (.tmp 33) 44 9 (.string ⟨#[]⟩) 16 rfl Tryz.underlying44 info9 rfl (by decide) (by omega) a8 a5 (strOfNums bh) [.string (strOfNums bh)] (fun _ => True) (fun _ => False) rfl rfl ?aP (fun _ hk => hk.elim) ?aF ?aO (Below.refl _ _) ?aS ?aL ?_
     (case aP => exact rfl)
     (case aF => exact (fun _ _ => trivial))
     (case aO => exact (by (with_reducible repeat (first | apply Kd.R_alloc | apply Kd.R_drewN | apply Kd.R_drew));exact a4.out))
     (case aS => exact (keep_size (w :=w) (g :=g) (row :=none) (by repeat (first | (with_reducible first | exact HK.out | apply KB.set_ | apply kpN | apply keep_drew | apply keep_alloc | refine keep_far ?_ al.out _) | exact HK.out))))
     (case aL => have :=LMc19.out;omega)
     intro v176 w23 ho hb hg hat
     rw [← Ny175.out] at ho
     have aG :=AZ.mk (Kd.R_over' (by (with_reducible repeat (first | apply Kd.R_alloc | apply Kd.R_drewN | apply Kd.R_drew));exact a6.out) (Kd.R_typed (by (with_reducible repeat (first | apply Kd.R_alloc | apply Kd.R_drewN | apply Kd.R_drew));exact a4.out)) (by decide) hg)
     have aE :=AZ.mk (blk_grown (g :=a3) (o :=.cells #[.int .i64 (wrap64 (aa)),.string ab,.slice ae a9.length ad,.string (strOfNums ac),a8,.int .i64 0,.slice none 0 0,.int .i64 0,.int .i64 0,.bool false,.slice none 0 0] 46 (0,0)) (by (with_reducible repeat (first | apply bkN | apply bkd | apply bka));exact a2.out) hg (Kd.R_ne a4.out a2.out (by decide)))
     have aD :=AZ.mk (I5.grownF HI0.out (by repeat (first | (with_reducible first | exact HI0.out | apply I5.alloc | apply I5.drewN | apply I5.drew | apply I5.set_0 | apply I5.set_1 | refine I5.far ?_ a7.out _) | exact HI0.out)) hg (I5.own_ne HI0.out a4.out (by decide)))
     have aC :=AZ.mk (Kd.R_over' (by (with_reducible repeat (first | apply Kd.R_alloc | apply Kd.R_drewN | apply Kd.R_drew));exact b5.out) (Kd.R_typed (by (with_reducible repeat (first | apply Kd.R_alloc | apply Kd.R_drewN | apply Kd.R_drew));exact a4.out)) (by decide) hg)
     have aI :=AZ.mk (below_weaken (by repeat (first | (with_reducible first | exact HB.out | apply bwa | apply pwN | apply bw1 | refine bws ?_ (I5.ge HI0.out) | refine bws ?_ ax.out) | exact HB.out)) HL.out hb)
     have aM :=AZ.mk (KB.trans (by repeat (first | (with_reducible first | exact HK.out | apply KB.set_ | apply kpN | apply keep_drew | apply keep_alloc | refine keep_far ?_ al.out _) | exact HK.out)) (KB.of_grown hg g) (Kd.R_base2 a4.out))
     have aQ :=AZ.mk (ho)
     clear a6
     clear a2
     clear HI0
     clear b5
     clear HB
     clear HK
     clear a4
     have a6 :=aG
     have a2 :=aE
     have HI0 :=aD
     have b5 :=aC
     have HB :=aI
     have HK :=aM
     have cl :=aQ
     clear aG aE aD aC aI aM aQ
     clear ho hb hg hat
     obtain ⟨cP,cO,d0⟩ :=Kd.R_slice cl.out
     (first | subst d0 | (injection d0 with f1_ f2_ f3_;have f4_ :=f1_.symm;have f5_ :=f3_.symm;clear f1_ f2_ f3_;subst f4_;subst f5_))
     refine hK.out _ _ ⟨(bkc a2.out 0).trans rfl,(bkc a2.out 1).trans rfl,(bkc a2.out 2).trans rfl,(bkc a2.out 3).trans rfl,(bkc a2.out 4).trans rfl,(bkc a2.out 5).trans rfl,(bkc a2.out 6).trans rfl,(bkc a2.out 7).trans rfl,(bkc a2.out 8).trans rfl,(bkc a2.out 9).trans rfl,(bkc a2.out 10).trans rfl⟩ (fun hHeld => ?_)
     clear hK K
     refine norm_ (a' :=?_) ?_ ?_
     rotate_left
     ·show Act.put _ (some 34) _ = _
      simp only [Act.put,List.setIfInBounds_toArray,List.set_cons_zero,List.set_cons_succ,i64_w,i32_w]
      rfl
     refine pure_ (i :=7) (N :=some 35) (v :=?_) (a' :=?_) #[true,true,true,true,true,true,true,true,false] rfl rfl (any_of HT_.out (by kernel_rfl)) (fun _ _ _ h => h) (Or.inl ⟨by rfl,?_⟩) ?_ ?_
     rotate_left
     ·intro w'
      go_simp
      with_reducible rfl
     rotate_left
     ·simp only [Act.put,List.setIfInBounds_toArray,List.set_cons_zero,List.set_cons_succ,i64_w,i32_w]
      rfl
     refine last_ (i :=8) (N :=none) #[true,true,true,true,true,true,true,true,true] rfl rfl (one_of HT_.out (by kernel_rfl)) (by decide) (fun K hK => ?_)
     have hs25 : w23.cell? ⟨a3,4,none⟩ = some (a8) :=(bkc a2.out 4).trans rfl
     have hfs25 :=bkz a2.out 4
     refine skip_ (w1 :=?_) (by rfl) rfl ?_ ?_
     rotate_left
     ·go_simp
      rfl
     refine hK.out _ _ ?_
     clear hK K
     refine done_ (done_of HT_.out (by kernel_rfl)) ?_
     try go_wp2
     go_roundg k1
     case measure => have :=HK1.out;omega
     case rel => exact ⟨(IntKind.u64.wrap (aV - 1)),(bv),(bu),(y175),(.slice cP y175.length cO),(by first | rfl | (simp;done) | (simp [*];done)),H',⟨by have :=HK1.out;omega⟩,⟨by (with_reducible repeat (first | apply Kd.R_alloc | apply Kd.R_drewN | apply Kd.R_drew));exact Kd.R_mono (Kd.R_far (p :=⟨a3,4,none⟩) (Kd.R_types a6.out a2.out (by decide)) (fun _ hk => hk.2) (.slice cP y175.length cO)) (fun _ hk => trivial)⟩,⟨by (with_reducible repeat (first | apply Kd.R_alloc | apply Kd.R_drewN | apply Kd.R_drew));exact Kd.R_mono (Kd.R_far (p :=⟨a3,4,none⟩) (Kd.R_types cl.out a2.out (by decide)) (fun _ hk => hk.2) (.slice cP y175.length cO)) (fun _ hk => trivial)⟩,⟨by (with_reducible repeat (first | apply bkN | apply bkd | apply bka));refine blk_put (cs :=#[.int .i64 (wrap64 (aa)),.string ab,.slice ae a9.length ad,.string (strOfNums ac),a8,.int .i64 0,.slice none 0 0,.int .i64 0,.int .i64 0,.bool false,.slice none 0 0]) ?_ 4 _ rfl;(with_reducible repeat (first | apply bkN | apply bkd | apply bka));exact a2.out⟩,⟨by repeat (first | (with_reducible first | exact HI0.out | apply I5.alloc | apply I5.drewN | apply I5.drew | apply I5.set_0 | apply I5.set_1 | refine I5.far ?_ a7.out _) | exact HI0.out)⟩,⟨by repeat (first | (with_reducible first | exact HK.out | apply KB.set_ | apply kpN | apply keep_drew | apply keep_alloc | refine keep_far ?_ al.out _) | exact HK.out)⟩,⟨by repeat (first | (with_reducible first | exact HB.out | apply bwa | apply pwN | apply bw1 | refine bws ?_ (I5.ge HI0.out) | refine bws ?_ ax.out) | exact HB.out)⟩⟩
    ·rw [if_neg c19] at H
     exact absurd H (by simp)
   ·rw [if_neg c17] at H
    have d1 : decide (0 < aV) = false :=decide_eq_false c17
    clear c17
    replace H :=Option.bind_eq_some_iff.mp H
    obtain ⟨⟨ag,bg,bf⟩,d7,H⟩ :=H
    replace H : ((pr_text.f k1 bg bf).bind fun aT => ((pr_num.f k1 aT.2.1 aT.2.2 2).bind fun aN => ((pr_num.f k1 aN.2.1 aN.2.2 2).bind fun aA => ((pr_num.f k1 aA.2.1 aA.2.2 1).bind fun ap => ((pr_text.f k1 ap.2.1 ap.2.2).bind fun ai => (some ((wrap64 (aa)),ab,a9,(strOfNums ac),a5,wrap64 (ag),aT.1,wrap64 (aN.1),wrap64 (aA.1),((Int.tmod ap.1 2) == 1),ai.1,ai.2.1,ai.2.2))))))) = some (r1,r2,r3,r4,r5,r6,r7,r8,r9,r10,r11,r12,r13) :=H
    have A26 :=AZ.mk d7
    clear d7
    replace H :=Option.bind_eq_some_iff.mp H
    obtain ⟨⟨af,be,bd⟩,d6,H⟩ :=H
    replace H : ((pr_num.f k1 be bd 2).bind fun aN => ((pr_num.f k1 aN.2.1 aN.2.2 2).bind fun aA => ((pr_num.f k1 aA.2.1 aA.2.2 1).bind fun ap => ((pr_text.f k1 ap.2.1 ap.2.2).bind fun ai => (some ((wrap64 (aa)),ab,a9,(strOfNums ac),a5,wrap64 (ag),af,wrap64 (aN.1),wrap64 (aA.1),((Int.tmod ap.1 2) == 1),ai.1,ai.2.1,ai.2.2)))))) = some (r1,r2,r3,r4,r5,r6,r7,r8,r9,r10,r11,r12,r13) :=H
    have A27 :=AZ.mk d6
    clear d6
    replace H :=Option.bind_eq_some_iff.mp H
    obtain ⟨⟨am,bc,bb⟩,d5,H⟩ :=H
    replace H : ((pr_num.f k1 bc bb 2).bind fun aA => ((pr_num.f k1 aA.2.1 aA.2.2 1).bind fun ap => ((pr_text.f k1 ap.2.1 ap.2.2).bind fun ai => (some ((wrap64 (aa)),ab,a9,(strOfNums ac),a5,wrap64 (ag),af,wrap64 (am),wrap64 (aA.1),((Int.tmod ap.1 2) == 1),ai.1,ai.2.1,ai.2.2))))) = some (r1,r2,r3,r4,r5,r6,r7,r8,r9,r10,r11,r12,r13) :=H
    have A28 :=AZ.mk d5
    clear d5
    replace H :=Option.bind_eq_some_iff.mp H
    obtain ⟨⟨an,ba,b9⟩,d4,H⟩ :=H
    replace H : ((pr_num.f k1 ba b9 1).bind fun ap => ((pr_text.f k1 ap.2.1 ap.2.2).bind fun ai => (some ((wrap64 (aa)),ab,a9,(strOfNums ac),a5,wrap64 (ag),af,wrap64 (am),wrap64 (an),((Int.tmod ap.1 2) == 1),ai.1,ai.2.1,ai.2.2)))) = some (r1,r2,r3,r4,r5,r6,r7,r8,r9,r10,r11,r12,r13) :=H
    have A29 :=AZ.mk d4
    clear d4
    replace H :=Option.bind_eq_some_iff.mp H
    obtain ⟨⟨ar,b8,b7⟩,d3,H⟩ :=H
    replace H : ((pr_text.f k1 b8 b7).bind fun ai => (some ((wrap64 (aa)),ab,a9,(strOfNums ac),a5,wrap64 (ag),af,wrap64 (am),wrap64 (an),((Int.tmod ar 2) == 1),ai.1,ai.2.1,ai.2.2))) = some (r1,r2,r3,r4,r5,r6,r7,r8,r9,r10,r11,r12,r13) :=H
    have eN :=AZ.mk d3
    clear d3
    replace H :=Option.bind_eq_some_iff.mp H
    obtain ⟨⟨ao,cn,cm⟩,d2,H⟩ :=H
    replace H : (some ((wrap64 (aa)),ab,a9,(strOfNums ac),a5,wrap64 (ag),af,wrap64 (am),wrap64 (an),((Int.tmod ar 2) == 1),ao,cn,cm)) = some (r1,r2,r3,r4,r5,r6,r7,r8,r9,r10,r11,r12,r13) :=H
    have A31 :=AZ.mk d2
    clear d2
    simp only [Option.some.injEq,Prod.mk.injEq] at H
    obtain ⟨rfl,rfl,rfl,rfl,rfl,rfl,rfl,rfl,rfl,rfl,rfl,rfl,rfl⟩ :=H
    go_wp2_with (first | ((with_reducible refine gate_clos rfl ?_);refine goesLC_ (some 37) rfl rfl Tryz.func13 (by kernel_rfl) rfl #[.pointer (some ⟨g,0,none⟩),.int .i64 8] rfl rfl (by (try simp only [List.map_toArray,List.map_cons,List.map_nil]);first | done | rfl | (simp only [List.length_drop,List.length_take];rfl)) ?_;(with_reducible refine (pr_num.calls k1 g az ay 8 ag bg bf w0 _ ?side1 ?side2 A26.out).mono ?_);(case side1 => repeat (first | (with_reducible first | exact HI0.out | apply I5.alloc | apply I5.drewN | apply I5.drew | apply I5.set_0 | apply I5.set_1 | refine I5.far ?_ a7.out _) | exact HI0.out));(case side2 => repeat (first | (with_reducible first | exact HB.out | apply bwa | apply pwN | apply bw1 | refine bws ?_ (I5.ge HI0.out) | refine bws ?_ ax.out) | exact HB.out));rintro e w32 ⟨rfl,hi,hb,hk⟩;refine ⟨_,rfl,?_⟩;have aG :=AZ.mk (Kd.R_mono (Kd.R_keep (I5.apart (show I5 w0 _ g az ay from by repeat (first | (with_reducible first | exact HI0.out | apply I5.alloc | apply I5.drewN | apply I5.drew | apply I5.set_0 | apply I5.set_1 | refine I5.far ?_ a7.out _) | exact HI0.out)) (by (with_reducible repeat (first | apply Kd.R_alloc | apply Kd.R_drewN | apply Kd.R_drew));exact a6.out) (by decide)) hk (fun _ h => h.2)) (fun _ h => h.1));have aE :=AZ.mk (Kd.R_mono (Kd.R_keep (I5.apart (show I5 w0 _ g az ay from by repeat (first | (with_reducible first | exact HI0.out | apply I5.alloc | apply I5.drewN | apply I5.drew | apply I5.set_0 | apply I5.set_1 | refine I5.far ?_ a7.out _) | exact HI0.out)) (by (with_reducible repeat (first | apply Kd.R_alloc | apply Kd.R_drewN | apply Kd.R_drew));exact a4.out) (by decide)) hk (fun _ h => h.2)) (fun _ h => h.1));have aD :=AZ.mk (KB.blk hk (g' :=a3) (o :=.cells #[.int .i64 (wrap64 (aa)),.string ab,.slice ae a9.length ad,.string (strOfNums ac),a8,.int .i64 0,.slice none 0 0,.int .i64 0,.int .i64 0,.bool false,.slice none 0 0] 46 (0,0)) (by (with_reducible repeat (first | apply bkN | apply bkd | apply bka));exact a2.out) ak.out (by simp));have aC :=AZ.mk (KB.trans (by repeat (first | (with_reducible first | exact HK.out | apply KB.set_ | apply kpN | apply keep_drew | apply keep_alloc | refine keep_far ?_ al.out _) | exact HK.out)) hk (.inl rfl));have aI :=AZ.mk (hb);have aM :=AZ.mk (hi);clear a6;clear a4;clear a2;clear HK;clear HB;clear HI0;have a6 :=aG;have a4 :=aE;have a2 :=aD;have HK :=aC;have HB :=aI;have HI0 :=aM;clear aG aE aD aC aI aM;(try clear hb);(try clear hb2);(try clear hk);(try clear hi);have hnb33 :=ak.out;have hnc33 :=a7.out;have eM : w32.cell? ⟨a3,0,none⟩ = some (.int .i64 (wrap64 (aa))) :=(bkc a2.out 0).trans rfl;have eL : w32.cell? ⟨a3,1,none⟩ = some (.string ab) :=(bkc a2.out 1).trans rfl;have eK : w32.cell? ⟨a3,2,none⟩ = some (.slice ae a9.length ad) :=(bkc a2.out 2).trans rfl;have eJ : w32.cell? ⟨a3,3,none⟩ = some (.string (strOfNums ac)) :=(bkc a2.out 3).trans rfl;have eI : w32.cell? ⟨a3,4,none⟩ = some (a8) :=(bkc a2.out 4).trans rfl;have eH : w32.cell? ⟨a3,5,none⟩ = some (.int .i64 0) :=(bkc a2.out 5).trans rfl;have eG : w32.cell? ⟨a3,6,none⟩ = some (.slice none 0 0) :=(bkc a2.out 6).trans rfl;have eF : w32.cell? ⟨a3,7,none⟩ = some (.int .i64 0) :=(bkc a2.out 7).trans rfl;have eE : w32.cell? ⟨a3,8,none⟩ = some (.int .i64 0) :=(bkc a2.out 8).trans rfl;have eD : w32.cell? ⟨a3,9,none⟩ = some (.bool false) :=(bkc a2.out 9).trans rfl;have cZ : w32.cell? ⟨a3,10,none⟩ = some (.slice none 0 0) :=(bkc a2.out 10).trans rfl;have dY :=bkz a2.out 0;have dX :=bkz a2.out 1;have dW :=bkz a2.out 2;have dV :=bkz a2.out 3;have dU :=bkz a2.out 4;have dT :=bkz a2.out 5;have dS :=bkz a2.out 6;have dR :=bkz a2.out 7;have dQ :=bkz a2.out 8;have dP :=bkz a2.out 9;have cU :=bkz a2.out 10) | ((with_reducible refine gate_clos rfl ?_);refine goesLC_ (some 41) rfl rfl Tryz.func15 (by kernel_rfl) rfl #[.pointer (some ⟨g,0,none⟩)] rfl rfl (by (try simp only [List.map_toArray,List.map_cons,List.map_nil]);first | done | rfl | (simp only [List.length_drop,List.length_take];rfl)) ?_;(with_reducible refine (pr_text.calls k1 g bg bf af be bd w0 _ ?side1 ?side2 A27.out).mono ?_);(case side1 => repeat (first | (with_reducible first | exact HI0.out | apply I5.alloc | apply I5.drewN | apply I5.drew | apply I5.set_0 | apply I5.set_1 | refine I5.far ?_ a7.out _) | exact HI0.out));(case side2 => repeat (first | (with_reducible first | exact HB.out | apply bwa | apply pwN | apply bw1 | refine bws ?_ (I5.ge HI0.out) | refine bws ?_ ax.out) | exact HB.out));rintro e w35 ⟨v182,rfl,aX,hi,hb,hk⟩;refine ⟨_,rfl,?_⟩;have aG :=AZ.mk (Kd.R_mono (Kd.R_told (Kd.R_oldK (I5.apart (show I5 w0 _ g bg bf from by repeat (first | (with_reducible first | exact HI0.out | apply I5.alloc | apply I5.drewN | apply I5.drew | apply I5.set_0 | apply I5.set_1 | refine I5.far ?_ a7.out _) | exact HI0.out)) (by (with_reducible repeat (first | apply Kd.R_alloc | apply Kd.R_drewN | apply Kd.R_drew));exact (Kd.R_mono (Kd.R_far (p :=⟨a3,5,none⟩) (Kd.R_types a6.out a2.out (by decide)) (fun _ hk => hk.2) (.int .i64 (wrap64 (ag)))) (fun _ h_ => h_.1))) (by decide)) hk) (Kd.R_base aX)) (fun _ h_ => h_.1));have aE :=AZ.mk (Kd.R_mono (Kd.R_keep (I5.apart (show I5 w0 _ g bg bf from by repeat (first | (with_reducible first | exact HI0.out | apply I5.alloc | apply I5.drewN | apply I5.drew | apply I5.set_0 | apply I5.set_1 | refine I5.far ?_ a7.out _) | exact HI0.out)) (by (with_reducible repeat (first | apply Kd.R_alloc | apply Kd.R_drewN | apply Kd.R_drew));exact (Kd.R_mono (Kd.R_far (p :=⟨a3,5,none⟩) (Kd.R_types a4.out a2.out (by decide)) (fun _ hk => hk.2) (.int .i64 (wrap64 (ag)))) (fun _ h_ => h_.1))) (by decide)) hk (fun _ h => h.2)) (fun _ h => h.1));have aD :=AZ.mk (KB.blk hk (g' :=a3) (o :=.cells #[.int .i64 (wrap64 (aa)),.string ab,.slice ae a9.length ad,.string (strOfNums ac),a8,.int .i64 (wrap64 (ag)),.slice none 0 0,.int .i64 0,.int .i64 0,.bool false,.slice none 0 0] 46 (0,0)) (by (with_reducible repeat (first | apply bkN | apply bkd | apply bka));refine blk_put (cs :=#[.int .i64 (wrap64 (aa)),.string ab,.slice ae a9.length ad,.string (strOfNums ac),a8,.int .i64 0,.slice none 0 0,.int .i64 0,.int .i64 0,.bool false,.slice none 0 0]) ?_ 5 _ rfl;(with_reducible repeat (first | apply bkN | apply bkd | apply bka));exact a2.out) ak.out (by simp));have aC :=AZ.mk (Kd.R_lower aX (keep_size (w :=w) (g :=g) (row :=none) (by repeat (first | (with_reducible first | exact HK.out | apply KB.set_ | apply kpN | apply keep_drew | apply keep_alloc | refine keep_far ?_ al.out _) | exact HK.out))));have aI :=AZ.mk (KB.trans (by repeat (first | (with_reducible first | exact HK.out | apply KB.set_ | apply kpN | apply keep_drew | apply keep_alloc | refine keep_far ?_ al.out _) | exact HK.out)) hk (.inl rfl));have aM :=AZ.mk (hb);have aQ :=AZ.mk (hi);clear a6;clear a4;clear a2;clear HK;clear HB;clear HI0;have a6 :=aG;have a4 :=aE;have a2 :=aD;have au :=aC;have HK :=aI;have HB :=aM;have HI0 :=aQ;clear aG aE aD aC aI aM aQ;(try clear hb);(try clear hb2);(try clear hk);(try clear hi);(try clear aX);obtain ⟨aj,ah,eQ⟩ :=Kd.R_slice au.out;subst eQ;have eC : w35.cell? ⟨a3,0,none⟩ = some (.int .i64 (wrap64 (aa))) :=(bkc a2.out 0).trans rfl;have eB : w35.cell? ⟨a3,1,none⟩ = some (.string ab) :=(bkc a2.out 1).trans rfl;have eA : w35.cell? ⟨a3,2,none⟩ = some (.slice ae a9.length ad) :=(bkc a2.out 2).trans rfl;have ez : w35.cell? ⟨a3,3,none⟩ = some (.string (strOfNums ac)) :=(bkc a2.out 3).trans rfl;have ey : w35.cell? ⟨a3,4,none⟩ = some (a8) :=(bkc a2.out 4).trans rfl;have ex : w35.cell? ⟨a3,5,none⟩ = some (.int .i64 (wrap64 (ag))) :=(bkc a2.out 5).trans rfl;have ew : w35.cell? ⟨a3,6,none⟩ = some (.slice none 0 0) :=(bkc a2.out 6).trans rfl;have ev : w35.cell? ⟨a3,7,none⟩ = some (.int .i64 0) :=(bkc a2.out 7).trans rfl;have eu : w35.cell? ⟨a3,8,none⟩ = some (.int .i64 0) :=(bkc a2.out 8).trans rfl;have et : w35.cell? ⟨a3,9,none⟩ = some (.bool false) :=(bkc a2.out 9).trans rfl;have cY : w35.cell? ⟨a3,10,none⟩ = some (.slice none 0 0) :=(bkc a2.out 10).trans rfl;have dO :=bkz a2.out 0;have dN :=bkz a2.out 1;have dM :=bkz a2.out 2;have dL :=bkz a2.out 3;have dK :=bkz a2.out 4;have dJ :=bkz a2.out 5;have dI :=bkz a2.out 6;have dH :=bkz a2.out 7;have dG :=bkz a2.out 8;have dF :=bkz a2.out 9;have cT :=bkz a2.out 10) | ((with_reducible refine gate_clos rfl ?_);refine goesLC_ (some 44) rfl rfl Tryz.func13 (by kernel_rfl) rfl #[.pointer (some ⟨g,0,none⟩),.int .i64 2] rfl rfl (by (try simp only [List.map_toArray,List.map_cons,List.map_nil]);first | done | rfl | (simp only [List.length_drop,List.length_take];rfl)) ?_;(with_reducible refine (pr_num.calls k1 g be bd 2 am bc bb w0 _ ?side1 ?side2 A28.out).mono ?_);(case side1 => repeat (first | (with_reducible first | exact HI0.out | apply I5.alloc | apply I5.drewN | apply I5.drew | apply I5.set_0 | apply I5.set_1 | refine I5.far ?_ a7.out _) | exact HI0.out));(case side2 => repeat (first | (with_reducible first | exact HB.out | apply bwa | apply pwN | apply bw1 | refine bws ?_ (I5.ge HI0.out) | refine bws ?_ ax.out) | exact HB.out));rintro e w38 ⟨rfl,hi,hb,hk⟩;refine ⟨_,rfl,?_⟩;have aG :=AZ.mk (Kd.R_mono (Kd.R_keep (I5.apart (show I5 w0 _ g be bd from by repeat (first | (with_reducible first | exact HI0.out | apply I5.alloc | apply I5.drewN | apply I5.drew | apply I5.set_0 | apply I5.set_1 | refine I5.far ?_ a7.out _) | exact HI0.out)) (by (with_reducible repeat (first | apply Kd.R_alloc | apply Kd.R_drewN | apply Kd.R_drew));exact (Kd.R_mono (Kd.R_far (p :=⟨a3,6,none⟩) (Kd.R_types a6.out a2.out (by decide)) (fun _ hk => hk.2) (.slice aj af.length ah)) (fun _ h_ => h_.1))) (by decide)) hk (fun _ h => h.2)) (fun _ h => h.1));have aE :=AZ.mk (Kd.R_mono (Kd.R_keep (I5.apart (show I5 w0 _ g be bd from by repeat (first | (with_reducible first | exact HI0.out | apply I5.alloc | apply I5.drewN | apply I5.drew | apply I5.set_0 | apply I5.set_1 | refine I5.far ?_ a7.out _) | exact HI0.out)) (by (with_reducible repeat (first | apply Kd.R_alloc | apply Kd.R_drewN | apply Kd.R_drew));exact (Kd.R_mono (Kd.R_far (p :=⟨a3,6,none⟩) (Kd.R_types a4.out a2.out (by decide)) (fun _ hk => hk.2) (.slice aj af.length ah)) (fun _ h_ => h_.1))) (by decide)) hk (fun _ h => h.2)) (fun _ h => h.1));have aD :=AZ.mk (KB.blk hk (g' :=a3) (o :=.cells #[.int .i64 (wrap64 (aa)),.string ab,.slice ae a9.length ad,.string (strOfNums ac),a8,.int .i64 (wrap64 (ag)),.slice aj af.length ah,.int .i64 0,.int .i64 0,.bool false,.slice none 0 0] 46 (0,0)) (by (with_reducible repeat (first | apply bkN | apply bkd | apply bka));refine blk_put (cs :=#[.int .i64 (wrap64 (aa)),.string ab,.slice ae a9.length ad,.string (strOfNums ac),a8,.int .i64 (wrap64 (ag)),.slice none 0 0,.int .i64 0,.int .i64 0,.bool false,.slice none 0 0]) ?_ 6 _ rfl;(with_reducible repeat (first | apply bkN | apply bkd | apply bka));exact a2.out) ak.out (by simp));have aC :=AZ.mk (Kd.R_mono (Kd.R_keep (I5.apart (show I5 w0 _ g be bd from by repeat (first | (with_reducible first | exact HI0.out | apply I5.alloc | apply I5.drewN | apply I5.drew | apply I5.set_0 | apply I5.set_1 | refine I5.far ?_ a7.out _) | exact HI0.out)) (by (with_reducible repeat (first | apply Kd.R_alloc | apply Kd.R_drewN | apply Kd.R_drew));exact (Kd.R_mono (Kd.R_far (p :=⟨a3,6,none⟩) (Kd.R_types au.out a2.out (by decide)) (fun _ hk => hk.2) (.slice aj af.length ah)) (fun _ h_ => h_.1))) (by decide)) hk (fun _ h => h.2)) (fun _ h => h.1));have aI :=AZ.mk (KB.trans (by repeat (first | (with_reducible first | exact HK.out | apply KB.set_ | apply kpN | apply keep_drew | apply keep_alloc | refine keep_far ?_ al.out _) | exact HK.out)) hk (.inl rfl));have aM :=AZ.mk (hb);have aQ :=AZ.mk (hi);clear a6;clear a4;clear a2;clear au;clear HK;clear HB;clear HI0;have a6 :=aG;have a4 :=aE;have a2 :=aD;have au :=aC;have HK :=aI;have HB :=aM;have HI0 :=aQ;clear aG aE aD aC aI aM aQ;(try clear hb);(try clear hb2);(try clear hk);(try clear hi)) | ((with_reducible refine gate_clos rfl ?_);refine goesLC_ (some 47) rfl rfl Tryz.func13 (by kernel_rfl) rfl #[.pointer (some ⟨g,0,none⟩),.int .i64 2] rfl rfl (by (try simp only [List.map_toArray,List.map_cons,List.map_nil]);first | done | rfl | (simp only [List.length_drop,List.length_take];rfl)) ?_;(with_reducible refine (pr_num.calls k1 g bc bb 2 an ba b9 w0 _ ?side1 ?side2 A29.out).mono ?_);(case side1 => repeat (first | (with_reducible first | exact HI0.out | apply I5.alloc | apply I5.drewN | apply I5.drew | apply I5.set_0 | apply I5.set_1 | refine I5.far ?_ a7.out _) | exact HI0.out));(case side2 => repeat (first | (with_reducible first | exact HB.out | apply bwa | apply pwN | apply bw1 | refine bws ?_ (I5.ge HI0.out) | refine bws ?_ ax.out) | exact HB.out));rintro e w39 ⟨rfl,hi,hb,hk⟩;refine ⟨_,rfl,?_⟩;have aG :=AZ.mk (Kd.R_mono (Kd.R_keep (I5.apart (show I5 w0 _ g bc bb from by repeat (first | (with_reducible first | exact HI0.out | apply I5.alloc | apply I5.drewN | apply I5.drew | apply I5.set_0 | apply I5.set_1 | refine I5.far ?_ a7.out _) | exact HI0.out)) (by (with_reducible repeat (first | apply Kd.R_alloc | apply Kd.R_drewN | apply Kd.R_drew));exact a6.out) (by decide)) hk (fun _ h => h.2)) (fun _ h => h.1));have aE :=AZ.mk (Kd.R_mono (Kd.R_keep (I5.apart (show I5 w0 _ g bc bb from by repeat (first | (with_reducible first | exact HI0.out | apply I5.alloc | apply I5.drewN | apply I5.drew | apply I5.set_0 | apply I5.set_1 | refine I5.far ?_ a7.out _) | exact HI0.out)) (by (with_reducible repeat (first | apply Kd.R_alloc | apply Kd.R_drewN | apply Kd.R_drew));exact a4.out) (by decide)) hk (fun _ h => h.2)) (fun _ h => h.1));have aD :=AZ.mk (KB.blk hk (g' :=a3) (o :=.cells #[.int .i64 (wrap64 (aa)),.string ab,.slice ae a9.length ad,.string (strOfNums ac),a8,.int .i64 (wrap64 (ag)),.slice aj af.length ah,.int .i64 0,.int .i64 0,.bool false,.slice none 0 0] 46 (0,0)) (by (with_reducible repeat (first | apply bkN | apply bkd | apply bka));exact a2.out) ak.out (by simp));have aC :=AZ.mk (Kd.R_mono (Kd.R_keep (I5.apart (show I5 w0 _ g bc bb from by repeat (first | (with_reducible first | exact HI0.out | apply I5.alloc | apply I5.drewN | apply I5.drew | apply I5.set_0 | apply I5.set_1 | refine I5.far ?_ a7.out _) | exact HI0.out)) (by (with_reducible repeat (first | apply Kd.R_alloc | apply Kd.R_drewN | apply Kd.R_drew));exact au.out) (by decide)) hk (fun _ h => h.2)) (fun _ h => h.1));have aI :=AZ.mk (KB.trans (by repeat (first | (with_reducible first | exact HK.out | apply KB.set_ | apply kpN | apply keep_drew | apply keep_alloc | refine keep_far ?_ al.out _) | exact HK.out)) hk (.inl rfl));have aM :=AZ.mk (hb);have aQ :=AZ.mk (hi);clear a6;clear a4;clear a2;clear au;clear HK;clear HB;clear HI0;have a6 :=aG;have a4 :=aE;have a2 :=aD;have au :=aC;have HK :=aI;have HB :=aM;have HI0 :=aQ;clear aG aE aD aC aI aM aQ;(try clear hb);(try clear hb2);(try clear hk);(try clear hi);have es : w39.cell? ⟨a3,0,none⟩ = some (.int .i64 (wrap64 (aa))) :=(bkc a2.out 0).trans rfl;have er : w39.cell? ⟨a3,1,none⟩ = some (.string ab) :=(bkc a2.out 1).trans rfl;have eq : w39.cell? ⟨a3,2,none⟩ = some (.slice ae a9.length ad) :=(bkc a2.out 2).trans rfl;have ep : w39.cell? ⟨a3,3,none⟩ = some (.string (strOfNums ac)) :=(bkc a2.out 3).trans rfl;have eo : w39.cell? ⟨a3,4,none⟩ = some (a8) :=(bkc a2.out 4).trans rfl;have en : w39.cell? ⟨a3,5,none⟩ = some (.int .i64 (wrap64 (ag))) :=(bkc a2.out 5).trans rfl;have em : w39.cell? ⟨a3,6,none⟩ = some (.slice aj af.length ah) :=(bkc a2.out 6).trans rfl;have el : w39.cell? ⟨a3,7,none⟩ = some (.int .i64 0) :=(bkc a2.out 7).trans rfl;have ek : w39.cell? ⟨a3,8,none⟩ = some (.int .i64 0) :=(bkc a2.out 8).trans rfl;have ej : w39.cell? ⟨a3,9,none⟩ = some (.bool false) :=(bkc a2.out 9).trans rfl;have cX : w39.cell? ⟨a3,10,none⟩ = some (.slice none 0 0) :=(bkc a2.out 10).trans rfl;have dE :=bkz a2.out 0;have dD :=bkz a2.out 1;have dC :=bkz a2.out 2;have dB :=bkz a2.out 3;have dA :=bkz a2.out 4;have dz :=bkz a2.out 5;have dy :=bkz a2.out 6;have dx :=bkz a2.out 7;have dw :=bkz a2.out 8;have dv :=bkz a2.out 9;have cS :=bkz a2.out 10) | ((with_reducible refine gate_clos rfl ?_);refine goesLC_ (some 52) rfl rfl Tryz.func13 (by kernel_rfl) rfl #[.pointer (some ⟨g,0,none⟩),.int .i64 1] rfl rfl (by (try simp only [List.map_toArray,List.map_cons,List.map_nil]);first | done | rfl | (simp only [List.length_drop,List.length_take];rfl)) ?_;(with_reducible refine (pr_num.calls k1 g ba b9 1 ar b8 b7 w0 _ ?side1 ?side2 eN.out).mono ?_);(case side1 => repeat (first | (with_reducible first | exact HI0.out | apply I5.alloc | apply I5.drewN | apply I5.drew | apply I5.set_0 | apply I5.set_1 | refine I5.far ?_ a7.out _) | exact HI0.out));(case side2 => repeat (first | (with_reducible first | exact HB.out | apply bwa | apply pwN | apply bw1 | refine bws ?_ (I5.ge HI0.out) | refine bws ?_ ax.out) | exact HB.out));rintro e w41 ⟨rfl,hi,hb,hk⟩;refine ⟨_,rfl,?_⟩;have aG :=AZ.mk (Kd.R_mono (Kd.R_keep (I5.apart (show I5 w0 _ g ba b9 from by repeat (first | (with_reducible first | exact HI0.out | apply I5.alloc | apply I5.drewN | apply I5.drew | apply I5.set_0 | apply I5.set_1 | refine I5.far ?_ a7.out _) | exact HI0.out)) (by (with_reducible repeat (first | apply Kd.R_alloc | apply Kd.R_drewN | apply Kd.R_drew));exact (Kd.R_mono (Kd.R_far (p :=⟨a3,8,none⟩) (Kd.R_far (p :=⟨a3,7,none⟩) (Kd.R_types a6.out a2.out (by decide)) (fun _ hk => hk.2) (.int .i64 (wrap64 (am)))) (fun _ hk => hk.2) (.int .i64 (wrap64 (an)))) (fun _ h_ => h_.1))) (by decide)) hk (fun _ h => h.2)) (fun _ h => h.1));have aE :=AZ.mk (Kd.R_mono (Kd.R_keep (I5.apart (show I5 w0 _ g ba b9 from by repeat (first | (with_reducible first | exact HI0.out | apply I5.alloc | apply I5.drewN | apply I5.drew | apply I5.set_0 | apply I5.set_1 | refine I5.far ?_ a7.out _) | exact HI0.out)) (by (with_reducible repeat (first | apply Kd.R_alloc | apply Kd.R_drewN | apply Kd.R_drew));exact (Kd.R_mono (Kd.R_far (p :=⟨a3,8,none⟩) (Kd.R_far (p :=⟨a3,7,none⟩) (Kd.R_types a4.out a2.out (by decide)) (fun _ hk => hk.2) (.int .i64 (wrap64 (am)))) (fun _ hk => hk.2) (.int .i64 (wrap64 (an)))) (fun _ h_ => h_.1))) (by decide)) hk (fun _ h => h.2)) (fun _ h => h.1));have aD :=AZ.mk (KB.blk hk (g' :=a3) (o :=.cells #[.int .i64 (wrap64 (aa)),.string ab,.slice ae a9.length ad,.string (strOfNums ac),a8,.int .i64 (wrap64 (ag)),.slice aj af.length ah,.int .i64 (wrap64 (am)),.int .i64 (wrap64 (an)),.bool false,.slice none 0 0] 46 (0,0)) (by (with_reducible repeat (first | apply bkN | apply bkd | apply bka));refine blk_put (cs :=#[.int .i64 (wrap64 (aa)),.string ab,.slice ae a9.length ad,.string (strOfNums ac),a8,.int .i64 (wrap64 (ag)),.slice aj af.length ah,.int .i64 (wrap64 (am)),.int .i64 0,.bool false,.slice none 0 0]) ?_ 8 _ rfl;(with_reducible repeat (first | apply bkN | apply bkd | apply bka));refine blk_put (cs :=#[.int .i64 (wrap64 (aa)),.string ab,.slice ae a9.length ad,.string (strOfNums ac),a8,.int .i64 (wrap64 (ag)),.slice aj af.length ah,.int .i64 0,.int .i64 0,.bool false,.slice none 0 0]) ?_ 7 _ rfl;(with_reducible repeat (first | apply bkN | apply bkd | apply bka));exact a2.out) ak.out (by simp));have aC :=AZ.mk (Kd.R_mono (Kd.R_keep (I5.apart (show I5 w0 _ g ba b9 from by repeat (first | (with_reducible first | exact HI0.out | apply I5.alloc | apply I5.drewN | apply I5.drew | apply I5.set_0 | apply I5.set_1 | refine I5.far ?_ a7.out _) | exact HI0.out)) (by (with_reducible repeat (first | apply Kd.R_alloc | apply Kd.R_drewN | apply Kd.R_drew));exact (Kd.R_mono (Kd.R_far (p :=⟨a3,8,none⟩) (Kd.R_far (p :=⟨a3,7,none⟩) (Kd.R_types au.out a2.out (by decide)) (fun _ hk => hk.2) (.int .i64 (wrap64 (am)))) (fun _ hk => hk.2) (.int .i64 (wrap64 (an)))) (fun _ h_ => h_.1))) (by decide)) hk (fun _ h => h.2)) (fun _ h => h.1));have aI :=AZ.mk (KB.trans (by repeat (first | (with_reducible first | exact HK.out | apply KB.set_ | apply kpN | apply keep_drew | apply keep_alloc | refine keep_far ?_ al.out _) | exact HK.out)) hk (.inl rfl));have aM :=AZ.mk (hb);have aQ :=AZ.mk (hi);clear a6;clear a4;clear a2;clear au;clear HK;clear HB;clear HI0;have a6 :=aG;have a4 :=aE;have a2 :=aD;have au :=aC;have HK :=aI;have HB :=aM;have HI0 :=aQ;clear aG aE aD aC aI aM aQ;(try clear hb);(try clear hb2);(try clear hk);(try clear hi);have ei : w41.cell? ⟨a3,0,none⟩ = some (.int .i64 (wrap64 (aa))) :=(bkc a2.out 0).trans rfl;have eh : w41.cell? ⟨a3,1,none⟩ = some (.string ab) :=(bkc a2.out 1).trans rfl;have eg : w41.cell? ⟨a3,2,none⟩ = some (.slice ae a9.length ad) :=(bkc a2.out 2).trans rfl;have ef : w41.cell? ⟨a3,3,none⟩ = some (.string (strOfNums ac)) :=(bkc a2.out 3).trans rfl;have ee : w41.cell? ⟨a3,4,none⟩ = some (a8) :=(bkc a2.out 4).trans rfl;have ed : w41.cell? ⟨a3,5,none⟩ = some (.int .i64 (wrap64 (ag))) :=(bkc a2.out 5).trans rfl;have ec : w41.cell? ⟨a3,6,none⟩ = some (.slice aj af.length ah) :=(bkc a2.out 6).trans rfl;have eb : w41.cell? ⟨a3,7,none⟩ = some (.int .i64 (wrap64 (am))) :=(bkc a2.out 7).trans rfl;have ea : w41.cell? ⟨a3,8,none⟩ = some (.int .i64 (wrap64 (an))) :=(bkc a2.out 8).trans rfl;have e9 : w41.cell? ⟨a3,9,none⟩ = some (.bool false) :=(bkc a2.out 9).trans rfl;have cW : w41.cell? ⟨a3,10,none⟩ = some (.slice none 0 0) :=(bkc a2.out 10).trans rfl;have du :=bkz a2.out 0;have dt :=bkz a2.out 1;have dr :=bkz a2.out 2;have dq :=bkz a2.out 3;have dp :=bkz a2.out 4;have dn :=bkz a2.out 5;have dm :=bkz a2.out 6;have dl :=bkz a2.out 7;have dk :=bkz a2.out 8;have dj :=bkz a2.out 9;have cR :=bkz a2.out 10) | ((with_reducible refine gate_clos rfl ?_);refine goesLC_ (some 57) rfl rfl Tryz.func15 (by kernel_rfl) rfl #[.pointer (some ⟨g,0,none⟩)] rfl rfl (by (try simp only [List.map_toArray,List.map_cons,List.map_nil]);first | done | rfl | (simp only [List.length_drop,List.length_take];rfl)) ?_;(with_reducible refine (pr_text.calls k1 g b8 b7 ao cn cm w0 _ ?side1 ?side2 A31.out).mono ?_);(case side1 => repeat (first | (with_reducible first | exact HI0.out | apply I5.alloc | apply I5.drewN | apply I5.drew | apply I5.set_0 | apply I5.set_1 | refine I5.far ?_ a7.out _) | exact HI0.out));(case side2 => repeat (first | (with_reducible first | exact HB.out | apply bwa | apply pwN | apply bw1 | refine bws ?_ (I5.ge HI0.out) | refine bws ?_ ax.out) | exact HB.out));rintro e w43 ⟨v196,rfl,aX,hi,hb,hk⟩;refine ⟨_,rfl,?_⟩;have aG :=AZ.mk (Kd.R_mono (Kd.R_told (Kd.R_oldK (I5.apart (show I5 w0 _ g b8 b7 from by repeat (first | (with_reducible first | exact HI0.out | apply I5.alloc | apply I5.drewN | apply I5.drew | apply I5.set_0 | apply I5.set_1 | refine I5.far ?_ a7.out _) | exact HI0.out)) (by (with_reducible repeat (first | apply Kd.R_alloc | apply Kd.R_drewN | apply Kd.R_drew));exact (Kd.R_mono (Kd.R_far (p :=⟨a3,9,none⟩) (Kd.R_types a6.out a2.out (by decide)) (fun _ hk => hk.2) (.bool ((Int.tmod ar 2) == 1))) (fun _ h_ => h_.1))) (by decide)) hk) (Kd.R_base aX)) (fun _ h_ => h_.1));have aE :=AZ.mk (Kd.R_mono (Kd.R_keep (I5.apart (show I5 w0 _ g b8 b7 from by repeat (first | (with_reducible first | exact HI0.out | apply I5.alloc | apply I5.drewN | apply I5.drew | apply I5.set_0 | apply I5.set_1 | refine I5.far ?_ a7.out _) | exact HI0.out)) (by (with_reducible repeat (first | apply Kd.R_alloc | apply Kd.R_drewN | apply Kd.R_drew));exact (Kd.R_mono (Kd.R_far (p :=⟨a3,9,none⟩) (Kd.R_types a4.out a2.out (by decide)) (fun _ hk => hk.2) (.bool ((Int.tmod ar 2) == 1))) (fun _ h_ => h_.1))) (by decide)) hk (fun _ h => h.2)) (fun _ h => h.1));have aD :=AZ.mk (KB.blk hk (g' :=a3) (o :=.cells #[.int .i64 (wrap64 (aa)),.string ab,.slice ae a9.length ad,.string (strOfNums ac),a8,.int .i64 (wrap64 (ag)),.slice aj af.length ah,.int .i64 (wrap64 (am)),.int .i64 (wrap64 (an)),.bool ((Int.tmod ar 2) == 1),.slice none 0 0] 46 (0,0)) (by (with_reducible repeat (first | apply bkN | apply bkd | apply bka));refine blk_put (cs :=#[.int .i64 (wrap64 (aa)),.string ab,.slice ae a9.length ad,.string (strOfNums ac),a8,.int .i64 (wrap64 (ag)),.slice aj af.length ah,.int .i64 (wrap64 (am)),.int .i64 (wrap64 (an)),.bool false,.slice none 0 0]) ?_ 9 _ rfl;(with_reducible repeat (first | apply bkN | apply bkd | apply bka));exact a2.out) ak.out (by simp));have aC :=AZ.mk (Kd.R_mono (Kd.R_told (Kd.R_oldK (I5.apart (show I5 w0 _ g b8 b7 from by repeat (first | (with_reducible first | exact HI0.out | apply I5.alloc | apply I5.drewN | apply I5.drew | apply I5.set_0 | apply I5.set_1 | refine I5.far ?_ a7.out _) | exact HI0.out)) (by (with_reducible repeat (first | apply Kd.R_alloc | apply Kd.R_drewN | apply Kd.R_drew));exact (Kd.R_mono (Kd.R_far (p :=⟨a3,9,none⟩) (Kd.R_types au.out a2.out (by decide)) (fun _ hk => hk.2) (.bool ((Int.tmod ar 2) == 1))) (fun _ h_ => h_.1))) (by decide)) hk) (Kd.R_base aX)) (fun _ h_ => h_.1));have aI :=AZ.mk (Kd.R_lower (Kd.R_new' aX (Kd.R_lt (by (with_reducible repeat (first | apply Kd.R_alloc | apply Kd.R_drewN | apply Kd.R_drew));exact (Kd.R_mono (Kd.R_far (p :=⟨a3,9,none⟩) (Kd.R_types au.out a2.out (by decide)) (fun _ hk => hk.2) (.bool ((Int.tmod ar 2) == 1))) (fun _ h_ => h_.1))))) (keep_size (w :=w) (g :=g) (row :=none) (by repeat (first | (with_reducible first | exact HK.out | apply KB.set_ | apply kpN | apply keep_drew | apply keep_alloc | refine keep_far ?_ al.out _) | exact HK.out))));have aM :=AZ.mk (KB.trans (by repeat (first | (with_reducible first | exact HK.out | apply KB.set_ | apply kpN | apply keep_drew | apply keep_alloc | refine keep_far ?_ al.out _) | exact HK.out)) hk (.inl rfl));have aQ :=AZ.mk (hb);have ck :=AZ.mk (hi);clear a6;clear a4;clear a2;clear au;clear HK;clear HB;clear HI0;have a6 :=aG;have a4 :=aE;have a2 :=aD;have au :=aC;have b0 :=aI;have HK :=aM;have HB :=aQ;have HI0 :=ck;clear aG aE aD aC aI aM aQ ck;(try clear hb);(try clear hb2);(try clear hk);(try clear hi);(try clear aX);obtain ⟨aw,av,eP⟩ :=Kd.R_slice b0.out;subst eP;have e8 : w43.cell? ⟨a3,0,none⟩ = some (.int .i64 (wrap64 (aa))) :=(bkc a2.out 0).trans rfl;have e7 : w43.cell? ⟨a3,1,none⟩ = some (.string ab) :=(bkc a2.out 1).trans rfl;have e6 : w43.cell? ⟨a3,2,none⟩ = some (.slice ae a9.length ad) :=(bkc a2.out 2).trans rfl;have e5 : w43.cell? ⟨a3,3,none⟩ = some (.string (strOfNums ac)) :=(bkc a2.out 3).trans rfl;have e4 : w43.cell? ⟨a3,4,none⟩ = some (a8) :=(bkc a2.out 4).trans rfl;have e3 : w43.cell? ⟨a3,5,none⟩ = some (.int .i64 (wrap64 (ag))) :=(bkc a2.out 5).trans rfl;have e2 : w43.cell? ⟨a3,6,none⟩ = some (.slice aj af.length ah) :=(bkc a2.out 6).trans rfl;have e1 : w43.cell? ⟨a3,7,none⟩ = some (.int .i64 (wrap64 (am))) :=(bkc a2.out 7).trans rfl;have e0 : w43.cell? ⟨a3,8,none⟩ = some (.int .i64 (wrap64 (an))) :=(bkc a2.out 8).trans rfl;have dZ : w43.cell? ⟨a3,9,none⟩ = some (.bool ((Int.tmod ar 2) == 1)) :=(bkc a2.out 9).trans rfl;have cV : w43.cell? ⟨a3,10,none⟩ = some (.slice none 0 0) :=(bkc a2.out 10).trans rfl;have di :=bkz a2.out 0;have dh :=bkz a2.out 1;have dg :=bkz a2.out 2;have df :=bkz a2.out 3;have de :=bkz a2.out 4;have dd :=bkz a2.out 5;have dc :=bkz a2.out 6;have db :=bkz a2.out 7;have da :=bkz a2.out 8;have d9 :=bkz a2.out 9;have cQ :=bkz a2.out 10;obtain ⟨aK,aJ,eO⟩ :=Kd.R_slice a4.out;subst eO) | ((with_reducible refine gate_store (t :=46) (p :=2) rfl ?_);refine store_event (t :=46) (p :=2) (v :=?vo_w47) (w1 :=((((((((((((w43.setCell ⟨a3,10,none⟩ (.slice aw ao.length av)).setCell ⟨a3,0,none⟩ (.int .i64 (wrap64 (aa)))).setCell ⟨a3,1,none⟩ (.string ab)).setCell ⟨a3,2,none⟩ (.slice ae a9.length ad)).setCell ⟨a3,3,none⟩ (.string (strOfNums ac))).setCell ⟨a3,4,none⟩ (.slice aK a5.length aJ)).setCell ⟨a3,5,none⟩ (.int .i64 (wrap64 (ag)))).setCell ⟨a3,6,none⟩ (.slice aj af.length ah)).setCell ⟨a3,7,none⟩ (.int .i64 (wrap64 (am)))).setCell ⟨a3,8,none⟩ (.int .i64 (wrap64 (an)))).setCell ⟨a3,9,none⟩ (.bool ((Int.tmod ar 2) == 1))).setCell ⟨a3,10,none⟩ (.slice aw ao.length av))) ?hg ?ho ?hn ?hr ?_;(case ho => rfl);(case hg => rfl);(case hn => rfl);(case hr => first | (go_simp;done) | (go_simp;rfl));intro w47 hw;have aG : AZ (Kd.R k83 83 w47 w.heap.size (fun k_ => some k_ ≠ (.slice aj af.length ah : Value).ownBlock ∧ some k_ ≠ (.slice aw ao.length av : Value).ownBlock) (.slice ae a9.length ad) a9) :=⟨(by rw [hw];exact (by (with_reducible repeat (first | apply Kd.R_alloc | apply Kd.R_drewN | apply Kd.R_drew));exact Kd.R_mono (Kd.R_far (p :=⟨a3,10,none⟩) (Kd.R_far (p :=⟨a3,9,none⟩) (Kd.R_far (p :=⟨a3,8,none⟩) (Kd.R_far (p :=⟨a3,7,none⟩) (Kd.R_far (p :=⟨a3,6,none⟩) (Kd.R_far (p :=⟨a3,5,none⟩) (Kd.R_far (p :=⟨a3,4,none⟩) (Kd.R_far (p :=⟨a3,3,none⟩) (Kd.R_far (p :=⟨a3,2,none⟩) (Kd.R_far (p :=⟨a3,1,none⟩) (Kd.R_far (p :=⟨a3,0,none⟩) (Kd.R_far (p :=⟨a3,10,none⟩) (Kd.R_types a6.out a2.out (by decide)) (fun _ hk => hk.2) (.slice aw ao.length av)) (fun _ hk => hk.2) (.int .i64 (wrap64 (aa)))) (fun _ hk => hk.2) (.string ab)) (fun _ hk => hk.2) (.slice ae a9.length ad)) (fun _ hk => hk.2) (.string (strOfNums ac))) (fun _ hk => hk.2) (.slice aK a5.length aJ)) (fun _ hk => hk.2) (.int .i64 (wrap64 (ag)))) (fun _ hk => hk.2) (.slice aj af.length ah)) (fun _ hk => hk.2) (.int .i64 (wrap64 (am)))) (fun _ hk => hk.2) (.int .i64 (wrap64 (an)))) (fun _ hk => hk.2) (.bool ((Int.tmod ar 2) == 1))) (fun _ hk => hk.2) (.slice aw ao.length av)) (fun _ hk => ⟨hk.1.1.2,hk.1.2⟩)))⟩;have aE : AZ (Kd.R Kd.string 9 w47 w.heap.size (fun _ => True) (.slice aK a5.length aJ) a5) :=⟨(by rw [hw];exact (by (with_reducible repeat (first | apply Kd.R_alloc | apply Kd.R_drewN | apply Kd.R_drew));exact Kd.R_mono (Kd.R_far (p :=⟨a3,10,none⟩) (Kd.R_far (p :=⟨a3,9,none⟩) (Kd.R_far (p :=⟨a3,8,none⟩) (Kd.R_far (p :=⟨a3,7,none⟩) (Kd.R_far (p :=⟨a3,6,none⟩) (Kd.R_far (p :=⟨a3,5,none⟩) (Kd.R_far (p :=⟨a3,4,none⟩) (Kd.R_far (p :=⟨a3,3,none⟩) (Kd.R_far (p :=⟨a3,2,none⟩) (Kd.R_far (p :=⟨a3,1,none⟩) (Kd.R_far (p :=⟨a3,0,none⟩) (Kd.R_far (p :=⟨a3,10,none⟩) (Kd.R_types a4.out a2.out (by decide)) (fun _ hk => hk.2) (.slice aw ao.length av)) (fun _ hk => hk.2) (.int .i64 (wrap64 (aa)))) (fun _ hk => hk.2) (.string ab)) (fun _ hk => hk.2) (.slice ae a9.length ad)) (fun _ hk => hk.2) (.string (strOfNums ac))) (fun _ hk => hk.2) (.slice aK a5.length aJ)) (fun _ hk => hk.2) (.int .i64 (wrap64 (ag)))) (fun _ hk => hk.2) (.slice aj af.length ah)) (fun _ hk => hk.2) (.int .i64 (wrap64 (am)))) (fun _ hk => hk.2) (.int .i64 (wrap64 (an)))) (fun _ hk => hk.2) (.bool ((Int.tmod ar 2) == 1))) (fun _ hk => hk.2) (.slice aw ao.length av)) (fun _ hk => trivial)))⟩;have aD : AZ (Kd.R (Kd.int .u8) 5 w47 w.heap.size (fun k_ => some k_ ≠ (.slice aw ao.length av : Value).ownBlock) (.slice aj af.length ah) af) :=⟨(by rw [hw];exact (by (with_reducible repeat (first | apply Kd.R_alloc | apply Kd.R_drewN | apply Kd.R_drew));exact Kd.R_mono (Kd.R_far (p :=⟨a3,10,none⟩) (Kd.R_far (p :=⟨a3,9,none⟩) (Kd.R_far (p :=⟨a3,8,none⟩) (Kd.R_far (p :=⟨a3,7,none⟩) (Kd.R_far (p :=⟨a3,6,none⟩) (Kd.R_far (p :=⟨a3,5,none⟩) (Kd.R_far (p :=⟨a3,4,none⟩) (Kd.R_far (p :=⟨a3,3,none⟩) (Kd.R_far (p :=⟨a3,2,none⟩) (Kd.R_far (p :=⟨a3,1,none⟩) (Kd.R_far (p :=⟨a3,0,none⟩) (Kd.R_far (p :=⟨a3,10,none⟩) (Kd.R_types au.out a2.out (by decide)) (fun _ hk => hk.2) (.slice aw ao.length av)) (fun _ hk => hk.2) (.int .i64 (wrap64 (aa)))) (fun _ hk => hk.2) (.string ab)) (fun _ hk => hk.2) (.slice ae a9.length ad)) (fun _ hk => hk.2) (.string (strOfNums ac))) (fun _ hk => hk.2) (.slice aK a5.length aJ)) (fun _ hk => hk.2) (.int .i64 (wrap64 (ag)))) (fun _ hk => hk.2) (.slice aj af.length ah)) (fun _ hk => hk.2) (.int .i64 (wrap64 (am)))) (fun _ hk => hk.2) (.int .i64 (wrap64 (an)))) (fun _ hk => hk.2) (.bool ((Int.tmod ar 2) == 1))) (fun _ hk => hk.2) (.slice aw ao.length av)) (fun _ hk => hk.1.2)))⟩;have aC : AZ (Kd.R (Kd.int .u8) 5 w47 w.heap.size (fun k_ => some k_ ≠ (.slice aj af.length ah : Value).ownBlock) (.slice aw ao.length av) ao) :=⟨(by rw [hw];exact (by (with_reducible repeat (first | apply Kd.R_alloc | apply Kd.R_drewN | apply Kd.R_drew));exact Kd.R_mono (Kd.R_far (p :=⟨a3,10,none⟩) (Kd.R_far (p :=⟨a3,9,none⟩) (Kd.R_far (p :=⟨a3,8,none⟩) (Kd.R_far (p :=⟨a3,7,none⟩) (Kd.R_far (p :=⟨a3,6,none⟩) (Kd.R_far (p :=⟨a3,5,none⟩) (Kd.R_far (p :=⟨a3,4,none⟩) (Kd.R_far (p :=⟨a3,3,none⟩) (Kd.R_far (p :=⟨a3,2,none⟩) (Kd.R_far (p :=⟨a3,1,none⟩) (Kd.R_far (p :=⟨a3,0,none⟩) (Kd.R_far (p :=⟨a3,10,none⟩) (Kd.R_types b0.out a2.out (by decide)) (fun _ hk => hk.2) (.slice aw ao.length av)) (fun _ hk => hk.2) (.int .i64 (wrap64 (aa)))) (fun _ hk => hk.2) (.string ab)) (fun _ hk => hk.2) (.slice ae a9.length ad)) (fun _ hk => hk.2) (.string (strOfNums ac))) (fun _ hk => hk.2) (.slice aK a5.length aJ)) (fun _ hk => hk.2) (.int .i64 (wrap64 (ag)))) (fun _ hk => hk.2) (.slice aj af.length ah)) (fun _ hk => hk.2) (.int .i64 (wrap64 (am)))) (fun _ hk => hk.2) (.int .i64 (wrap64 (an)))) (fun _ hk => hk.2) (.bool ((Int.tmod ar 2) == 1))) (fun _ hk => hk.2) (.slice aw ao.length av)) (fun _ hk => hk.1.2)))⟩;have aI : AZ (w47.heap[a3]? = some (.cells #[.int .i64 (wrap64 (aa)),.string ab,.slice ae a9.length ad,.string (strOfNums ac),.slice aK a5.length aJ,.int .i64 (wrap64 (ag)),.slice aj af.length ah,.int .i64 (wrap64 (am)),.int .i64 (wrap64 (an)),.bool ((Int.tmod ar 2) == 1),.slice aw ao.length av] 46 (0,0))) :=⟨(by rw [hw];exact (by (with_reducible repeat (first | apply bkN | apply bkd | apply bka));refine blk_put (cs :=#[.int .i64 (wrap64 (aa)),.string ab,.slice ae a9.length ad,.string (strOfNums ac),.slice aK a5.length aJ,.int .i64 (wrap64 (ag)),.slice aj af.length ah,.int .i64 (wrap64 (am)),.int .i64 (wrap64 (an)),.bool ((Int.tmod ar 2) == 1),.slice aw ao.length av]) ?_ 10 _ rfl;(with_reducible repeat (first | apply bkN | apply bkd | apply bka));refine blk_put (cs :=#[.int .i64 (wrap64 (aa)),.string ab,.slice ae a9.length ad,.string (strOfNums ac),.slice aK a5.length aJ,.int .i64 (wrap64 (ag)),.slice aj af.length ah,.int .i64 (wrap64 (am)),.int .i64 (wrap64 (an)),.bool ((Int.tmod ar 2) == 1),.slice aw ao.length av]) ?_ 9 _ rfl;(with_reducible repeat (first | apply bkN | apply bkd | apply bka));refine blk_put (cs :=#[.int .i64 (wrap64 (aa)),.string ab,.slice ae a9.length ad,.string (strOfNums ac),.slice aK a5.length aJ,.int .i64 (wrap64 (ag)),.slice aj af.length ah,.int .i64 (wrap64 (am)),.int .i64 (wrap64 (an)),.bool ((Int.tmod ar 2) == 1),.slice aw ao.length av]) ?_ 8 _ rfl;(with_reducible repeat (first | apply bkN | apply bkd | apply bka));refine blk_put (cs :=#[.int .i64 (wrap64 (aa)),.string ab,.slice ae a9.length ad,.string (strOfNums ac),.slice aK a5.length aJ,.int .i64 (wrap64 (ag)),.slice aj af.length ah,.int .i64 (wrap64 (am)),.int .i64 (wrap64 (an)),.bool ((Int.tmod ar 2) == 1),.slice aw ao.length av]) ?_ 7 _ rfl;(with_reducible repeat (first | apply bkN | apply bkd | apply bka));refine blk_put (cs :=#[.int .i64 (wrap64 (aa)),.string ab,.slice ae a9.length ad,.string (strOfNums ac),.slice aK a5.length aJ,.int .i64 (wrap64 (ag)),.slice aj af.length ah,.int .i64 (wrap64 (am)),.int .i64 (wrap64 (an)),.bool ((Int.tmod ar 2) == 1),.slice aw ao.length av]) ?_ 6 _ rfl;(with_reducible repeat (first | apply bkN | apply bkd | apply bka));refine blk_put (cs :=#[.int .i64 (wrap64 (aa)),.string ab,.slice ae a9.length ad,.string (strOfNums ac),.slice aK a5.length aJ,.int .i64 (wrap64 (ag)),.slice aj af.length ah,.int .i64 (wrap64 (am)),.int .i64 (wrap64 (an)),.bool ((Int.tmod ar 2) == 1),.slice aw ao.length av]) ?_ 5 _ rfl;(with_reducible repeat (first | apply bkN | apply bkd | apply bka));refine blk_put (cs :=#[.int .i64 (wrap64 (aa)),.string ab,.slice ae a9.length ad,.string (strOfNums ac),.slice aK a5.length aJ,.int .i64 (wrap64 (ag)),.slice aj af.length ah,.int .i64 (wrap64 (am)),.int .i64 (wrap64 (an)),.bool ((Int.tmod ar 2) == 1),.slice aw ao.length av]) ?_ 4 _ rfl;(with_reducible repeat (first | apply bkN | apply bkd | apply bka));refine blk_put (cs :=#[.int .i64 (wrap64 (aa)),.string ab,.slice ae a9.length ad,.string (strOfNums ac),.slice aK a5.length aJ,.int .i64 (wrap64 (ag)),.slice aj af.length ah,.int .i64 (wrap64 (am)),.int .i64 (wrap64 (an)),.bool ((Int.tmod ar 2) == 1),.slice aw ao.length av]) ?_ 3 _ rfl;(with_reducible repeat (first | apply bkN | apply bkd | apply bka));refine blk_put (cs :=#[.int .i64 (wrap64 (aa)),.string ab,.slice ae a9.length ad,.string (strOfNums ac),.slice aK a5.length aJ,.int .i64 (wrap64 (ag)),.slice aj af.length ah,.int .i64 (wrap64 (am)),.int .i64 (wrap64 (an)),.bool ((Int.tmod ar 2) == 1),.slice aw ao.length av]) ?_ 2 _ rfl;(with_reducible repeat (first | apply bkN | apply bkd | apply bka));refine blk_put (cs :=#[.int .i64 (wrap64 (aa)),.string ab,.slice ae a9.length ad,.string (strOfNums ac),.slice aK a5.length aJ,.int .i64 (wrap64 (ag)),.slice aj af.length ah,.int .i64 (wrap64 (am)),.int .i64 (wrap64 (an)),.bool ((Int.tmod ar 2) == 1),.slice aw ao.length av]) ?_ 1 _ rfl;(with_reducible repeat (first | apply bkN | apply bkd | apply bka));refine blk_put (cs :=#[.int .i64 (wrap64 (aa)),.string ab,.slice ae a9.length ad,.string (strOfNums ac),.slice aK a5.length aJ,.int .i64 (wrap64 (ag)),.slice aj af.length ah,.int .i64 (wrap64 (am)),.int .i64 (wrap64 (an)),.bool ((Int.tmod ar 2) == 1),.slice aw ao.length av]) ?_ 0 _ rfl;(with_reducible repeat (first | apply bkN | apply bkd | apply bka));refine blk_put (cs :=#[.int .i64 (wrap64 (aa)),.string ab,.slice ae a9.length ad,.string (strOfNums ac),.slice aK a5.length aJ,.int .i64 (wrap64 (ag)),.slice aj af.length ah,.int .i64 (wrap64 (am)),.int .i64 (wrap64 (an)),.bool ((Int.tmod ar 2) == 1),.slice none 0 0]) ?_ 10 _ rfl;(with_reducible repeat (first | apply bkN | apply bkd | apply bka));exact a2.out))⟩;have aM : AZ (I5 w0 w47 g cn cm) :=⟨(by rw [hw];exact (by repeat (first | (with_reducible first | exact HI0.out | apply I5.alloc | apply I5.drewN | apply I5.drew | apply I5.set_0 | apply I5.set_1 | refine I5.far ?_ a7.out _) | exact HI0.out)))⟩;have aQ : AZ (KB w w47 g none) :=⟨(by rw [hw];exact (by repeat (first | (with_reducible first | exact HK.out | apply KB.set_ | apply kpN | apply keep_drew | apply keep_alloc | refine keep_far ?_ al.out _) | exact HK.out)))⟩;have ck : AZ (Below w0.heap.size w0 w47) :=⟨(by rw [hw];exact (by repeat (first | (with_reducible first | exact HB.out | apply bwa | apply pwN | apply bw1 | refine bws ?_ (I5.ge HI0.out) | refine bws ?_ ax.out) | exact HB.out)))⟩;clear hw;clear a6;clear a4;clear au;clear b0;clear a2;clear HI0;clear HK;clear HB;have a6 :=aG;have a4 :=aE;have au :=aD;have b0 :=aC;have a2 :=aI;have HI0 :=aM;have HK :=aQ;have HB :=ck;clear aG aE aD aC aI aM aQ ck))
    refine bodyPost_ret (results_cell_row rfl _ _ a3 46 #[.int .i64 (wrap64 (aa)),.string ab,.slice ae a9.length ad,.string (strOfNums ac),.slice aK a5.length aJ,.int .i64 (wrap64 (ag)),.slice aj af.length ah,.int .i64 (wrap64 (am)),.int .i64 (wrap64 (an)),.bool ((Int.tmod ar 2) == 1),.slice aw ao.length av] (0,0) _ rfl (by (with_reducible repeat (first | apply bkN | apply bkd | apply bka));exact a2.out) Tryz.underlying46 rfl (by kernel_rfl)) rfl ?_
    exact ⟨_,_,_,_,by first | rfl | (simp [errW_none,errW_some] <;> rfl) | (simp [*,errW_none,errW_some] <;> rfl),by (with_reducible repeat (first | apply Kd.R_alloc | apply Kd.R_drewN | apply Kd.R_drew));exact a6.out,by (with_reducible repeat (first | apply Kd.R_alloc | apply Kd.R_drewN | apply Kd.R_drew));exact a4.out,by (with_reducible repeat (first | apply Kd.R_alloc | apply Kd.R_drewN | apply Kd.R_drew));exact au.out,by (with_reducible repeat (first | apply Kd.R_alloc | apply Kd.R_drewN | apply Kd.R_drew));exact b0.out,by repeat (first | (with_reducible first | exact HI0.out | apply I5.alloc | apply I5.drewN | apply I5.drew | apply I5.set_0 | apply I5.set_1 | refine I5.far ?_ a7.out _) | exact HI0.out),by repeat (first | (with_reducible first | exact HB.out | apply bwa | apply pwN | apply bw1 | refine bws ?_ (I5.ge HI0.out) | refine bws ?_ ax.out) | exact HB.out),by repeat (first | (with_reducible first | exact HK.out | apply KB.set_ | apply kpN | apply keep_drew | apply keep_alloc | refine keep_far ?_ al.out _) | exact HK.out)⟩
end Go.Proofs.YtlafgnanfkhobaaGreatDoor.P2
