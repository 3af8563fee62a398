import Derived.Test.YtlafgnanfkhobaaGreatDoorQS
import Derived.Test.YtlafgnanfkhobaaGreatDoorQ4
set_option linter.all false
namespace Go.Proofs.YtlafgnanfkhobaaGreatDoor.P2
open Go.RowKit Go.Proofs.YtlafgnanfkhobaaGreatDoorW.PrintWords Go.Proofs.YtlafgnanfkhobaaGreatDoorW.PrintLast Go.Proofs.YtlafgnanfkhobaaGreatDoorW.PrintMore
attribute [local go_sem] max2_int min2_int max_two min_two max_three min_three max_four min_four
def scT6 : Bool × List (List Nat × List Nat) :=(true,[([],[]),([0],[0]),([],[]),([1,2],[1,2]),([3],[3]),([],[]),([5],[5]),([],[]),([6,7],[6,7]),([8],[8]),([],[]),([],[]),([10,4,0,1,2,3,4,10,11],[4,10]),([11,9,12,0,1,2,3,4,5,6,7,8,9,10,11,12],[9,11])])
def scB6 : List Nat :=[0,1,0,7,15,0,32,0,224,480,0,0,3103,8191]
theorem sc_tab6 : rtab .any (opsOf Tryz.f45 6) = scT6 :=by kernel_rfl
theorem sc_bits6 : waitsOk scT6.2 scB6 = true :=by kernel_rfl
theorem cells2 {w : World} {b : Nat} {a0 a1 : Value} {t : TypeId} (h : w.heap[b]? = some (.cells #[a0,a1] t (0,0))) : w.cell? ⟨b,0,none⟩ = some a0 ∧ w.cell? ⟨b,1,none⟩ = some a1 :=⟨(bkc h 0).trans rfl,(bkc h 1).trans rfl⟩
theorem cells3 {w : World} {b : Nat} {a0 a1 a2 : Value} {t : TypeId} (h : w.heap[b]? = some (.cells #[a0,a1,a2] t (0,0))) : w.cell? ⟨b,0,none⟩ = some a0 ∧ w.cell? ⟨b,1,none⟩ = some a1 ∧ w.cell? ⟨b,2,none⟩ = some a2 :=⟨(bkc h 0).trans rfl,(bkc h 1).trans rfl,(bkc h 2).trans rfl⟩
set_option maxHeartbeats 4000000 in
set_option maxRecDepth 100000 in
theorem sameCommit_true {A B : Option Addr} {d1 d2 : Nat} {c : S43} {w : World} (h1 : Kd.C k83 w A c.f1.length c.f1) (h2 : Kd.C k83 w B c.f1.length c.f1) :
  Calls Tryz.prog 45 #[.agg #[.string c.f0,.slice A c.f1.length d1],.agg #[.string c.f0,.slice B c.f1.length d2]] w fun e w' => e = .returned (.bool true) ∧ Below w.heap.size w w' :=by
 have HB :=Below.refl w.heap.size w
 have hn63 : c.f1.length ≤ 9223372036854775807 :=h1.2.1
 go_enter Tryz.func45,Tryz.ntmps45
 go_wp2_with (first | ((with_reducible refine gate_dst (N :=2) rfl ?_);(refine box_event ?hg (N :=2) ?hd (cs :=#[.string c.f0,.slice A c.f1.length d1]) (t :=43) ?hr ?_;(case hd => rfl);(case hg => rfl);(case hr => first | (go_simp;done) | (go_simp;rfl));intro b hgb w1 BK hb;replace HB :=below_step HB hb;clear hb hgb)) | ((with_reducible refine gate_dst (N :=3) rfl ?_);(refine box_event ?hg2 (N :=3) ?hd2 (cs :=#[.string c.f0,.slice B c.f1.length d2]) (t :=43) ?hr2 ?_;(case hd2 => rfl);(case hg2 => rfl);(case hr2 => first | (go_simp;done) | (go_simp;rfl));intro b2 hgb w2 BL hb;replace HB :=below_step HB hb;replace BK :=blk_below BK hb;clear hb hgb;obtain ⟨k0,k1⟩ :=cells2 BK;obtain ⟨l0,l1⟩ :=cells2 BL)))
 go_loopw [5] (fun i wr => ∃ k : Nat,k ≤ c.f1.length ∧ i = .int .i64 k ∧ Below w.heap.size w wr ∧ wr.heap[b]? = some (.cells #[.string c.f0,.slice A c.f1.length d1] 43 (0,0)) ∧ wr.heap[b2]? = some (.cells #[.string c.f0,.slice B c.f1.length d2] 43 (0,0))) (fun i _ => c.f1.length - (intOf i).toNat)
 case atStart => exact ⟨0,Nat.zero_le _,rfl,HB,BK,BL⟩
 case round =>
  clear HB BK BL k0 k1 l0 l1
  obtain ⟨k,hk,rfl,HB,BK,BL⟩ :=hrel
  obtain ⟨k0,k1⟩ :=cells2 BK
  obtain ⟨l0,l1⟩ :=cells2 BL
  by_cases hkn : k < c.f1.length
  ·obtain ⟨a1,A1,c1,e1,g0,g1,g2,_,r1⟩ :=at_T83 h1 (k : Int) (by omega) (by omega)
   obtain ⟨a2,A2,c2,e2,p0,p1,p2,_,r2⟩ :=at_T83 h2 (k : Int) (by omega) (by omega)
   subst e1
   subst e2
   generalize rd_T83 c.f1 k = x at g0 g1 g2 p0 p1 p2 r1 r2
   replace g0 : wr.cell? (a1.add (k * 3)) = some (.string x.f0) :=(HB.cell (World.block_lt_of_cell? _ _ g0)).trans g0
   replace g1 : wr.cell? ⟨(a1.add (k * 3)).block,(a1.add (k * 3)).off + 1,none⟩ = some (.int .i64 x.f1) :=(HB.cell (World.block_lt_of_cell? _ _ g1)).trans g1
   replace g2 : wr.cell? ⟨(a1.add (k * 3)).block,(a1.add (k * 3)).off + 2,none⟩ = some (.slice A1 x.f2.length c1) :=(HB.cell (World.block_lt_of_cell? _ _ g2)).trans g2
   replace p0 : wr.cell? (a2.add (k * 3)) = some (.string x.f0) :=(HB.cell (World.block_lt_of_cell? _ _ p0)).trans p0
   replace p1 : wr.cell? ⟨(a2.add (k * 3)).block,(a2.add (k * 3)).off + 1,none⟩ = some (.int .i64 x.f1) :=(HB.cell (World.block_lt_of_cell? _ _ p1)).trans p1
   replace p2 : wr.cell? ⟨(a2.add (k * 3)).block,(a2.add (k * 3)).off + 2,none⟩ = some (.slice A2 x.f2.length c2) :=(HB.cell (World.block_lt_of_cell? _ _ p2)).trans p2
   have hkn' : (k : Int) < (c.f1.length : Int) :=by omega
   go_upto_region 6 with fail
   go_cut [6,7] (fun v6 v7 w' => ∃ p q,v6 = .pointer (some ⟨p,0,none⟩) ∧ v7 = .pointer (some ⟨q,0,none⟩) ∧ w'.heap[p]? = some (.cells #[.string x.f0,.int .i64 x.f1,.slice A1 x.f2.length c1] 83 (0,0)) ∧ w'.heap[q]? = some (.cells #[.string x.f0,.int .i64 x.f1,.slice A2 x.f2.length c2] 83 (0,0)) ∧ Below wr.heap.size wr w')
   case first =>
    have SS : ∀ w',Below wr.heap.size wr w' → (w'.cell? ⟨b,1,none⟩ = some (.slice (some a1) c.f1.length d1) ∧ w'.cell? ⟨b2,1,none⟩ = some (.slice (some a2) c.f1.length d2) ∧ w'.cell? (a1.add (k * 3)) = some (.string x.f0) ∧ w'.cell? ⟨(a1.add (k * 3)).block,(a1.add (k * 3)).off + 1,none⟩ = some (.int .i64 x.f1) ∧ w'.cell? ⟨(a1.add (k * 3)).block,(a1.add (k * 3)).off + 2,none⟩ = some (.slice A1 x.f2.length c1) ∧ w'.cell? (a2.add (k * 3)) = some (.string x.f0) ∧ w'.cell? ⟨(a2.add (k * 3)).block,(a2.add (k * 3)).off + 1,none⟩ = some (.int .i64 x.f1) ∧ w'.cell? ⟨(a2.add (k * 3)).block,(a2.add (k * 3)).off + 2,none⟩ = some (.slice A2 x.f2.length c2)) :=fun w' hb => ⟨pw_cell_below hb k1,pw_cell_below hb l1,pw_cell_below hb g0,pw_cell_below hb g1,pw_cell_below hb g2,pw_cell_below hb p0,pw_cell_below hb p1,pw_cell_below hb p2⟩
    have hw20 :=below_drew (Below.refl wr.heap.size wr)
    refine start_ (n :=14) (S :=fun w' => w'.cell? ⟨b,1,none⟩ = some (.slice (some a1) c.f1.length d1) ∧ w'.cell? ⟨b2,1,none⟩ = some (.slice (some a2) c.f1.length d2) ∧ w'.cell? (a1.add (k * 3)) = some (.string x.f0) ∧ w'.cell? ⟨(a1.add (k * 3)).block,(a1.add (k * 3)).off + 1,none⟩ = some (.int .i64 x.f1) ∧ w'.cell? ⟨(a1.add (k * 3)).block,(a1.add (k * 3)).off + 2,none⟩ = some (.slice A1 x.f2.length c1) ∧ w'.cell? (a2.add (k * 3)) = some (.string x.f0) ∧ w'.cell? ⟨(a2.add (k * 3)).block,(a2.add (k * 3)).off + 1,none⟩ = some (.int .i64 x.f1) ∧ w'.cell? ⟨(a2.add (k * 3)).block,(a2.add (k * 3)).off + 2,none⟩ = some (.slice A2 x.f2.length c2)) (ds :=[]) #[false,false,false,false,false,false,false,false,false,false,false,false,false,false] (by kernel_rfl) rfl rfl (SS _ hw20) (fun hHeld => ?_)
    refine with_tabW sc_tab6 sc_bits6 (fun HT_ HW_ => ?_)
    generalize wr.drew = w20 at hw20 hHeld ⊢
    refine pure_ (i :=0) (N :=some 30) (v :=?_) (a' :=?_) #[true,false,false,false,false,false,false,false,false,false,false,false,false,false] rfl rfl (any_of HT_.out (by kernel_rfl)) (fun _ _ _ h => h) (Or.inl ⟨by rfl,?_⟩) ?_ ?_
    rotate_left
    ·intro w'
     go_simp
     with_reducible rfl
    rotate_left
    ·simp only [Act.put,List.setIfInBounds_toArray,List.set_cons_zero,List.set_cons_succ,i64_w,i32_w]
     rfl
    refine pure_ (i :=2) (N :=some 32) (v :=?_) (a' :=?_) #[true,false,true,false,false,false,false,false,false,false,false,false,false,false] rfl rfl (any_of HT_.out (by kernel_rfl)) (fun _ _ _ h => h) (Or.inl ⟨by rfl,?_⟩) ?_ ?_
    rotate_left
    ·intro w'
     go_simp
     with_reducible rfl
    rotate_left
    ·simp only [Act.put,List.setIfInBounds_toArray,List.set_cons_zero,List.set_cons_succ,i64_w,i32_w]
     rfl
    refine pure_ (i :=5) (N :=some 35) (v :=?_) (a' :=?_) #[true,false,true,false,false,true,false,false,false,false,false,false,false,false] rfl rfl (any_of HT_.out (by kernel_rfl)) (fun _ _ _ h => h) (Or.inl ⟨by rfl,?_⟩) ?_ ?_
    rotate_left
    ·intro w'
     go_simp
     with_reducible rfl
    rotate_left
    ·simp only [Act.put,List.setIfInBounds_toArray,List.set_cons_zero,List.set_cons_succ,i64_w,i32_w]
     rfl
    refine pure_ (i :=7) (N :=some 37) (v :=?_) (a' :=?_) #[true,false,true,false,false,true,false,true,false,false,false,false,false,false] rfl rfl (any_of HT_.out (by kernel_rfl)) (fun _ _ _ h => h) (Or.inl ⟨by rfl,?_⟩) ?_ ?_
    rotate_left
    ·intro w'
     go_simp
     with_reducible rfl
    rotate_left
    ·simp only [Act.put,List.setIfInBounds_toArray,List.set_cons_zero,List.set_cons_succ,i64_w,i32_w]
     rfl
    refine take_ (i :=1) (N :=some 31) (v :=?_) (a' :=?_) #[true,true,true,false,false,true,false,true,false,false,false,false,false,false] rfl rfl (take_ofW HT_.out HW_.out (by kernel_rfl)) (fun _ _ _ h => h) (Or.inl ⟨by rfl,?_⟩) hHeld ?_ ?_
    rotate_left
    ·rintro w' ⟨s0,s1,s2,s3,s4,s5,s6,s7⟩
     go_simp
     with_reducible rfl
    rotate_left
    ·simp only [Act.put,List.setIfInBounds_toArray,List.set_cons_zero,List.set_cons_succ,i64_w,i32_w]
     rfl
    refine pure_ (i :=3) (N :=some 33) (v :=?_) (a' :=?_) #[true,true,true,true,false,true,false,true,false,false,false,false,false,false] rfl rfl (any_of HT_.out (by kernel_rfl)) (fun _ _ _ h => h) (Or.inl ⟨by rfl,?_⟩) ?_ ?_
    rotate_left
    ·intro w'
     go_simp
     with_reducible rfl
    rotate_left
    ·simp only [Act.put,List.setIfInBounds_toArray,List.set_cons_zero,List.set_cons_succ,i64_w,i32_w]
     rfl
    refine take_ (i :=4) (N :=some 34) (v :=?_) (a' :=?_) #[true,true,true,true,true,true,false,true,false,false,false,false,false,false] rfl rfl (take_ofW HT_.out HW_.out (by kernel_rfl)) (fun _ _ _ h => h) (Or.inl ⟨by rfl,?_⟩) hHeld ?_ ?_
    rotate_left
    ·rintro w' ⟨s0,s1,s2,s3,s4,s5,s6,s7⟩
     go_simp
     with_reducible rfl
    rotate_left
    ·simp only [Act.put,List.setIfInBounds_toArray,List.set_cons_zero,List.set_cons_succ,i64_w,i32_w]
     rfl
    refine take_ (i :=6) (N :=some 36) (v :=?_) (a' :=?_) #[true,true,true,true,true,true,true,true,false,false,false,false,false,false] rfl rfl (take_ofW HT_.out HW_.out (by kernel_rfl)) (fun _ _ _ h => h) (Or.inl ⟨by rfl,?_⟩) hHeld ?_ ?_
    rotate_left
    ·rintro w' ⟨s0,s1,s2,s3,s4,s5,s6,s7⟩
     go_simp
     with_reducible rfl
    rotate_left
    ·simp only [Act.put,List.setIfInBounds_toArray,List.set_cons_zero,List.set_cons_succ,i64_w,i32_w]
     rfl
    refine pure_ (i :=8) (N :=some 38) (v :=?_) (a' :=?_) #[true,true,true,true,true,true,true,true,true,false,false,false,false,false] rfl rfl (any_of HT_.out (by kernel_rfl)) (fun _ _ _ h => h) (Or.inl ⟨by rfl,?_⟩) ?_ ?_
    rotate_left
    ·intro w'
     go_simp
     with_reducible rfl
    rotate_left
    ·simp only [Act.put,List.setIfInBounds_toArray,List.set_cons_zero,List.set_cons_succ,i64_w,i32_w]
     rfl
    refine take_ (i :=9) (N :=some 39) (v :=?_) (a' :=?_) #[true,true,true,true,true,true,true,true,true,true,false,false,false,false] rfl rfl (take_ofW HT_.out HW_.out (by kernel_rfl)) (fun _ _ _ h => h) (Or.inl ⟨by rfl,?_⟩) hHeld ?_ ?_
    rotate_left
    ·rintro w' ⟨s0,s1,s2,s3,s4,s5,s6,s7⟩
     go_simp
     with_reducible rfl
    rotate_left
    ·simp only [Act.put,List.setIfInBounds_toArray,List.set_cons_zero,List.set_cons_succ,i64_w,i32_w]
     rfl
    refine two_ (i :=10) (j :=11) (Ni :=some 6) (Nj :=some 7) #[true,true,true,true,true,true,true,true,true,true,true,false,false,false] #[true,true,true,true,true,true,true,true,true,true,false,true,false,false] rfl rfl rfl rfl (two_of HT_.out (by kernel_rfl)) (by decide) (by decide) (fun K hK => ?_) (fun K hK => ?_)
    ·skip
     refine box_step ?hg (N :=6) ?hd (cs :=#[.string ⟨#[]⟩,.int .i64 0,.slice none 0 0]) (t :=83) ?hr ?_;(case hd => rfl);(case hg => rfl);(case hr => first | (go_simp;done) | (go_simp;rfl))
     intro p hgp w21 BP hb
     have hw21 :=below_step hw20 hb
     have Gp : wr.heap.size ≤ p :=by rw [hgp];exact hw20.size
     refine hK.out _ _ (SS _ hw21) (fun hHeld => ?_)
     clear hK K
     refine norm_ (a' :=?_) ?_ ?_
     rotate_left
     ·show Act.put _ (some 6) _ = _
      simp only [Act.put,List.setIfInBounds_toArray,List.set_cons_zero,List.set_cons_succ,i64_w,i32_w]
      rfl
     clear hb
     refine one_ (i :=11) (N :=some 7) #[true,true,true,true,true,true,true,true,true,true,true,true,false,false] rfl rfl (one_of HT_.out (by kernel_rfl)) (by decide) (fun K hK => ?_)
     refine box_step ?hg (N :=7) ?hd (cs :=#[.string ⟨#[]⟩,.int .i64 0,.slice none 0 0]) (t :=83) ?hr ?_;(case hd => rfl);(case hg => rfl);(case hr => first | (go_simp;done) | (go_simp;rfl))
     intro q hgq w22 BQ hb
     have hw22 :=below_step hw21 hb
     have Gq : wr.heap.size ≤ q :=by rw [hgq];exact hw21.size
     have NPQ : p ≠ q :=by rw [hgq];exact Nat.ne_of_lt (blk_lt BP)
     have NQP :=NPQ.symm
     replace BP :=blk_below BP hb
     refine hK.out _ _ (SS _ hw22) (fun hHeld => ?_)
     clear hK K
     refine norm_ (a' :=?_) ?_ ?_
     rotate_left
     ·show Act.put _ (some 7) _ = _
      simp only [Act.put,List.setIfInBounds_toArray,List.set_cons_zero,List.set_cons_succ,i64_w,i32_w]
      rfl
     clear hb hgp hgq
     refine one_ (i :=12) (N :=none) #[true,true,true,true,true,true,true,true,true,true,true,true,true,false] rfl rfl (one_of HT_.out (by kernel_rfl)) (by decide) (fun K hK => ?_)
     have x0 : w22.cell? ⟨p,0,none⟩ = _ :=(bkc BP 0).trans rfl
     have x1 : w22.cell? ⟨p,1,none⟩ = _ :=(bkc BP 1).trans rfl
     have x2 : w22.cell? ⟨p,2,none⟩ = _ :=(bkc BP 2).trans rfl
     have y0 :=bkz BP 0
     have y1 :=bkz BP 1
     have y2 :=bkz BP 2
     refine skip_ (w1 :=?_) (by rfl) rfl ?_ ?_
     rotate_left
     ·go_simp
      rfl
     clear x0 x1 x2 y0 y1 y2
     have hw23 : Below wr.heap.size wr (((w22.setCell ⟨p,0,none⟩ (.string x.f0)).setCell ⟨p,1,none⟩ (.int .i64 x.f1)).setCell ⟨p,2,none⟩ (.slice A1 x.f2.length c1)) :=bws (bws (bws hw22 Gp) Gp) Gp
     replace BP :=blk_set3 BP (.string x.f0) (.int .i64 x.f1) (.slice A1 x.f2.length c1)
     replace BQ :=blk_far (blk_far (blk_far BQ NQP (.string x.f0) (p :=⟨p,0,none⟩)) NQP (.int .i64 x.f1) (p :=⟨p,1,none⟩)) NQP (.slice A1 x.f2.length c1) (p :=⟨p,2,none⟩)
     refine hK.out _ _ (SS _ hw23) (fun hHeld => ?_)
     clear hK K
     generalize (((w22.setCell ⟨p,0,none⟩ (.string x.f0)).setCell ⟨p,1,none⟩ (.int .i64 x.f1)).setCell ⟨p,2,none⟩ (.slice A1 x.f2.length c1)) = w23 at BP BQ hw23 hHeld ⊢
     refine one_ (i :=13) (N :=none) #[true,true,true,true,true,true,true,true,true,true,true,true,true,true] rfl rfl (one_of HT_.out (by kernel_rfl)) (by decide) (fun K hK => ?_)
     have x0 : w23.cell? ⟨q,0,none⟩ = _ :=(bkc BQ 0).trans rfl
     have x1 : w23.cell? ⟨q,1,none⟩ = _ :=(bkc BQ 1).trans rfl
     have x2 : w23.cell? ⟨q,2,none⟩ = _ :=(bkc BQ 2).trans rfl
     have y0 :=bkz BQ 0
     have y1 :=bkz BQ 1
     have y2 :=bkz BQ 2
     refine skip_ (w1 :=?_) (by rfl) rfl ?_ ?_
     rotate_left
     ·go_simp
      rfl
     clear x0 x1 x2 y0 y1 y2
     have hw24 : Below wr.heap.size wr (((w23.setCell ⟨q,0,none⟩ (.string x.f0)).setCell ⟨q,1,none⟩ (.int .i64 x.f1)).setCell ⟨q,2,none⟩ (.slice A2 x.f2.length c2)) :=bws (bws (bws hw23 Gq) Gq) Gq
     replace BQ :=blk_set3 BQ (.string x.f0) (.int .i64 x.f1) (.slice A2 x.f2.length c2)
     replace BP :=blk_far (blk_far (blk_far BP NPQ (.string x.f0) (p :=⟨q,0,none⟩)) NPQ (.int .i64 x.f1) (p :=⟨q,1,none⟩)) NPQ (.slice A2 x.f2.length c2) (p :=⟨q,2,none⟩)
     refine hK.out _ _ (SS _ hw24) (fun hHeld => ?_)
     clear hK K
     generalize (((w23.setCell ⟨q,0,none⟩ (.string x.f0)).setCell ⟨q,1,none⟩ (.int .i64 x.f1)).setCell ⟨q,2,none⟩ (.slice A2 x.f2.length c2)) = w24 at BP BQ hw24 hHeld ⊢
     refine done_ (done_of HT_.out (by kernel_rfl)) ?_
     go_wp2_with fail
     go_meet
     exact ⟨p,q,rfl,rfl,BP,BQ,hw24⟩
    ·skip
     refine box_step ?hg (N :=7) ?hd (cs :=#[.string ⟨#[]⟩,.int .i64 0,.slice none 0 0]) (t :=83) ?hr ?_;(case hd => rfl);(case hg => rfl);(case hr => first | (go_simp;done) | (go_simp;rfl))
     intro q hgq w21 BQ hb
     have hw21 :=below_step hw20 hb
     have Gq : wr.heap.size ≤ q :=by rw [hgq];exact hw20.size
     refine hK.out _ _ (SS _ hw21) (fun hHeld => ?_)
     clear hK K
     refine norm_ (a' :=?_) ?_ ?_
     rotate_left
     ·show Act.put _ (some 7) _ = _
      simp only [Act.put,List.setIfInBounds_toArray,List.set_cons_zero,List.set_cons_succ,i64_w,i32_w]
      rfl
     clear hb
     refine one_ (i :=10) (N :=some 6) #[true,true,true,true,true,true,true,true,true,true,true,true,false,false] rfl rfl (one_of HT_.out (by kernel_rfl)) (by decide) (fun K hK => ?_)
     refine box_step ?hg (N :=6) ?hd (cs :=#[.string ⟨#[]⟩,.int .i64 0,.slice none 0 0]) (t :=83) ?hr ?_;(case hd => rfl);(case hg => rfl);(case hr => first | (go_simp;done) | (go_simp;rfl))
     intro p hgp w22 BP hb
     have hw22 :=below_step hw21 hb
     have Gp : wr.heap.size ≤ p :=by rw [hgp];exact hw21.size
     have NPQ : q ≠ p :=by rw [hgp];exact Nat.ne_of_lt (blk_lt BQ)
     replace NPQ :=NPQ.symm
     have NQP :=NPQ.symm
     replace BQ :=blk_below BQ hb
     refine hK.out _ _ (SS _ hw22) (fun hHeld => ?_)
     clear hK K
     refine norm_ (a' :=?_) ?_ ?_
     rotate_left
     ·show Act.put _ (some 6) _ = _
      simp only [Act.put,List.setIfInBounds_toArray,List.set_cons_zero,List.set_cons_succ,i64_w,i32_w]
      rfl
     clear hb hgp hgq
     refine one_ (i :=12) (N :=none) #[true,true,true,true,true,true,true,true,true,true,true,true,true,false] rfl rfl (one_of HT_.out (by kernel_rfl)) (by decide) (fun K hK => ?_)
     have x0 : w22.cell? ⟨p,0,none⟩ = _ :=(bkc BP 0).trans rfl
     have x1 : w22.cell? ⟨p,1,none⟩ = _ :=(bkc BP 1).trans rfl
     have x2 : w22.cell? ⟨p,2,none⟩ = _ :=(bkc BP 2).trans rfl
     have y0 :=bkz BP 0
     have y1 :=bkz BP 1
     have y2 :=bkz BP 2
     refine skip_ (w1 :=?_) (by rfl) rfl ?_ ?_
     rotate_left
     ·go_simp
      rfl
     clear x0 x1 x2 y0 y1 y2
     have hw23 : Below wr.heap.size wr (((w22.setCell ⟨p,0,none⟩ (.string x.f0)).setCell ⟨p,1,none⟩ (.int .i64 x.f1)).setCell ⟨p,2,none⟩ (.slice A1 x.f2.length c1)) :=bws (bws (bws hw22 Gp) Gp) Gp
     replace BP :=blk_set3 BP (.string x.f0) (.int .i64 x.f1) (.slice A1 x.f2.length c1)
     replace BQ :=blk_far (blk_far (blk_far BQ NQP (.string x.f0) (p :=⟨p,0,none⟩)) NQP (.int .i64 x.f1) (p :=⟨p,1,none⟩)) NQP (.slice A1 x.f2.length c1) (p :=⟨p,2,none⟩)
     refine hK.out _ _ (SS _ hw23) (fun hHeld => ?_)
     clear hK K
     generalize (((w22.setCell ⟨p,0,none⟩ (.string x.f0)).setCell ⟨p,1,none⟩ (.int .i64 x.f1)).setCell ⟨p,2,none⟩ (.slice A1 x.f2.length c1)) = w23 at BP BQ hw23 hHeld ⊢
     refine one_ (i :=13) (N :=none) #[true,true,true,true,true,true,true,true,true,true,true,true,true,true] rfl rfl (one_of HT_.out (by kernel_rfl)) (by decide) (fun K hK => ?_)
     have x0 : w23.cell? ⟨q,0,none⟩ = _ :=(bkc BQ 0).trans rfl
     have x1 : w23.cell? ⟨q,1,none⟩ = _ :=(bkc BQ 1).trans rfl
     have x2 : w23.cell? ⟨q,2,none⟩ = _ :=(bkc BQ 2).trans rfl
     have y0 :=bkz BQ 0
     have y1 :=bkz BQ 1
     have y2 :=bkz BQ 2
     refine skip_ (w1 :=?_) (by rfl) rfl ?_ ?_
     rotate_left
     ·go_simp
      rfl
     clear x0 x1 x2 y0 y1 y2
     have hw24 : Below wr.heap.size wr (((w23.setCell ⟨q,0,none⟩ (.string x.f0)).setCell ⟨q,1,none⟩ (.int .i64 x.f1)).setCell ⟨q,2,none⟩ (.slice A2 x.f2.length c2)) :=bws (bws (bws hw23 Gq) Gq) Gq
     replace BQ :=blk_set3 BQ (.string x.f0) (.int .i64 x.f1) (.slice A2 x.f2.length c2)
     replace BP :=blk_far (blk_far (blk_far BP NPQ (.string x.f0) (p :=⟨q,0,none⟩)) NPQ (.int .i64 x.f1) (p :=⟨q,1,none⟩)) NPQ (.slice A2 x.f2.length c2) (p :=⟨q,2,none⟩)
     refine hK.out _ _ (SS _ hw24) (fun hHeld => ?_)
     clear hK K
     generalize (((w23.setCell ⟨q,0,none⟩ (.string x.f0)).setCell ⟨q,1,none⟩ (.int .i64 x.f1)).setCell ⟨q,2,none⟩ (.slice A2 x.f2.length c2)) = w24 at BP BQ hw24 hHeld ⊢
     refine done_ (done_of HT_.out (by kernel_rfl)) ?_
     go_wp2_with fail
     go_meet
     exact ⟨p,q,rfl,rfl,BP,BQ,hw24⟩
   case rest =>
    obtain ⟨p,q,rfl,rfl,BP,BQ,hbw⟩ :=hcut
    replace BK :=blk_below BK hbw
    replace BL :=blk_below BL hbw
    replace HB :=below_step HB hbw
    clear k0 k1 l0 l1 g0 g1 g2 p0 p1 p2 hbw
    obtain ⟨g0,g1,g2⟩ :=cells3 BP
    obtain ⟨p0,p1,p2⟩ :=cells3 BQ
    have hn64 : x.f2.length ≤ 9223372036854775807 :=r1.2.1
    go_wp2
    go_loopw [8] (fun i wr => ∃ m : Nat,m ≤ x.f2.length ∧ i = .int .i64 m ∧ Below w.heap.size w wr ∧ wr.heap[b]? = some (.cells #[.string c.f0,.slice (some a1) c.f1.length d1] 43 (0,0)) ∧ wr.heap[b2]? = some (.cells #[.string c.f0,.slice (some a2) c.f1.length d2] 43 (0,0)) ∧ wr.heap[p]? = some (.cells #[.string x.f0,.int .i64 x.f1,.slice A1 x.f2.length c1] 83 (0,0)) ∧ wr.heap[q]? = some (.cells #[.string x.f0,.int .i64 x.f1,.slice A2 x.f2.length c2] 83 (0,0))) (fun i _ => x.f2.length - (intOf i).toNat)
    case atStart => exact ⟨0,Nat.zero_le _,rfl,HB,BK,BL,BP,BQ⟩
    case round =>
     clear HB BK BL BP BQ g0 g1 g2 p0 p1 p2
     obtain ⟨m,hm,rfl,HB,BK,BL,BP,BQ⟩ :=hrel
     obtain ⟨g0,g1,g2⟩ :=cells3 BP
     obtain ⟨p0,p1,p2⟩ :=cells3 BQ
     by_cases hmn : m < x.f2.length
     ·obtain ⟨y1,Y1,z1,e1,u0,u1,_,t1⟩ :=at_T85 r1 (m : Int) (by omega) (by omega)
      obtain ⟨y2,Y2,z2,e2,v0,v1,_,t2⟩ :=at_T85 r2 (m : Int) (by omega) (by omega)
      subst e1
      subst e2
      generalize rd_T85 x.f2 m = y at u0 u1 v0 v1 t1 t2
      replace u0 : wr.cell? (y1.add (m * 2)) = some (.string y.f0) :=(HB.cell (World.block_lt_of_cell? _ _ u0)).trans u0
      replace u1 : wr.cell? ⟨(y1.add (m * 2)).block,(y1.add (m * 2)).off + 1,none⟩ = some (.slice Y1 y.f1.length z1) :=(HB.cell (World.block_lt_of_cell? _ _ u1)).trans u1
      replace v0 : wr.cell? (y2.add (m * 2)) = some (.string y.f0) :=(HB.cell (World.block_lt_of_cell? _ _ v0)).trans v0
      replace v1 : wr.cell? ⟨(y2.add (m * 2)).block,(y2.add (m * 2)).off + 1,none⟩ = some (.slice Y2 y.f1.length z2) :=(HB.cell (World.block_lt_of_cell? _ _ v1)).trans v1
      have s1 :=fun n : Nat => Kd.C_string (P :=Tryz.prog) (c :=z1) Tryz.underlying22 Tryz.underlying5 Tryz.underlying9 (Kd.C_drewN (Kd.C_below t1 HB) n)
      have s2 :=fun n : Nat => Kd.C_string (P :=Tryz.prog) (c :=z2) Tryz.underlying22 Tryz.underlying5 Tryz.underlying9 (Kd.C_drewN (Kd.C_below t2 HB) n)
      have hmn' : (m : Int) < (x.f2.length : Int) :=by omega
      go_wp2
      repeat (go_quiet (fail);try go_wp2)
      go_roundw
      case measure => simp only [intOf];omega
      case rel => exact ⟨m + 1,by omega,rfl,pwN HB _,bkN BK _,bkN BL _,bkN BP _,bkN BQ _⟩
     ·have hmn' : ¬ (m : Int) < (x.f2.length : Int) :=by omega
      go_wp2
      go_roundw
      case measure => simp only [intOf];omega
      case rel => exact ⟨k + 1,by omega,rfl,HB,BK,BL⟩
  ·have hkn' : ¬ (k : Int) < (c.f1.length : Int) :=by omega
   go_wp2
   go_ret
   exact ⟨rfl,HB⟩
end Go.Proofs.YtlafgnanfkhobaaGreatDoor.P2
