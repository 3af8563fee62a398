import Derived.Test.YtlafgnanfkhobaaGreatDoorQS
import Derived.Test.YtlafgnanfkhobaaGreatDoorQ4
namespace Go.Proofs.YtlafgnanfkhobaaGreatDoor.P2
open Go.RowKit Go.Proofs.YtlafgnanfkhobaaGreatDoorW.PrintWords Go.Proofs.YtlafgnanfkhobaaGreatDoorW.PrintLast Go.Proofs.YtlafgnanfkhobaaGreatDoorW.PrintMore
attribute [local go_sem] max2_int min2_int max_two min_two max_three min_three max_four min_four
def encStep (s : S48) : List Int :=be (IntKind.u64.wrap s.f0) 1 ++ (if s.f0 = 1 then encReq s.f1 else if s.f0 = 2 then be (IntKind.u64.wrap s.f2) 2 else if s.f0 = 3 then txt s.f3 else [])
def okStep (s : S48) : Prop :=okReq s.f1 ∧ s.f3.length ≤ 255 ∧ (encStep s).length ≤ 100000 ∧ ∃ k,pDe.f k (encStep s) = some [s]
def encT14 : Bool × List (List Nat × List Nat) :=(true,[([],[]),([0],[0]),([1],[1]),([2],[2]),([3],[3]),([4,3],[3,4]),([5,3],[3,5]),([3],[3]),([6,7,3,3],[3,6,7]),([3,8],[3,8])])
def encB14 : List Nat :=[0,1,3,7,15,31,63,15,255,511]
theorem enc_tab14 : rtab .any (opsOf Tryz.f7 14) = encT14 :=by kernel_rfl
theorem enc_bits14 : waitsOk encT14.2 encB14 = true :=by kernel_rfl
set_option maxHeartbeats 4000000 in
set_option maxRecDepth 100000 in
theorem encode_calls (A0 : Option Addr) (c0 : Nat) (l : List S48) (w : World) (hr0 : Kd.C k48 w A0 l.length l) (hok : ∀ s ∈ l,okStep s) (hl : l.length ≤ 1000) :
  Calls Tryz.prog 7 #[.slice A0 l.length c0] w fun e w' => ∃ v0_ : Value,e = .returned v0_ ∧ Kd.R (Kd.int .u8) 5 w' w.heap.size (fun _ => True) v0_ (l.flatMap encStep) ∧ Below w.heap.size w w' :=by
 have hn63 : l.length ≤ 9223372036854775807 :=hr0.2.1
 go_enter Tryz.func7,Tryz.ntmps7
 go_wp2
 go_loopw [2,9] (fun v2 i wr => ∃ k : Nat,k ≤ l.length ∧ i = .int .i64 k ∧ Kd.R (Kd.int .u8) 5 wr w.heap.size (fun _ => True) v2 ((l.take k).flatMap encStep) ∧ ((l.take k).flatMap encStep).length ≤ 100000 * k ∧ Below w.heap.size w wr) (fun _ i _ => l.length - (intOf i).toNat)
 case atStart => exact ⟨0,Nat.zero_le _,rfl,Kd.R_nil _ _ _ _ _,by simp,Below.refl _ _⟩
 case round =>
  obtain ⟨k,hk,rfl,HO,hlen,HB⟩ :=hrel
  by_cases hkn : k < l.length
  ·obtain ⟨ad,A3,c3,A5,c5,A7,c7,A11,c11,A13,c13,eA,g0,g1,g2,g3,g4,g5,g6,g7,g8,g9,g10,g11,g12,g13,l3,r3,l5,r5,l7,r7,l11,r11,l13,r13⟩ :=at_T48 hr0 (k : Int) (by omega) (by omega)
   have hsk : rd_T48 l k = l[k] :=by simp [rd_T48,hkn]
   obtain ⟨s,hs⟩ : ∃ s,s = l[k] :=⟨_,rfl⟩
   rw [hsk,← hs] at g0 g1 g2 g3 g4 g5 g6 g7 g8 g9 g10 g11 g12 g13 l3 r3 l5 r5 l7 r7 l11 r11 l13 r13
   obtain ⟨o1,o2,o3,K,o4⟩ :=hok _ (List.getElem_mem hkn)
   rw [← hs] at o1 o2 o3 o4
   replace hs :=AZ.mk hs
   replace o4 :=AZ.mk o4
   clear hsk
   subst eA
   have hBc : ∀ {a : Addr} {v : Value},w.cell? a = some v → wr.cell? a = some v :=fun h => (HB.cell (World.block_lt_of_cell? _ _ h)).trans h
   simp only [Int.toNat_natCast] at g0 g1 g2 g3 g4 g5 g6 g7 g8 g9 g10 g11 g12 g13
   replace g0 :=hBc g0
   replace g1 :=hBc g1
   replace g2 :=hBc g2
   replace g3 :=hBc g3
   replace g4 :=hBc g4
   replace g5 :=hBc g5
   replace g6 :=hBc g6
   replace g7 :=hBc g7
   replace g8 :=hBc g8
   replace g9 :=hBc g9
   replace g10 :=hBc g10
   replace g11 :=hBc g11
   replace g12 :=hBc g12
   replace g13 :=hBc g13
   clear hBc
   replace r3 :=Kd.C_below r3 HB
   replace r5 :=Kd.C_below r5 HB
   replace r7 :=Kd.C_below r7 HB
   replace r11 :=Kd.C_below r11 HB
   replace r13 :=Kd.C_below r13 HB
   have hkn' : (k : Int) < (l.length : Int) :=by omega
   have hkind : (AZ (s.f0 = 1) ∧ (s.f0 == 1) = true ∧ (s.f0 == 2) = false ∧ (s.f0 == 3) = false) ∨ (AZ (s.f0 = 2) ∧ (s.f0 == 1) = false ∧ (s.f0 == 2) = true ∧ (s.f0 == 3) = false) ∨ (AZ (s.f0 = 3) ∧ (s.f0 == 1) = false ∧ (s.f0 == 2) = false ∧ (s.f0 == 3) = true) ∨ (AZ (¬ s.f0 = 1 ∧ ¬ s.f0 = 2 ∧ ¬ s.f0 = 3) ∧ (s.f0 == 1) = false ∧ (s.f0 == 2) = false ∧ (s.f0 == 3) = false) :=by
    by_cases h1 : s.f0 = 1
    ·exact .inl ⟨⟨h1⟩,by simp [h1],by simp [h1],by simp [h1]⟩
    ·by_cases h2 : s.f0 = 2
     ·exact .inr (.inl ⟨⟨h2⟩,by simp [h2],by simp [h2],by simp [h2]⟩)
     ·by_cases h3 : s.f0 = 3
      ·exact .inr (.inr (.inl ⟨⟨h3⟩,by simp [h3],by simp [h3],by simp [h3]⟩))
      ·exact .inr (.inr (.inr ⟨⟨h1,h2,h3⟩,by simp [h1],by simp [h2],by simp [h3]⟩))
   go_upto_block 2 with (first | ((with_reducible refine gate_dst (N :=14) rfl ?_);(refine box_event ?hg (N :=14) ?hd (cs :=#[.slice none 0 0]) (t :=58) ?hr ?_;(case hd => rfl);(case hg => rfl);(case hr => first | (go_simp;done) | (go_simp;rfl));intro g hgg w1 hbox hb;have BP :=blk_below (blk_new wr (.cells #[.int .i64 s.f0,.int .i64 s.f1.f0,.string s.f1.f1.f0,.slice A3 s.f1.f1.f1.length c3,.string s.f1.f2,.slice A5 s.f1.f3.length c5,.int .i64 s.f1.f4,.slice A7 s.f1.f5.length c7,.int .i64 s.f1.f6,.int .i64 s.f1.f7,.bool s.f1.f8,.slice A11 s.f1.f9.length c11,.int .i64 s.f2,.slice A13 s.f3.length c13] 48)) hb;have NP : wr.heap.size ≠ g :=(by rw [hgg];exact Nat.ne_of_lt (blk_lt (blk_new wr _)));have hI : St wr w1 g (.slice none 0 0) [] 0 :=⟨⟨hbox,(by rw [hgg];exact (bwa (Below.refl wr.heap.size wr) _).size),Kd.R_nil _ _ _ _ _⟩,below_step (bwa (Below.refl _ _) _) hb,(by unfold LenOk;simp)⟩;clear hgg hb hbox;obtain ⟨p0,p1,p2,p3,p4,p5,p6,p7,p8,p9,p10,p11,p12,p13⟩ :=cells14 BP;have q0 :=(bkc hI.1.1 0).trans rfl)) | (go_at_call 16;((with_reducible refine (snum1 hI (u64_rng _) (by omega)).mono ?_);rintro e wn ⟨rfl,vn,hS,hKn⟩;replace BP :=hI.1.blk hKn BP NP (by decide);replace hI :=hS;clear hS hKn p0 p1 p2 p3 p4 p5 p6 p7 p8 p9 p10 p11 p12 p13 q0;obtain ⟨p0,p1,p2,p3,p4,p5,p6,p7,p8,p9,p10,p11,p12,p13⟩ :=cells14 BP;have q0 :=(bkc hI.1.1 0).trans rfl)))
   go_cut [] (fun w' => ∃ vn,IsW wr w' g vn (encStep s) ∧ Below wr.heap.size wr w' ∧ w'.heap[wr.heap.size]? = some (.cells #[.int .i64 s.f0,.int .i64 s.f1.f0,.string s.f1.f1.f0,.slice A3 s.f1.f1.f1.length c3,.string s.f1.f2,.slice A5 s.f1.f3.length c5,.int .i64 s.f1.f4,.slice A7 s.f1.f5.length c7,.int .i64 s.f1.f6,.int .i64 s.f1.f7,.bool s.f1.f8,.slice A11 s.f1.f9.length c11,.int .i64 s.f2,.slice A13 s.f3.length c13] 48 (0,0)))
   case first =>
    rcases hkind with ⟨hk,b1,b2,b3⟩ | ⟨hk,b1,b2,b3⟩ | ⟨hk,b1,b2,b3⟩ | ⟨hk,b1,b2,b3⟩
    all_goals
     go_wp2_with (first | (go_at_call 16;((with_reducible refine (snum2 hI (u64_rng _) (by omega)).mono ?_);rintro e wn ⟨rfl,vn,hS,hKn⟩;replace BP :=hI.1.blk hKn BP NP (by decide);replace hI :=hS;clear hS hKn p0 p1 p2 p3 p4 p5 p6 p7 p8 p9 p10 p11 p12 p13 q0;obtain ⟨p0,p1,p2,p3,p4,p5,p6,p7,p8,p9,p10,p11,p12,p13⟩ :=cells14 BP;have q0 :=(bkc hI.1.1 0).trans rfl)) | (go_at_call 18;((with_reducible refine (stextC hI r13 o2 (by omega)).mono ?_);rintro e wn ⟨rfl,vn,hS,hKn⟩;replace BP :=hI.1.blk hKn BP NP (by decide);replace hI :=hS;clear hS hKn p0 p1 p2 p3 p4 p5 p6 p7 p8 p9 p10 p11 p12 p13 q0;obtain ⟨p0,p1,p2,p3,p4,p5,p6,p7,p8,p9,p10,p11,p12,p13⟩ :=cells14 BP;have q0 :=(bkc hI.1.1 0).trans rfl)) | (go_at_call 17;((refine (writer_request.calls g _ _ s.f1 A3 c3 A5 c5 A7 c7 A11 c11 wr _ hI.1 hI.2.1 r3 r5 r7 r11 o1 (by unfold LenOk;simp [be_length])).mono ?_);rintro e wn ⟨rfl,vn,hS1,hKn⟩;have hS : St wr wn g vn _ 100 :=⟨hS1,hKn.1,(by unfold LenOk;rw [encStep,if_pos hk.out] at o3;simp only [List.nil_append,List.length_append] at o3 ⊢;omega)⟩;clear hS1;replace BP :=hI.1.blk hKn BP NP (by decide);replace hI :=hS;clear hS hKn p0 p1 p2 p3 p4 p5 p6 p7 p8 p9 p10 p11 p12 p13 q0;obtain ⟨p0,p1,p2,p3,p4,p5,p6,p7,p8,p9,p10,p11,p12,p13⟩ :=cells14 BP;have q0 :=(bkc hI.1.1 0).trans rfl)))
     go_meet
     exact ⟨_,(by have hx :=hI.1;simpa [encStep,hk.out] using hx),hI.2.1,BP⟩
   case rest =>
    clear hkind hI BP p0 p1 p2 p3 p4 p5 p6 p7 p8 p9 p10 p11 p12 p13 q0
    obtain ⟨vn,hIe,hbw,BP⟩ :=hcut
    obtain ⟨Ar,cr,er⟩ :=Kd.R_slice hIe.2.2
    subst er
    have hrd :=Kd.R_reads' hIe.2.2
    have q0 :=(bkc hIe.1 0).trans rfl
    go_wp2_with (go_at_call 6;(refine (pDe.calls K Ar cr (encStep s) [s] _ hrd.2.2 hrd.2.1 o4.out).mono ?_;rintro e wd ⟨vm,rfl,HM,hbm⟩;clear hrd;replace BP :=blk_below BP hbm;have hW :=hIe.below hbm;replace hbw :=below_step hbw hbm;clear hIe hbm;obtain ⟨p0,p1,p2,p3,p4,p5,p6,p7,p8,p9,p10,p11,p12,p13⟩ :=cells14 BP;have q0 :=(bkc hW.1 0).trans rfl;obtain ⟨Am,cm,em⟩ :=Kd.R_slice HM;subst em))
    obtain ⟨am,B3,d3,B5,d5,B7,d7,B11,d11,B13,d13,eAm,m0,m1,m2,m3,m4,m5,m6,m7,m8,m9,m10,m11,m12,m13,_,y3,_,y5,_,y7,_,y11,_,y13⟩ :=at_T48 (Kd.R_reads' HM).2.2 0 (by decide) (by simp)
    rw [show rd_T48 [s] 0 = s from rfl] at m0 m1 m2 m3 m4 m5 m6 m7 m8 m9 m10 m11 m12 m13 y3 y5 y7 y11 y13
    subst eAm
    have hz : am.add 0 = am :=by simp [Addr.add]
    simp only [Int.toNat_zero,Nat.zero_mul,hz] at m0 m1 m2 m3 m4 m5 m6 m7 m8 m9 m10 m11 m12 m13
    clear hz
    refine start_ (n :=10) (S :=fun w' => w'.cell? ⟨wr.heap.size,0,none⟩ = some (.int .i64 s.f0) ∧ w'.cell? ⟨wr.heap.size,1,none⟩ = some (.int .i64 s.f1.f0) ∧ w'.cell? ⟨wr.heap.size,2,none⟩ = some (.string s.f1.f1.f0) ∧ w'.cell? ⟨wr.heap.size,3,none⟩ = some (.slice A3 s.f1.f1.f1.length c3) ∧ w'.cell? ⟨wr.heap.size,4,none⟩ = some (.string s.f1.f2) ∧ w'.cell? ⟨wr.heap.size,5,none⟩ = some (.slice A5 s.f1.f3.length c5) ∧ w'.cell? ⟨wr.heap.size,6,none⟩ = some (.int .i64 s.f1.f4) ∧ w'.cell? ⟨wr.heap.size,7,none⟩ = some (.slice A7 s.f1.f5.length c7) ∧ w'.cell? ⟨wr.heap.size,8,none⟩ = some (.int .i64 s.f1.f6) ∧ w'.cell? ⟨wr.heap.size,9,none⟩ = some (.int .i64 s.f1.f7) ∧ w'.cell? ⟨wr.heap.size,10,none⟩ = some (.bool s.f1.f8) ∧ w'.cell? ⟨wr.heap.size,11,none⟩ = some (.slice A11 s.f1.f9.length c11) ∧ w'.cell? ⟨wr.heap.size,12,none⟩ = some (.int .i64 s.f2) ∧ w'.cell? ⟨wr.heap.size,13,none⟩ = some (.slice A13 s.f3.length c13) ∧ w'.cell? am = some (.int .i64 s.f0) ∧ w'.cell? ⟨am.block,am.off + 1,none⟩ = some (.int .i64 s.f1.f0) ∧ w'.cell? ⟨am.block,am.off + 2,none⟩ = some (.string s.f1.f1.f0) ∧ w'.cell? ⟨am.block,am.off + 3,none⟩ = some (.slice B3 s.f1.f1.f1.length d3) ∧ w'.cell? ⟨am.block,am.off + 4,none⟩ = some (.string s.f1.f2) ∧ w'.cell? ⟨am.block,am.off + 5,none⟩ = some (.slice B5 s.f1.f3.length d5) ∧ w'.cell? ⟨am.block,am.off + 6,none⟩ = some (.int .i64 s.f1.f4) ∧ w'.cell? ⟨am.block,am.off + 7,none⟩ = some (.slice B7 s.f1.f5.length d7) ∧ w'.cell? ⟨am.block,am.off + 8,none⟩ = some (.int .i64 s.f1.f6) ∧ w'.cell? ⟨am.block,am.off + 9,none⟩ = some (.int .i64 s.f1.f7) ∧ w'.cell? ⟨am.block,am.off + 10,none⟩ = some (.bool s.f1.f8) ∧ w'.cell? ⟨am.block,am.off + 11,none⟩ = some (.slice B11 s.f1.f9.length d11) ∧ w'.cell? ⟨am.block,am.off + 12,none⟩ = some (.int .i64 s.f2) ∧ w'.cell? ⟨am.block,am.off + 13,none⟩ = some (.slice B13 s.f3.length d13)) (ds :=[]) #[false,false,false,false,false,false,false,false,false,false] (by kernel_rfl) rfl rfl ⟨p0,p1,p2,p3,p4,p5,p6,p7,p8,p9,p10,p11,p12,p13,m0,m1,m2,m3,m4,m5,m6,m7,m8,m9,m10,m11,m12,m13⟩ (fun hHeld => ?_)
    refine with_tabW enc_tab14 enc_bits14 (fun HT_ HW_ => ?_)
    replace BP :=bkd BP
    have hW1 :=hW.1
    replace hW : IsW wr wd.drew g (.slice Ar (encStep s).length cr) (encStep s) :=⟨bkd hW.1,hW.2.1,Kd.R_drew hW.2.2⟩
    replace hbw :=below_drew hbw
    replace y3 :=Kd.C_drew y3
    replace y5 :=Kd.C_drew y5
    replace y7 :=Kd.C_drew y7
    replace y11 :=Kd.C_drew y11
    replace y13 :=Kd.C_drew y13
    clear hW1 p0 p1 p2 p3 p4 p5 p6 p7 p8 p9 p10 p11 p12 p13 m0 m1 m2 m3 m4 m5 m6 m7 m8 m9 m10 m11 m12 m13 q0
    generalize wd.drew = w20 at BP hW hbw y3 y5 y7 y11 y13 hHeld ⊢
    refine pure_ (i :=0) (N :=some 46) (v :=?_) (a' :=?_) #[true,false,false,false,false,false,false,false,false,false] rfl rfl (any_of HT_.out (by kernel_rfl)) (fun _ _ _ h => h) (Or.inl ⟨by rfl,?_⟩) ?_ ?_
    rotate_left
    ·intro w'
     go_simp
     with_reducible rfl
    rotate_left
    ·simp only [Act.put,List.setIfInBounds_toArray,List.set_cons_zero,List.set_cons_succ,i64_w,i32_w]
     rfl
    refine pure_ (i :=1) (N :=some 47) (v :=?_) (a' :=?_) #[true,true,false,false,false,false,false,false,false,false] rfl rfl (any_of HT_.out (by kernel_rfl)) (fun _ _ _ h => h) (Or.inl ⟨by rfl,?_⟩) ?_ ?_
    rotate_left
    ·intro w'
     go_simp
     with_reducible rfl
    rotate_left
    ·simp only [Act.put,List.setIfInBounds_toArray,List.set_cons_zero,List.set_cons_succ,i64_w,i32_w]
     rfl
    refine pure_ (i :=2) (N :=some 48) (v :=?_) (a' :=?_) #[true,true,true,false,false,false,false,false,false,false] rfl rfl (any_of HT_.out (by kernel_rfl)) (fun _ _ _ h => h) (Or.inl ⟨by rfl,?_⟩) ?_ ?_
    rotate_left
    ·intro w'
     go_simp
     with_reducible rfl
    rotate_left
    ·simp only [Act.put,List.setIfInBounds_toArray,List.set_cons_zero,List.set_cons_succ,i64_w,i32_w]
     rfl
    refine pure_ (i :=3) (N :=some 49) (v :=?_) (a' :=?_) #[true,true,true,true,false,false,false,false,false,false] rfl rfl (any_of HT_.out (by kernel_rfl)) (fun _ _ _ h => h) (Or.inl ⟨by rfl,?_⟩) ?_ ?_
    rotate_left
    ·intro w'
     go_simp
     with_reducible rfl
    rotate_left
    ·simp only [Act.put,List.setIfInBounds_toArray,List.set_cons_zero,List.set_cons_succ,i64_w,i32_w]
     rfl
    refine pure_ (i :=4) (N :=some 50) (v :=?_) (a' :=?_) #[true,true,true,true,true,false,false,false,false,false] rfl rfl (any_of HT_.out (by kernel_rfl)) (fun _ _ _ h => h) (Or.inl ⟨by rfl,?_⟩) ?_ ?_
    rotate_left
    ·intro w'
     go_simp
     with_reducible rfl
    rotate_left
    ·simp only [Act.put,List.setIfInBounds_toArray,List.set_cons_zero,List.set_cons_succ,i64_w,i32_w]
     rfl
    refine pure_ (i :=5) (N :=some 51) (v :=?_) (a' :=?_) #[true,true,true,true,true,true,false,false,false,false] rfl rfl (any_of HT_.out (by kernel_rfl)) (fun _ _ _ h => h) (Or.inl ⟨by rfl,?_⟩) ?_ ?_
    rotate_left
    ·intro w'
     go_simp
     with_reducible rfl
    rotate_left
    ·simp only [Act.put,List.setIfInBounds_toArray,List.set_cons_zero,List.set_cons_succ,i64_w,i32_w]
     rfl
    refine take_ (i :=6) (N :=some 52) (v :=?_) (a' :=?_) #[true,true,true,true,true,true,true,false,false,false] rfl rfl (take_ofW HT_.out HW_.out (by kernel_rfl)) (fun _ _ _ h => h) (Or.inl ⟨by rfl,?_⟩) hHeld ?_ ?_
    rotate_left
    ·rintro w' ⟨s0,s1,s2,s3,s4,s5,s6,s7,s8,s9,s10,s11,s12,s13,s14,s15,s16,s17,s18,s19,s20,s21,s22,s23,s24,s25,s26,s27⟩
     go_simp
     with_reducible rfl
    rotate_left
    ·simp only [Act.put,List.setIfInBounds_toArray,List.set_cons_zero,List.set_cons_succ,i64_w,i32_w]
     rfl
    refine take_ (i :=7) (N :=some 53) (v :=?_) (a' :=?_) #[true,true,true,true,true,true,true,true,false,false] rfl rfl (take_ofW HT_.out HW_.out (by kernel_rfl)) (fun _ _ _ h => h) (Or.inl ⟨by rfl,?_⟩) hHeld ?_ ?_
    rotate_left
    ·rintro w' ⟨s0,s1,s2,s3,s4,s5,s6,s7,s8,s9,s10,s11,s12,s13,s14,s15,s16,s17,s18,s19,s20,s21,s22,s23,s24,s25,s26,s27⟩
     go_simp
     with_reducible rfl
    rotate_left
    ·simp only [Act.put,List.setIfInBounds_toArray,List.set_cons_zero,List.set_cons_succ,i64_w,i32_w]
     rfl
    obtain ⟨s0,s1,s2,s3,s4,s5,s6,s7,s8,s9,s10,s11,s12,s13,s14,s15,s16,s17,s18,s19,s20,s21,s22,s23,s24,s25,s26,s27⟩ :=hHeld
    refine one_ (i :=8) (N :=some 54) #[true,true,true,true,true,true,true,true,true,false] rfl rfl (one_of HT_.out (by kernel_rfl)) (by decide) (fun K hK => ?_)
    refine goes_ Tryz.func19 (by kernel_rfl) rfl #[.agg #[.int .i64 s.f0,.int .i64 s.f1.f0,.string s.f1.f1.f0,.slice B3 s.f1.f1.f1.length d3,.string s.f1.f2,.slice B5 s.f1.f3.length d5,.int .i64 s.f1.f4,.slice B7 s.f1.f5.length d7,.int .i64 s.f1.f6,.int .i64 s.f1.f7,.bool s.f1.f8,.slice B11 s.f1.f9.length d11,.int .i64 s.f2,.slice B13 s.f3.length d13],.agg #[.int .i64 s.f0,.int .i64 s.f1.f0,.string s.f1.f1.f0,.slice A3 s.f1.f1.f1.length c3,.string s.f1.f2,.slice A5 s.f1.f3.length c5,.int .i64 s.f1.f4,.slice A7 s.f1.f5.length c7,.int .i64 s.f1.f6,.int .i64 s.f1.f7,.bool s.f1.f8,.slice A11 s.f1.f9.length c11,.int .i64 s.f2,.slice A13 s.f3.length c13]] (by rfl) rfl rfl (by (try simp only [List.map_toArray,List.map_cons,List.map_nil]);first | done | rfl) ?_
    refine (same_true y3 y5 y7 y11 y13 (Kd.C_below r3 hbw) (Kd.C_below r5 hbw) (Kd.C_below r7 hbw) (Kd.C_below r11 hbw) (Kd.C_below r13 hbw)).mono ?_
    rintro e w21 ⟨rfl,hb⟩
    refine ⟨_,rfl,?_⟩
    refine hK.out _ _ ⟨pw_cell_below hb s0,pw_cell_below hb s1,pw_cell_below hb s2,pw_cell_below hb s3,pw_cell_below hb s4,pw_cell_below hb s5,pw_cell_below hb s6,pw_cell_below hb s7,pw_cell_below hb s8,pw_cell_below hb s9,pw_cell_below hb s10,pw_cell_below hb s11,pw_cell_below hb s12,pw_cell_below hb s13,pw_cell_below hb s14,pw_cell_below hb s15,pw_cell_below hb s16,pw_cell_below hb s17,pw_cell_below hb s18,pw_cell_below hb s19,pw_cell_below hb s20,pw_cell_below hb s21,pw_cell_below hb s22,pw_cell_below hb s23,pw_cell_below hb s24,pw_cell_below hb s25,pw_cell_below hb s26,pw_cell_below hb s27⟩ (fun hHeld => ?_)
    clear hK K s0 s1 s2 s3 s4 s5 s6 s7 s8 s9 s10 s11 s12 s13 s14 s15 s16 s17 s18 s19 s20 s21 s22 s23 s24 s25 s26 s27
    refine norm_ (a' :=?_) ?_ ?_
    rotate_left
    ·show Act.put _ (some 54) _ = _
     simp only [Act.put,List.setIfInBounds_toArray,List.set_cons_zero,List.set_cons_succ,i64_w,i32_w]
     rfl
    refine pure_ (i :=9) (N :=some 55) (v :=?_) (a' :=?_) #[true,true,true,true,true,true,true,true,true,true] rfl rfl (any_of HT_.out (by kernel_rfl)) (fun _ _ _ h => h) (Or.inl ⟨by rfl,?_⟩) ?_ ?_
    rotate_left
    ·intro w'
     go_simp
     with_reducible rfl
    rotate_left
    ·simp only [Act.put,List.setIfInBounds_toArray,List.set_cons_zero,List.set_cons_succ,i64_w,i32_w]
     rfl
    refine done_ (done_of HT_.out (by kernel_rfl)) ?_
    replace hW :=hW.below hb
    replace hbw :=below_step hbw hb
    clear hb hHeld BP y3 y5 y7 y11 y13
    have q0 : w21.cell? ⟨g,0,none⟩ = some (.slice Ar (encStep s).length cr) :=(bkc hW.1 0).trans rfl
    have HB21 :=below_step HB hbw
    have hlen2 : ((l.take k).flatMap encStep).length + (encStep s).length ≤ 140737488355328 :=by omega
    go_wp2_with ((with_reducible refine gate_builtin (b :=.append) (xs :=#[.tmp 56,.tmp 60]) rfl ?_);at_builtin;(refine Kd.R_append_row (Value.int .u8) 0 (h1 :=fun _ => rfl) (w0 :=w) w.heap.size rfl (.tmp 56) (.tmp 60) 22 5 (.int .u8 0) 1 rfl Tryz.underlying22 info5 rfl (by decide) u2 ((l.take k).flatMap encStep) (encStep s) _ _ _ (fun _ => True) rfl rfl (fun _ _ => trivial) (Kd.R_below HO hbw) (Kd.R_reads' hW.2.2).2.2 HB21 HB21.size (by omega) ?_;intro v2 w2 ho2 hb2 hg2 hat2))
    go_roundw
    case measure => simp only [intOf];omega
    case rel =>
     refine ⟨k + 1,by omega,rfl,?_,?_,hb2⟩
     ·rw [takeFlat _ _ _ hkn,← hs.out];exact ho2
     ·rw [takeFlat _ _ _ hkn,← hs.out,List.length_append];omega
  ·have hkn' : ¬ (k : Int) < (l.length : Int) :=by omega
   have hke : k = l.length :=by omega
   go_wp2
   go_ret
   rw [hke,List.take_length] at HO
   exact ⟨_,rfl,HO,HB⟩
end Go.Proofs.YtlafgnanfkhobaaGreatDoor.P2
