import Derived.Test.YtlafgnanfkhobaaGreatDoorQA1
import Derived.LoopTactic
import Derived.LoopN
set_option linter.all false
namespace Go.Proofs.YtlafgnanfkhobaaGreatDoor.P2
open Go.RowKit Go.Proofs.YtlafgnanfkhobaaGreatDoorW.PrintWords Go.Proofs.YtlafgnanfkhobaaGreatDoorW.PrintLast Go.Proofs.YtlafgnanfkhobaaGreatDoorW.PrintMore
attribute [local go_sem] max2_int min2_int max_two min_two max_three min_three max_four min_four
set_option maxHeartbeats 4000000 in
set_option maxRecDepth 100000 in
theorem pk_ask {w0 w : World} {g : Nat} (hI : Pk w0 w g) (hB : Below w0.heap.size w0 w) :
  Calls Tryz.prog 21 #[.pointer (some ⟨g,0,none⟩),.slice none 0 0] w fun e w' => ∃ (cs : List Value) (q : S46),e = .returned (.agg cs.toArray) ∧ k46.M w' w.heap.size (fun _ => True) q cs ∧ GReq q ∧ PkTo w0 w w' g :=by
 have hu46 :=Tryz.underlying46
 have hgl :=hI.lt
 have F :=PkTo.refl hI hB
 clear hI hB
 go_enter Tryz.func21,Tryz.ntmps21
 go_upto_region 1 with (first | ((with_reducible refine gate_dst (N :=4) rfl ?_);(refine box_event ?hg (N :=4) ?hd (cs :=#[.int .i64 0,.string ⟨#[]⟩,.slice none 0 0,.string ⟨#[]⟩,.slice none 0 0,.int .i64 0,.slice none 0 0,.int .i64 0,.int .i64 0,.bool false,.slice none 0 0]) (t :=46) ?hr ?_;(case hd => rfl);(case hg => rfl);(case hr => first | (go_simp;done) | (go_simp;rfl));intro b4 e4 w1 K4 B1;have g4 : w.heap.size ≤ b4 :=Nat.le_of_eq e4.symm;replace F :=F.below B1;clear e4 B1)))
 simp only [Act.put,List.setIfInBounds_toArray,List.set_cons_zero,List.set_cons_succ]
 go_cut [5] (fun v5 wc => PkTo w0 w wc g ∧ wc.heap[b4]? = some (.cells askZ 46 (0,0)) ∧ askEnd w.heap.size b4 v5 wc)
 case first =>
  rename_i J K2 hJ hK2
  refine region_inv (by kernel_rfl) (AskI w0 w g b4) ?h0 ?hs ?he
  case h0 => exact ⟨by simp,fun _ => undef,rfl,F.below (below_drew (Below.refl _ _)),K4,.inl ⟨not_done _ _,fun k hk => absurd hk (not_done _ _)⟩⟩
  case he =>
   clear F K4
   rintro l a wc ⟨hsz,vs,rfl,F,K4,H⟩ hr
   have hall :=ready_end hsz askD (by kernel_rfl) (by decide) hr
   rcases H with ⟨h16,_⟩ | ⟨_,hE⟩
   ·exact absurd (hall 16 (by decide)) h16
   ·refine hK2 _ _ (Met.intro (hJ _ _ ?_))
    (repeat apply Exists.intro)
    refine ⟨?rel,rfl⟩
    exact ⟨F,K4,hE⟩
  case hs =>
   clear F K4
   rintro l a wc i ⟨hsz,vs,rfl,F,K4,H⟩ hr
   have hi :=ready_lt hr
   have hnew :=ready_new hr
   obtain ⟨h16,hF⟩ : ¬ Done l 16 ∧ ∀ k,Done l k → askF g w.heap.size b4 k (vs k) wc :=H.resolve_right fun h => hnew (h.1 i hi)
   clear H
   have hd : ∀ k,k ∈ askD.getD i [] → Done l k :=fun k hk => ready_dep (by kernel_rfl) hr hk
   clear hr
   obtain rfl | rfl | rfl | rfl | rfl | rfl | rfl | rfl | rfl | rfl | rfl | rfl | rfl | rfl | rfl | rfl | rfl : i = 0 ∨ i = 1 ∨ i = 2 ∨ i = 3 ∨ i = 4 ∨ i = 5 ∨ i = 6 ∨ i = 7 ∨ i = 8 ∨ i = 9 ∨ i = 10 ∨ i = 11 ∨ i = 12 ∨ i = 13 ∨ i = 14 ∨ i = 15 ∨ i = 16 :=by
    have : i < 17 :=hi
    omega
   all_goals
    refine wpOp_step rfl (fun K' hK => ?_)
   ·exact value_ (v :=.pointer (some ⟨g,0,none⟩)) rfl rfl rfl (hK _ _ (AskI.next rfl hsz h16 (by decide) hF F g4 K4 (fun _ _ _ h => h) rfl))
   ·have e :=hF 0 (hd 0 (by decide))
    refine goes_ Tryz.func29 (by kernel_rfl) rfl #[vs 0] rfl rfl rfl (by simp only [List.map_toArray,List.map_cons,List.map_nil];rfl) ?_
    rw [show vs 0 = .pointer (some ⟨g,0,none⟩) from e]
    refine (pk_name F.1 F.2.1).mono ?_
    rintro e w' ⟨s,rfl,hs,T⟩
    exact ⟨_,rfl,hK _ _ (AskI.next rfl hsz h16 (by decide) hF (F.call T) g4 K4 (T.keepB hgl) ⟨s,rfl,hs⟩)⟩
   ·exact value_ (v :=.pointer (some ⟨g,0,none⟩)) rfl rfl rfl (hK _ _ (AskI.next rfl hsz h16 (by decide) hF F g4 K4 (fun _ _ _ h => h) rfl))
   ·have e :=hF 2 (hd 2 (by decide))
    refine goes_ Tryz.func30 (by kernel_rfl) rfl #[vs 2] rfl rfl rfl (by simp only [List.map_toArray,List.map_cons,List.map_nil];rfl) ?_
    rw [show vs 2 = .pointer (some ⟨g,0,none⟩) from e]
    refine (pk_at F.1 F.2.1).mono ?_
    rintro e w' ⟨r,rfl,r0,r1,T⟩
    exact ⟨_,rfl,hK _ _ (AskI.next rfl hsz h16 (by decide) hF (F.call T) g4 K4 (T.keepB hgl) ⟨r,rfl,r0,r1⟩)⟩
   ·exact value_ (v :=.pointer (some ⟨g,0,none⟩)) rfl rfl rfl (hK _ _ (AskI.next rfl hsz h16 (by decide) hF F g4 K4 (fun _ _ _ h => h) rfl))
   ·have e :=hF 4 (hd 4 (by decide))
    refine goes_ Tryz.func31 (by kernel_rfl) rfl #[vs 4,.int .i64 5] rfl rfl rfl (by simp only [List.map_toArray,List.map_cons,List.map_nil];rfl) ?_
    rw [show vs 4 = .pointer (some ⟨g,0,none⟩) from e]
    refine (pk_num F.1 F.2.1 5 (by decide)).mono ?_
    rintro e w' ⟨r,rfl,r0,r1,T⟩
    exact ⟨_,rfl,hK _ _ (AskI.next rfl hsz h16 (by decide) hF (F.call T) g4 K4 (T.keepB hgl) ⟨r,rfl,r0,by omega⟩)⟩
   ·have hb : Below wc.heap.size wc (wc.alloc (.cells tab90 3 (0,0))) :=bwa (Below.refl _ _) _
    refine value_ (v :=.slice (some ⟨wc.heap.size,0,none⟩) 6 6) (w1 :=wc.alloc (.cells tab90 3 (0,0))) rfl rfl ?_ (hK _ _ (AskI.next rfl hsz h16 (by decide) hF (F.below hb) g4 K4 (below_keepB hb) ⟨_,rfl,F.2.2.1,blk_new _ _⟩))
    first | (go_simp;done) | (go_simp;rfl)
   ·exact value_ (v :=.pointer (some ⟨g,0,none⟩)) rfl rfl rfl (hK _ _ (AskI.next rfl hsz h16 (by decide) hF F g4 K4 (fun _ _ _ h => h) rfl))
   ·have e :=hF 7 (hd 7 (by decide))
    refine goes_ Tryz.func31 (by kernel_rfl) rfl #[vs 7,.int .i64 6] rfl rfl rfl (by simp only [List.map_toArray,List.map_cons,List.map_nil];rfl) ?_
    rw [show vs 7 = .pointer (some ⟨g,0,none⟩) from e]
    refine (pk_num F.1 F.2.1 6 (by decide)).mono ?_
    rintro e w' ⟨r,rfl,r0,r1,T⟩
    exact ⟨_,rfl,hK _ _ (AskI.next rfl hsz h16 (by decide) hF (F.call T) g4 K4 (T.keepB hgl) ⟨r,rfl,r0,by omega⟩)⟩
   ·obtain ⟨t,e6,ht,K⟩ :=hF 6 (hd 6 (by decide))
    obtain ⟨x,e8,x0,x1⟩ :=hF 8 (hd 8 (by decide))
    refine value_ (v :=.pointer (some ⟨t,x.toNat,none⟩)) rfl rfl ?_ (hK _ _ (AskI.next rfl hsz h16 (by decide) hF F g4 K4 (fun _ _ _ h => h) ⟨t,x.toNat,rfl,by omega,ht,K⟩))
    have a1 : (askFr g b4 vs).tmps[13]?.getD undef = _ :=e6
    have a2 : (askFr g b4 vs).tmps[15]?.getD undef = _ :=e8
    have x1' : x < 6 :=by omega
    go_simp
   ·obtain ⟨t,x,e9,hx,ht,K⟩ :=hF 9 (hd 9 (by decide))
    obtain ⟨y,hy,y0,y1⟩ :=tab90_at K hx
    refine value_ (v :=.int .i64 y) rfl rfl ?_ (hK _ _ (AskI.next rfl hsz h16 (by decide) hF F g4 K4 (fun _ _ _ h => h) ⟨y,rfl,y0,y1⟩))
    have a1 : (askFr g b4 vs).tmps[16]?.getD undef = _ :=e9
    go_simp
   ·exact value_ (v :=.pointer (some ⟨g,0,none⟩)) rfl rfl rfl (hK _ _ (AskI.next rfl hsz h16 (by decide) hF F g4 K4 (fun _ _ _ h => h) rfl))
   ·have e :=hF 11 (hd 11 (by decide))
    refine goes_ Tryz.func31 (by kernel_rfl) rfl #[vs 11,.int .i64 3] rfl rfl rfl (by simp only [List.map_toArray,List.map_cons,List.map_nil];rfl) ?_
    rw [show vs 11 = .pointer (some ⟨g,0,none⟩) from e]
    refine (pk_num F.1 F.2.1 3 (by decide)).mono ?_
    rintro e w' ⟨r,rfl,r0,r1,T⟩
    exact ⟨_,rfl,hK _ _ (AskI.next rfl hsz h16 (by decide) hF (F.call T) g4 K4 (T.keepB hgl) ⟨r,rfl,r0,by omega⟩)⟩
   ·obtain ⟨x,e12,x0,x1⟩ :=hF 12 (hd 12 (by decide))
    refine value_ (v :=.bool (x == 0)) rfl rfl ?_ (hK _ _ (AskI.next rfl hsz h16 (by decide) hF F g4 K4 (fun _ _ _ h => h) ⟨_,rfl⟩))
    have a1 : (askFr g b4 vs).tmps[19]?.getD undef = _ :=e12
    go_simp
   ·obtain ⟨s,e1,hs⟩ :=hF 1 (hd 1 (by decide))
    obtain ⟨x,e3,x0,x1⟩ :=hF 3 (hd 3 (by decide))
    obtain ⟨y,e5,y0,y1⟩ :=hF 5 (hd 5 (by decide))
    obtain ⟨z,e10,z0,z1⟩ :=hF 10 (hd 10 (by decide))
    obtain ⟨c,e13⟩ :=hF 13 (hd 13 (by decide))
    refine value_ (v :=.agg (ask0 s x y z c)) rfl rfl ?_ (hK _ _ (AskI.next rfl hsz h16 (by decide) hF F g4 K4 (fun _ _ _ h => h) ⟨s,x,y,z,c,rfl,hs,x0,x1,y0,y1,z0,z1⟩))
    have a1 : (askFr g b4 vs).tmps[8]?.getD undef = _ :=e1
    have a2 : (askFr g b4 vs).tmps[10]?.getD undef = _ :=e3
    have a3 : (askFr g b4 vs).tmps[12]?.getD undef = _ :=e5
    have a4 : (askFr g b4 vs).tmps[17]?.getD undef = _ :=e10
    have a5 : (askFr g b4 vs).tmps[20]?.getD undef = _ :=e13
    go_simp
    rfl
   ·have hb : Below wc.heap.size wc (wc.alloc (.cells #[.int .i64 0,.string ⟨#[]⟩,.slice none 0 0,.string ⟨#[]⟩,.slice none 0 0,.int .i64 0,.slice none 0 0,.int .i64 0,.int .i64 0,.bool false,.slice none 0 0] 46 (0,0))) :=bwa (Below.refl _ _) _
    have hne : wc.heap.size ≠ b4 :=Nat.ne_of_gt (blk_lt K4)
    refine value_ (v :=.pointer (some ⟨wc.heap.size,0,none⟩)) rfl rfl ?_ (hK _ _ (AskI.next rfl hsz h16 (by decide) hF (F.below hb) g4 K4 (below_keepB hb) ⟨_,rfl,F.2.2.1,hne,blk_new _ _⟩))
    first | (go_simp;done) | (go_simp;rfl)
   ·obtain ⟨s,x,y,z,c,e14,hbd⟩ :=hF 14 (hd 14 (by decide))
    obtain ⟨b,e15,hb,hne,K⟩ :=hF 15 (hd 15 (by decide))
    have a1 : (askFr g b4 vs).tmps[21]?.getD undef = _ :=e14
    have a2 : (askFr g b4 vs).tmps[5]?.getD undef = _ :=e15
    have hst :=run_storeCells_from (P :=Tryz.prog) b 46 (ask0 s x y z c).toList 0 _ wc K rfl (by intro v hv;simp [ask0] at hv;rcases hv with rfl | rfl | rfl | rfl | rfl | rfl | rfl | rfl | rfl | rfl | rfl <;> rfl)
    have hs11 : (ask0 s x y z c).size = 11 :=rfl
    have hgr :=setRow_grown wc b ([] ++ (ask0 s x y z c).toList).toArray
    refine skip_ rfl rfl (w1 :=wc.setRow b ([] ++ (ask0 s x y z c).toList).toArray) ?_ (hK _ _ ⟨by simpa using hsz,vs,rfl,F.grown hgl hgr (fun k e => by injection e with e;omega),(hgr.block b4 (blk_lt K4) (by simpa using Ne.symm hne)).trans K4,.inr ⟨fun k hk => ?_,b,s,x,y,z,c,e15,hb,hne,setRow_heap _ _ _ _ _ _ K,hbd⟩⟩)
    ·go_simp
    ·by_cases h : k = 16
     ·subst h
      exact done_self (by omega)
     ·exact done_set (hd k (by
       obtain rfl | rfl | rfl | rfl | rfl | rfl | rfl | rfl | rfl | rfl | rfl | rfl | rfl | rfl | rfl | rfl : k = 0 ∨ k = 1 ∨ k = 2 ∨ k = 3 ∨ k = 4 ∨ k = 5 ∨ k = 6 ∨ k = 7 ∨ k = 8 ∨ k = 9 ∨ k = 10 ∨ k = 11 ∨ k = 12 ∨ k = 13 ∨ k = 14 ∨ k = 15 :=by omega
       all_goals decide))
 case rest =>
  clear K4 F
  obtain ⟨F,K4,b,s,x,y,z,c,rfl,hb,hne,K,hs,x0,x1,y0,y1,z0,z1⟩ :=hcut
  unfold ask0 at K
  go_upto_block 0 with (go_at_call 31;refine (pk_num F.1 F.2.1 40 (by decide)).mono ?_;rintro e w7 ⟨k,rfl,k0,k1,T⟩;replace K :=T.blk K (by omega);replace K4 :=T.blk K4 (by omega);replace F :=F.call T;clear T)
  go_cut [6] (fun v6 wc => askR w0 w g b b4 wc)
  case first =>
   obtain ⟨f0,f1,f2,f3,f4,f5,f6,f7,f8,f9,f10⟩ :=cells11 K
   have fz :=fun i => bkz K i
   have n3 :=nil83 w7 w.heap.size
   have n4 :=nil9 w7 w.heap.size
   have n6 :=nil5 w7 w.heap.size
   go_wp2_with (first | (go_at_call 32;refine (pk_commit F.1 F.2.1).mono ?_;rintro e wn ⟨v,id,ps,rfl,R,hid,hps,hp,T⟩;replace K :=T.blk K (by omega);replace K4 :=T.blk K4 (by omega);obtain ⟨Av,cv,ev⟩ :=Kd.R_slice R;subst ev;replace n3 :=Kd.R_lower R F.2.2.1;replace n4 :=nil9 wn w.heap.size;replace n6 :=nil5 wn w.heap.size;replace F :=F.call T;clear T R;clear f0 f1 f2 f3 f4 f5 f6 f7 f8 f9 f10 fz;obtain ⟨f0,f1,f2,f3,f4,f5,f6,f7,f8,f9,f10⟩ :=cells11 K;have fz :=fun i => bkz K i) | (go_at_call 33;refine (pk_data F.1 F.2.1).mono ?_;rintro e wn ⟨v,ys,rfl,R,hy,hyl,T⟩;replace K :=T.blk K (by omega);replace K4 :=T.blk K4 (by omega);obtain ⟨Av,cv,ev⟩ :=Kd.R_slice R;subst ev;replace n6 :=Kd.R_lower R F.2.2.1;replace n3 :=nil83 wn w.heap.size;replace n4 :=nil9 wn w.heap.size;replace F :=F.call T;clear T R;clear f0 f1 f2 f3 f4 f5 f6 f7 f8 f9 f10 fz;obtain ⟨f0,f1,f2,f3,f4,f5,f6,f7,f8,f9,f10⟩ :=cells11 K;have fz :=fun i => bkz K i) | (go_at_call 34;refine (pk_kind F.1 F.2.1).mono ?_;rintro e wn ⟨s2,rfl,hs2,T⟩;replace n3 :=nil83 wn w.heap.size;replace n4 :=nil9 wn w.heap.size;replace n6 :=nil5 wn w.heap.size;replace K :=T.blk K (by omega);replace K4 :=T.blk K4 (by omega);replace F :=F.call T;clear T;clear f0 f1 f2 f3 f4 f5 f6 f7 f8 f9 f10 fz;obtain ⟨f0,f1,f2,f3,f4,f5,f6,f7,f8,f9,f10⟩ :=cells11 K;have fz :=fun i => bkz K i) | (go_at_call 29;refine (pk_name F.1 F.2.1).mono ?_;rintro e wn ⟨s3,rfl,hs3,T⟩;replace n3 :=nil83 wn w.heap.size;replace n4 :=nil9 wn w.heap.size;replace n6 :=nil5 wn w.heap.size;replace K :=T.blk K (by omega);replace K4 :=T.blk K4 (by omega);replace F :=F.call T;clear T;clear f0 f1 f2 f3 f4 f5 f6 f7 f8 f9 f10 fz;obtain ⟨f0,f1,f2,f3,f4,f5,f6,f7,f8,f9,f10⟩ :=cells11 K;have fz :=fun i => bkz K i) | (go_at_call 31;revert Kt;intro Kt;refine (pk_num F.1 F.2.1 _ (by decide)).mono ?_;rintro e wn ⟨r,rfl,r0,r1,T⟩;replace n3 :=nil83 wn w.heap.size;replace n4 :=nil9 wn w.heap.size;replace n6 :=nil5 wn w.heap.size;replace K :=T.blk K (by omega);replace K4 :=T.blk K4 (by omega);replace Kt :=T.blk Kt (by omega);replace F :=F.call T;clear T;clear f0 f1 f2 f3 f4 f5 f6 f7 f8 f9 f10 fz;obtain ⟨f0,f1,f2,f3,f4,f5,f6,f7,f8,f9,f10⟩ :=cells11 K;have fz :=fun i => bkz K i;obtain ⟨s2,hs2,hsc⟩ :=tab_two Kt r0 r1;replace r0 :=eq_true r0;replace r1 :=eq_true r1) | (go_at_call 31;refine (pk_num F.1 F.2.1 _ (by decide)).mono ?_;rintro e wn ⟨r,rfl,r0,r1,T⟩;replace n3 :=nil83 wn w.heap.size;replace n4 :=nil9 wn w.heap.size;replace n6 :=nil5 wn w.heap.size;replace K :=T.blk K (by omega);replace K4 :=T.blk K4 (by omega);replace F :=F.call T;clear T;clear f0 f1 f2 f3 f4 f5 f6 f7 f8 f9 f10 fz;obtain ⟨f0,f1,f2,f3,f4,f5,f6,f7,f8,f9,f10⟩ :=cells11 K;have fz :=fun i => bkz K i) | ((with_reducible refine gate_dst (N :=105) rfl ?_);(refine lit_event ?hg (N :=105) ?hd (cs :=#[.string ⟨#[]⟩,.string ⟨#[109,97,100,101]⟩]) (e :=9) (n :=2) ?hr ?_;(case hd => rfl);(case hg => rfl);(case hr => first | (go_simp;done) | (go_simp;rfl));intro t ad et had w5 Kt B5;have gt : w.heap.size ≤ t :=(by have :=(F.set hgl hb 0 (.int .i64 15)).2.2.1;omega);replace F :=(F.set hgl hb 0 (.int .i64 15)).below B5;replace n3 :=nil83 w5 w.heap.size;replace n4 :=nil9 w5 w.heap.size;replace n6 :=nil5 w5 w.heap.size;replace K4 :=blk_below (blk_far (p :=⟨b,0,none⟩) K4 (Ne.symm hne) (.int .i64 15)) B5;replace K :=blk_below (show (World.setCell _ ⟨b,0,none⟩ (.int .i64 15)).heap[b]? = some (.cells #[.int .i64 15,.string ⟨#[]⟩,.slice none 0 0,.string s,.slice none 0 0,.int .i64 x,.slice none 0 0,.int .i64 y,.int .i64 z,.bool c,.slice none 0 0] 46 (0,0)) from blk_put K 0 _ rfl) B5;clear et B5;clear f0 f1 f2 f3 f4 f5 f6 f7 f8 f9 f10 fz;obtain ⟨f0,f1,f2,f3,f4,f5,f6,f7,f8,f9,f10⟩ :=cells11 K;have fz :=fun i => bkz K i)) | ((with_reducible refine gate_dst (N :=86) rfl ?_);(refine Kd.R_lit Kd.string _ 9 ?hg (N :=86) ?hd (xs :=[⟨#[97]⟩,⟨#[98]⟩,s3]) (inner :=[.string ⟨#[97]⟩,.string ⟨#[98]⟩,.string s3]) (ok :=fun _ => True) (okp :=fun _ => True) ?hr ?hp (fun _ hk => hk) trivial (Below.refl _ _) (Nat.le_refl _) (by simp) ?_;(case hd => rfl);(case hg => rfl);(case hr => first | (go_simp;done) | (go_simp;rfl));(case hp => exact Reps.one (show Kd.M Kd.string _ _ _ ⟨#[97]⟩ [.string ⟨#[97]⟩] from rfl) (Reps.one (show Kd.M Kd.string _ _ _ ⟨#[98]⟩ [.string ⟨#[98]⟩] from rfl) (Reps.one (show Kd.M Kd.string _ _ _ s3 [.string s3] from rfl) (Reps.none _ _))));intro v w5 R B5 hg_ hnew_;clear hg_ hnew_;obtain ⟨Av,cv,ev⟩ :=Kd.R_slice R;subst ev;replace n4 :=Kd.R_lower R F.2.2.1;replace n3 :=nil83 w5 w.heap.size;replace n6 :=nil5 w5 w.heap.size;replace F :=F.below B5;replace K :=blk_below K B5;replace K4 :=blk_below K4 B5;clear R B5;clear f0 f1 f2 f3 f4 f5 f6 f7 f8 f9 f10 fz;obtain ⟨f0,f1,f2,f3,f4,f5,f6,f7,f8,f9,f10⟩ :=cells11 K;have fz :=fun i => bkz K i)))
   all_goals go_meet
   all_goals
    apply askR.two
    (with_reducible repeat (first | exact K | apply blk_set))
    intro K'
    simp only [List.setIfInBounds_toArray,List.set_cons_zero,List.set_cons_succ] at K'
    exact askR.fin K (by with_reducible repeat (first | exact World.grownBy.refl _ _ | refine grown_trans ?_ (setCell_grown _ _ _ _))) F hgl hb hne K4 K' n3 n4 n6 ⟨⟨by dsimp only;decide,by dsimp only;decide⟩,by first | exact hid | (dsimp only;decide),by first | exact hps | simp,by first | exact hp | exact fun p hp => absurd hp List.not_mem_nil,by first | exact hs | exact hs2,by simp,by first | exact fun p hp => absurd hp List.not_mem_nil | exact fun p hp => (by simp only [List.mem_cons,List.not_mem_nil,or_false] at hp;rcases hp with rfl | rfl | rfl;decide;decide;exact hs3),⟨x0,x1⟩,by first | exact ⟨hy,hyl⟩ | exact ⟨fun p hp => absurd hp List.not_mem_nil,by simp⟩,⟨y0,y1⟩,by first | exact ⟨z0,z1⟩ | (dsimp only;omega),rfl⟩
  case rest =>
   clear K K4 F
   obtain ⟨⟨cs,q,K,M,hq⟩,F,K4⟩ :=hcut
   obtain ⟨v2,v4,v6,v10,rfl,r2,r4,r6,r10⟩ :=k46_openM M
   obtain ⟨A2,c2,rfl⟩ :=Kd.R_slice r2
   obtain ⟨A4,c4,rfl⟩ :=Kd.R_slice r4
   obtain ⟨A6,c6,rfl⟩ :=Kd.R_slice r6
   obtain ⟨A10,c10,rfl⟩ :=Kd.R_slice r10
   unfold askZ at K4
   obtain ⟨f0,f1,f2,f3,f4,f5,f6,f7,f8,f9,f10⟩ :=cells11 K
   obtain ⟨d0,d1,d2,d3,d4,d5,d6,d7,d8,d9,d10⟩ :=cells11 K4
   have fz :=fun i => bkz K4 i
   go_wp2
   refine bodyPost_ret (results_cell_row rfl _ _ b4 46 #[.int .i64 q.f0,.string q.f1.f0,.slice A2 q.f1.f1.length c2,.string q.f2,.slice A4 q.f3.length c4,.int .i64 q.f4,.slice A6 q.f5.length c6,.int .i64 q.f6,.int .i64 q.f7,.bool q.f8,.slice A10 q.f9.length c10] (0,0) _ rfl (blk_set11 K4) Tryz.underlying46 rfl (by kernel_rfl)) rfl ?_
   have hG : ∀ {W},wc.grownBy W (some b4) → ∃ (cs : List Value) (q' : S46),Ending.returned (.agg #[.int .i64 q.f0,.string q.f1.f0,.slice A2 q.f1.f1.length c2,.string q.f2,.slice A4 q.f3.length c4,.int .i64 q.f4,.slice A6 q.f5.length c6,.int .i64 q.f6,.int .i64 q.f7,.bool q.f8,.slice A10 q.f9.length c10]) = .returned (.agg cs.toArray) ∧ k46.M W w.heap.size (fun _ => True) q' cs ∧ GReq q' ∧ PkTo w0 w W g :=fun G => ⟨_,q,rfl,M_grown M K4 (by decide) G,hq,F.grown hgl G (fun k e => by injection e with e;omega)⟩
   exact hG (by with_reducible repeat (first | exact World.grownBy.refl _ _ | refine grown_trans ?_ (setCell_grown _ _ _ _)))
end Go.Proofs.YtlafgnanfkhobaaGreatDoor.P2
