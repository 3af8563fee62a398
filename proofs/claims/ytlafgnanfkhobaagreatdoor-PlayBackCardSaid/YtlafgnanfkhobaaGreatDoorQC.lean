import Derived.Test.YtlafgnanfkhobaaGreatDoorQK
import Derived.Test.YtlafgnanfkhobaaGreatDoorQU
import Derived.LoopTactic
import Derived.LoopN
set_option linter.all false
namespace Go.Proofs.YtlafgnanfkhobaaGreatDoor.P2
open Go.RowKit Go.Proofs.YtlafgnanfkhobaaGreatDoorW.PrintWords Go.Proofs.YtlafgnanfkhobaaGreatDoorW.PrintLast Go.Proofs.YtlafgnanfkhobaaGreatDoorW.PrintMore
attribute [local go_sem] max2_int min2_int max_two min_two max_three min_three max_four min_four
def evT17 : Bool × List (List Nat × List Nat) :=(true,[([],[]),([0],[0]),([],[]),([2],[2]),([],[]),([4,3],[4]),([3,5],[3,5]),([6],[6]),([1,7,5],[1,7]),([0,1,2,3,4,5,6,7,8],[]),([9,8,8,0,1,2,3,4,5,6,7,8],[8,9])])
def evB17 : List Nat :=[0,1,0,4,0,28,60,124,255,511,1023]
theorem ev_tab : rtab .any (opsOf Tryz.f32 17) = evT17 :=by kernel_rfl
theorem ev_bits : waitsOk evT17.2 evB17 = true :=by kernel_rfl
theorem tab_exp {W : World} {t e : Nat} (K : W.heap[t]? = some (.cells #[.int .i64 (-1),.int .i64 (-1),.int .i64 (-1),.int .i64 (-2),.int .i64 0,.int .i64 1,.int .i64 3] e (0,0))) {r : Int} (h0 : 0 ≤ r) (h1 : r < 7) : ∃ x : Int,(-2 ≤ x ∧ x ≤ 3) ∧ W.cell? ⟨t,r.toNat,none⟩ = some (.int .i64 x) :=by
 obtain ⟨u,hu,hc⟩ :=tab_at K h0 h1
 simp only [List.mem_cons,List.not_mem_nil,or_false] at hu
 rcases hu with rfl | rfl | rfl | rfl | rfl | rfl | rfl
 all_goals exact ⟨_,by decide,hc⟩
theorem tab_ids {W : World} {t e : Nat} (K : W.heap[t]? = some (.cells #[.string ⟨#[111,110,101]⟩,.string ⟨#[116,119,111]⟩,.string ⟨#[116,104,114,101,101]⟩] e (0,0))) {r : Int} (h0 : 0 ≤ r) (h1 : r < 3) : ∃ s : ByteArray,s.size ≤ 16 ∧ W.cell? ⟨t,r.toNat,none⟩ = some (.string s) :=by
 obtain ⟨u,hu,hc⟩ :=tab_at K h0 h1
 simp only [List.mem_cons,List.not_mem_nil,or_false] at hu
 rcases hu with rfl | rfl | rfl
 all_goals exact ⟨_,by decide,hc⟩
set_option maxHeartbeats 2000000 in
set_option maxRecDepth 100000 in
theorem pk_commit {w0 w : World} {g : Nat} (hI : Pk w0 w g) (hB : Below w0.heap.size w0 w) :
  Calls Tryz.prog 32 #[.pointer (some ⟨g,0,none⟩)] w fun e w' => ∃ (v : Value) (id : ByteArray) (ps : List S83),e = .returned (.agg #[.string id,v]) ∧ Kd.R k83 83 w' w.heap.size (fun _ => True) v ps ∧ id.size ≤ 16 ∧ ps.length ≤ 3 ∧ (∀ p ∈ ps,GPart p) ∧ PkTo w0 w w' g :=by
 have hu43 :=Tryz.underlying43
 have hu83 :=Tryz.underlying83
 have hu85 :=Tryz.underlying85
 have hgl :=hI.lt
 have F :=PkTo.refl hI hB
 clear hI hB
 go_enter Tryz.func32,Tryz.ntmps32
 go_upto_if 13 with (first | ((with_reducible refine gate_dst (N :=2) rfl ?_);(refine box_event ?hg (N :=2) ?hd (cs :=#[.string ⟨#[]⟩,.slice none 0 0]) (t :=43) ?hr ?_;(case hd => rfl);(case hg => rfl);(case hr => first | (go_simp;done) | (go_simp;rfl));intro b2 e2 w1 K2 B1;have g2 : w.heap.size ≤ b2 :=Nat.le_of_eq e2.symm;replace F :=F.below B1;clear e2 B1)) | ((with_reducible refine gate_dst (N :=3) rfl ?_);(refine box_event ?hg (N :=3) ?hd (cs :=#[.string ⟨#[]⟩,.slice none 0 0]) (t :=43) ?hr ?_;(case hd => rfl);(case hg => rfl);(case hr => first | (go_simp;done) | (go_simp;rfl));intro b3 e3 w2 K3 B2;have g3 : w.heap.size ≤ b3 :=(by have :=F.2.2.1;omega);have n23 : b2 ≠ b3 :=(by have :=blk_lt K2;omega);replace K2 :=blk_below K2 B2;replace F :=F.below B2;clear e3 B2;have f0 :=bkz K3 0;have f1 :=bkz K3 1;have c0 :=(bkc K3 0).trans rfl;have c1 :=(bkc K3 1).trans rfl)) | (go_at_call 31;(replace F :=(F.set hgl g3 0 (.string ⟨#[]⟩)).set hgl g3 1 (.slice none 0 0));(replace K2 :=blk_far (p :=⟨b3,1,none⟩) (blk_far (p :=⟨b3,0,none⟩) K2 n23 (.string ⟨#[]⟩)) n23 (.slice none 0 0));(replace K3 :=blk_set2 K3 (.string ⟨#[]⟩) (.slice none 0 0));clear f0 f1 c0 c1;refine (pk_num F.1 F.2.1 4 (by decide)).mono ?_;rintro e w4 ⟨r,rfl,r0,r1,T⟩;replace K2 :=T.blk K2 (by omega);replace K3 :=T.blk K3 (by omega);replace F :=F.call T;clear T))
 go_cut [] (fun wc => ∃ id : ByteArray,id.size ≤ 16 ∧ wc.heap[b2]? = some (.cells #[.string ⟨#[]⟩,.slice none 0 0] 43 (0,0)) ∧ wc.heap[b3]? = some (.cells #[.string id,.slice none 0 0] 43 (0,0)) ∧ PkTo w0 w wc g)
 case first =>
  cases hr0 : (r == 0)
  ·go_wp2
   go_meet
   exact ⟨_,by decide,K2,K3,F⟩
  ·go_wp2_with (first | ((with_reducible refine gate_dst (N :=14) rfl ?_);(refine lit_event ?hg (N :=14) ?hd (cs :=#[.string ⟨#[111,110,101]⟩,.string ⟨#[116,119,111]⟩,.string ⟨#[116,104,114,101,101]⟩]) (e :=9) (n :=3) ?hr ?_;(case hd => rfl);(case hg => rfl);(case hr => first | (go_simp;done) | (go_simp;rfl));intro t ad et had w5 Kt B5;have gt : w.heap.size ≤ t :=(by have :=F.2.2.1;omega);replace K2 :=blk_below K2 B5;replace K3 :=blk_below K3 B5;replace F :=F.below B5;clear et B5)) | (go_at_call 31;refine (pk_num F.1 F.2.1 3 (by decide)).mono ?_;rintro e w6 ⟨q,rfl,q0,q1,T⟩;replace K2 :=T.blk K2 (by omega);replace K3 :=T.blk K3 (by omega);replace Kt :=T.blk Kt (by omega);replace F :=F.call T;clear T;obtain ⟨s,hs,hsc⟩ :=tab_ids Kt q0 q1;have f0 :=bkz K3 0;have c0 :=(bkc K3 0).trans rfl;replace q0 :=eq_true q0;replace q1 :=eq_true q1))
   go_meet
   exact ⟨s,hs,blk_far (p :=⟨b3,0,none⟩) K2 n23 _,by simpa using blk_set K3 0 (.string s),F.set hgl g3 _ _⟩
 case rest =>
  clear K2 K3 F r0 r1
  obtain ⟨id,hid,K2,K3,F⟩ :=hcut
  go_wp2_with (go_at_call 31;refine (pk_num F.1 F.2.1 3 (by decide)).mono ?_;rintro e w7 ⟨q,rfl,q0,q1,T⟩;replace K2 :=T.blk K2 (by omega);replace K3 :=T.blk K3 (by omega);replace F :=F.call T;clear T;have hw : wrap64 (1 + q) = 1 + q :=(by unfold wrap64;omega))
  go_loopw [4] (fun i wr => ∃ (k : Nat) (A : Option Addr) (c : Nat) (ps : List S83),(k : Int) ≤ 1 + q ∧ i = .int .i64 k ∧ Kd.R k83 83 wr w.heap.size (fun _ => True) (.slice A ps.length c) ps ∧ ps.length ≤ k ∧ (∀ p ∈ ps,GPart p) ∧ wr.heap[b2]? = some (.cells #[.string ⟨#[]⟩,.slice none 0 0] 43 (0,0)) ∧ wr.heap[b3]? = some (.cells #[.string id,.slice A ps.length c] 43 (0,0)) ∧ PkTo w0 w wr g) (fun i _ => (1 + q - intOf i).toNat)
  case atStart => exact ⟨0,none,0,[],by omega,rfl,Kd.R_nil _ _ _ _ _,Nat.le_refl _,(fun p hp => absurd hp List.not_mem_nil),K2,K3,F⟩
  case round =>
   clear K2 K3 F
   obtain ⟨k,A,c,ps,hk,rfl,R,hps,hp,K2,K3,F⟩ :=hrel
   by_cases hkn : (k : Int) < 1 + q
   ·go_upto_block 1 with (fail)
    go_cut [] (fun wc => ∃ (A : Option Addr) (c : Nat) (ps : List S83),Kd.R k83 83 wc w.heap.size (fun _ => True) (.slice A ps.length c) ps ∧ ps.length ≤ k + 1 ∧ (∀ p ∈ ps,GPart p) ∧ wc.heap[b2]? = some (.cells #[.string ⟨#[]⟩,.slice none 0 0] 43 (0,0)) ∧ wc.heap[b3]? = some (.cells #[.string id,.slice A ps.length c] 43 (0,0)) ∧ PkTo w0 w wc g)
    case first =>
     go_upto_block 2 with (first | (go_at_call 29;refine (pk_name F.1 F.2.1).mono ?_;rintro e wn ⟨nm,rfl,hnm,T⟩;replace K2 :=T.blk K2 (by omega);replace K3 :=T.blk K3 (by omega);replace R :=T.row F.1 R (by decide);replace F :=F.call T;clear T) | (go_at_call 31;refine (pk_num F.1 F.2.1 _ (by decide)).mono ?_;rintro e wn ⟨r,rfl,r0,r1,T⟩;replace K2 :=T.blk K2 (by omega);replace K3 :=T.blk K3 (by omega);replace R :=T.row F.1 R (by decide);replace Kt :=T.blk Kt (by omega);replace F :=F.call T;clear T;obtain ⟨x,hx,hxc⟩ :=tab_exp Kt r0 r1;replace r0 :=eq_true r0;replace r1 :=eq_true r1) | ((with_reducible refine gate_dst (N :=30) rfl ?_);(refine lit_event ?hg (N :=30) ?hd (cs :=#[.int .i64 (-1),.int .i64 (-1),.int .i64 (-1),.int .i64 (-2),.int .i64 0,.int .i64 1,.int .i64 3]) (e :=2) (n :=7) ?hr ?_;(case hd => rfl);(case hg => rfl);(case hr => first | (go_simp;done) | (go_simp;rfl));intro t ad et had w5 Kt B5;have gt : w.heap.size ≤ t :=(by have :=F.2.2.1;omega);replace K2 :=blk_below K2 B5;replace K3 :=blk_below K3 B5;replace R :=Kd.R_below R B5;replace F :=F.below B5;clear et B5)) | ((with_reducible refine gate_dst (N :=6) rfl ?_);(refine box_event ?hg (N :=6) ?hd (cs :=#[.string ⟨#[]⟩,.int .i64 0,.slice none 0 0]) (t :=83) ?hr ?_;(case hd => rfl);(case hg => rfl);(case hr => first | (go_simp;done) | (go_simp;rfl));intro b6 e6 w6 K6 B6;have g6 : w.heap.size ≤ b6 :=(by have :=F.2.2.1;omega);have n26 : b2 ≠ b6 :=(by have :=blk_lt K2;omega);have n36 : b3 ≠ b6 :=(by have :=blk_lt K3;omega);replace K2 :=blk_below K2 B6;replace K3 :=blk_below K3 B6;replace R :=row_new R e6 B6;replace F :=F.below B6;clear e6 B6;have f6 :=fun i => bkz K6 i;obtain ⟨c60,c61,c62⟩ :=cells3 K6)))
     have G :=grown_trans (grown_trans (setCell_grown w6 b6 0 (.string nm)) (setCell_grown _ b6 1 (.int .i64 x))) (setCell_grown _ b6 2 (.slice none 0 0))
     replace F :=((F.set hgl g6 0 (.string nm)).set hgl g6 1 (.int .i64 x)).set hgl g6 2 (.slice none 0 0)
     replace R :=row_other R G (fun j e => by injection e with e;omega)
     replace K2 :=(G.block b2 (blk_lt K2) (by simpa using n26)).trans K2
     replace K3 :=(G.block b3 (blk_lt K3) (by simpa using n36)).trans K3
     have K6' : (((w6.setCell ⟨b6,0,none⟩ (.string nm)).setCell ⟨b6,1,none⟩ (.int .i64 x)).setCell ⟨b6,2,none⟩ (.slice none 0 0)).heap[b6]? = some (.cells #[.string nm,.int .i64 x,.slice none 0 0] 83 (0,0)) :=blk_put (blk_put (blk_put K6 0 _ rfl) 1 _ rfl) 2 _ rfl
     clear G K6 f6 c60 c61 c62 Kt hxc
     generalize (((w6.setCell ⟨b6,0,none⟩ (.string nm)).setCell ⟨b6,1,none⟩ (.int .i64 x)).setCell ⟨b6,2,none⟩ (.slice none 0 0)) = w8 at F R K2 K3 K6' ⊢
     go_cut [7] (fun v7 wc => (∃ t : Bool,v7 = .bool t) ∧ wc.heap[b6]? = some (.cells #[.string nm,.int .i64 x,.slice none 0 0] 83 (0,0)) ∧ Kd.R k83 83 wc w.heap.size (fun k => k < b6) (.slice A ps.length c) ps ∧ wc.heap[b2]? = some (.cells #[.string ⟨#[]⟩,.slice none 0 0] 43 (0,0)) ∧ wc.heap[b3]? = some (.cells #[.string id,.slice A ps.length c] 43 (0,0)) ∧ PkTo w0 w wc g)
     case first =>
      go_wp2
      go_loopw [7,8] (fun v7 v8 wr => ∃ (t : Bool) (j : Nat),v7 = .bool t ∧ v8 = .int .i64 j ∧ j ≤ ps.length ∧ wr.heap[b6]? = some (.cells #[.string nm,.int .i64 x,.slice none 0 0] 83 (0,0)) ∧ Kd.R k83 83 wr w.heap.size (fun k => k < b6) (.slice A ps.length c) ps ∧ wr.heap[b2]? = some (.cells #[.string ⟨#[]⟩,.slice none 0 0] 43 (0,0)) ∧ wr.heap[b3]? = some (.cells #[.string id,.slice A ps.length c] 43 (0,0)) ∧ PkTo w0 w wr g) (fun _ v8 _ => ps.length - (intOf v8).toNat)
      case atStart => exact ⟨false,0,rfl,rfl,Nat.zero_le _,K6',R,K2,K3,F⟩
      case round =>
       clear F R K2 K3 K6'
       obtain ⟨t,j,rfl,rfl,hj,K6,R,K2,K3,F⟩ :=hrel
       obtain ⟨c0,c1⟩ :=cells2 K3
       by_cases hjl : j < ps.length
       ·have hjl' : (j : Int) < (ps.length : Int) :=by omega
        go_upto_region 12 with (fail)
        obtain ⟨ap,Ae,ce,eA,p0,p1,p2,_,_⟩ :=at_T83 (Kd.R_reads' R).2.2 (j : Int) (by omega) (by omega)
        subst eA
        obtain ⟨q0,q1,q2⟩ :=cells3 K6
        simp only [Int.toNat_natCast] at p0
        cases t
        ·go_region_held3 (fun w' => w'.cell? ⟨b3,1,none⟩ = some (.slice (some ap) ps.length c) ∧ w'.cell? (ap.add (j * 3)) = some (.string (rd_T83 ps j).f0) ∧ w'.cell? ⟨b6,0,none⟩ = some (.string nm)) (go_keep) (fail)
         go_wp2
         exact ⟨⟨_,j + 1,rfl,by simp,by omega,K6,Kd.R_drew R,K2,K3,F.below (below_drew (Below.refl _ _))⟩,by simp only [intOf];omega⟩
        ·go_region
         all_goals go_wp2
         all_goals exact ⟨⟨_,j + 1,rfl,by simp,by omega,K6,Kd.R_drew R,K2,K3,F.below (below_drew (Below.refl _ _))⟩,by simp only [intOf];omega⟩
       ·have hjl' : ¬ (j : Int) < (ps.length : Int) :=by omega
        go_wp2
        go_meet
        exact ⟨⟨t,rfl⟩,K6,R,K2,K3,F⟩
     case rest =>
      clear F R K2 K3 K6'
      obtain ⟨⟨tw,rfl⟩,K6,R,K2,K3,F⟩ :=hcut
      go_upto_region 13 with (fail)
      go_cut [7,60] (fun v7 v60 wc => (∃ t : Bool,v60 = .bool t) ∧ wc.heap[b6]? = some (.cells #[.string nm,.int .i64 x,.slice none 0 0] 83 (0,0)) ∧ Kd.R k83 83 wc w.heap.size (fun k => k < b6) (.slice A ps.length c) ps ∧ wc.heap[b2]? = some (.cells #[.string ⟨#[]⟩,.slice none 0 0] 43 (0,0)) ∧ wc.heap[b3]? = some (.cells #[.string id,.slice A ps.length c] 43 (0,0)) ∧ PkTo w0 w wc g)
      case first =>
       go_wp2_with (go_at_call 31;refine (pk_num F.1 F.2.1 _ (by decide)).mono ?_;rintro e wn ⟨r2,rfl,r20,r21,T⟩;replace K2 :=T.blk K2 (by omega);replace K3 :=T.blk K3 (by omega);replace K6 :=T.blk K6 (by omega);replace R :=T.row F.1 R (by decide);replace F :=F.call T;clear T)
       all_goals go_meet
       all_goals exact ⟨⟨_,rfl⟩,K6,R,K2,K3,F⟩
      case rest =>
       clear F R K2 K3 K6
       obtain ⟨⟨bo,rfl⟩,K6,R,K2,K3,F⟩ :=hcut
       cases bo
       ·go_upto_block 4 with (go_at_call 31;refine (pk_num F.1 F.2.1 _ (by decide)).mono ?_;rintro e wn ⟨m,rfl,m0,m1,T⟩;replace K2 :=T.blk K2 (by omega);replace K3 :=T.blk K3 (by omega);replace K6 :=T.blk K6 (by omega);replace R :=T.row F.1 R (by decide);replace F :=F.call T;clear T;have hwm : wrap64 (1 + m) = 1 + m :=(by unfold wrap64;omega))
        go_cut [9] (fun v9 wc => ∃ (Ae : Option Addr) (ce : Nat) (es : List S85),wc.heap[b6]? = some (.cells #[.string nm,.int .i64 x,.slice Ae es.length ce] 83 (0,0)) ∧ Kd.R k85 85 wc b6 (fun _ => True) (.slice Ae es.length ce) es ∧ es.length ≤ 4 ∧ (∀ e ∈ es,GEv e) ∧ Kd.R k83 83 wc w.heap.size (fun k => k < b6) (.slice A ps.length c) ps ∧ wc.heap[b2]? = some (.cells #[.string ⟨#[]⟩,.slice none 0 0] 43 (0,0)) ∧ wc.heap[b3]? = some (.cells #[.string id,.slice A ps.length c] 43 (0,0)) ∧ PkTo w0 w wc g)
        case first =>
         go_wp2
         go_loopw [9] (fun v9 wr => ∃ (n : Nat) (Ae : Option Addr) (ce : Nat) (es : List S85),v9 = .int .i64 n ∧ es.length + n ≤ 4 ∧ wr.heap[b6]? = some (.cells #[.string nm,.int .i64 x,.slice Ae es.length ce] 83 (0,0)) ∧ Kd.R k85 85 wr b6 (fun _ => True) (.slice Ae es.length ce) es ∧ (∀ e ∈ es,GEv e) ∧ Kd.R k83 83 wr w.heap.size (fun k => k < b6) (.slice A ps.length c) ps ∧ wr.heap[b2]? = some (.cells #[.string ⟨#[]⟩,.slice none 0 0] 43 (0,0)) ∧ wr.heap[b3]? = some (.cells #[.string id,.slice A ps.length c] 43 (0,0)) ∧ PkTo w0 w wr g) (fun v9 _ => (intOf v9).toNat)
         case atStart => exact ⟨(1 + m).toNat,none,0,[],by congr 1;omega,by simp only [List.length_nil];omega,K6,Kd.R_nil _ _ _ _ _,(fun e he => absurd he List.not_mem_nil),R,K2,K3,F⟩
         case round =>
          clear F R K2 K3 K6
          obtain ⟨n,Ae,ce,es,rfl,hes,K6,RE,hev,R,K2,K3,F⟩ :=hrel
          by_cases hn0 : n = 0
          ·subst hn0
           go_wp2
           go_meet
           exact ⟨Ae,ce,es,K6,RE,by omega,hev,R,K2,K3,F⟩
          ·have hn0' : (n : Int) > 0 :=by omega
           go_upto_region 17 with (fail)
           refine start_ (n :=11) (S :=fun w' => w'.cell? ⟨b6,2,none⟩ = some (.slice Ae es.length ce)) (ds :=[10]) #[false,false,false,false,false,false,false,false,false,false,false] (by kernel_rfl) rfl rfl ((bkc K6 2).trans rfl) (fun hHeld => ?_)
           refine with_tabW ev_tab ev_bits (fun HT_ HW_ => ?_)
           replace K6 :=bkd K6
           replace K2 :=bkd K2
           replace K3 :=bkd K3
           replace RE :=Kd.R_drew RE
           replace R :=Kd.R_drew R
           replace F :=F.below (below_drew (Below.refl _ _))
           generalize wr.drew = w20 at K6 K2 K3 RE R F hHeld ⊢
           refine pure_ (i :=0) (N :=some 68) (v :=?_) (a' :=?_) #[true,false,false,false,false,false,false,false,false,false,false] rfl rfl (any_of HT_.out (by kernel_rfl)) (fun _ _ _ h => h) (Or.inl ⟨by rfl,?_⟩) ?_ ?_
           rotate_left
           ·intro w'
            go_simp
            with_reducible rfl
           rotate_left
           ·simp only [Act.put,List.setIfInBounds_toArray,List.set_cons_zero,List.set_cons_succ,i64_w,i32_w]
            rfl
           refine pure_ (i :=2) (N :=some 70) (v :=?_) (a' :=?_) #[true,false,true,false,false,false,false,false,false,false,false] rfl rfl (any_of HT_.out (by kernel_rfl)) (fun _ _ _ h => h) (Or.inl ⟨by rfl,?_⟩) ?_ ?_
           rotate_left
           ·intro w'
            go_simp
            with_reducible rfl
           rotate_left
           ·simp only [Act.put,List.setIfInBounds_toArray,List.set_cons_zero,List.set_cons_succ,i64_w,i32_w]
            rfl
           refine pure_ (i :=4) (N :=some 72) (v :=?_) (a' :=?_) #[true,false,true,false,true,false,false,false,false,false,false] rfl rfl (any_of HT_.out (by kernel_rfl)) (fun _ _ _ h => h) (Or.inl ⟨by rfl,?_⟩) ?_ ?_
           rotate_left
           ·intro w'
            go_simp
            with_reducible rfl
           rotate_left
           ·simp only [Act.put,List.setIfInBounds_toArray,List.set_cons_zero,List.set_cons_succ,i64_w,i32_w]
            rfl
           refine take_ (i :=1) (N :=some 69) (v :=?_) (a' :=?_) #[true,true,true,false,true,false,false,false,false,false,false] rfl rfl (take_ofW HT_.out HW_.out (by kernel_rfl)) (fun _ _ _ h => h) (Or.inl ⟨by rfl,?_⟩) hHeld ?_ ?_
           rotate_left
           ·intro w' s0
            go_simp
            with_reducible rfl
           rotate_left
           ·simp only [Act.put,List.setIfInBounds_toArray,List.set_cons_zero,List.set_cons_succ,i64_w,i32_w]
            rfl
           refine one_ (i :=3) (N :=some 71) #[true,true,true,true,true,false,false,false,false,false,false] rfl rfl (one_of HT_.out (by kernel_rfl)) (by decide) (fun K hK => ?_)
           refine goes_ Tryz.func34 (by kernel_rfl) rfl #[.pointer (some ⟨g,0,none⟩)] (by rfl) rfl rfl (by simp only [List.map_toArray,List.map_cons,List.map_nil];rfl) ?_
           refine (pk_kind F.1 F.2.1).mono ?_
           rintro e w21 ⟨ty,rfl,hty,T⟩
           refine ⟨_,rfl,?_⟩
           replace K6 :=T.blk K6 (by omega)
           replace K2 :=T.blk K2 (by omega)
           replace K3 :=T.blk K3 (by omega)
           replace RE :=T.row F.1 RE (by decide)
           replace R :=T.row F.1 R (by decide)
           replace F :=F.call T
           refine hK.out _ _ ((bkc K6 2).trans rfl) (fun hHeld => ?_)
           clear hK K T
           refine norm_ (a' :=?_) ?_ ?_
           rotate_left
           ·show Act.put _ (some 71) _ = _
            simp only [Act.put,List.setIfInBounds_toArray,List.set_cons_zero,List.set_cons_succ,i64_w,i32_w]
            rfl
           refine one_ (i :=5) (N :=some 73) #[true,true,true,true,true,true,false,false,false,false,false] rfl rfl (one_of HT_.out (by kernel_rfl)) (by decide) (fun K hK => ?_)
           refine goes_ Tryz.func33 (by kernel_rfl) rfl #[.pointer (some ⟨g,0,none⟩)] (by rfl) rfl rfl (by simp only [List.map_toArray,List.map_cons,List.map_nil];rfl) ?_
           refine (pk_data F.1 F.2.1).mono ?_
           rintro e w22 ⟨vd,ys,rfl,RD,hy,hyl,T⟩
           obtain ⟨Ad,cd,ed⟩ :=Kd.R_slice RD
           subst ed
           refine ⟨_,rfl,?_⟩
           have hlt : ∀ k,(Value.slice Ae es.length ce).ownBlock = some k → k < w21.heap.size :=Kd.R_lt RE
           have hb6 : b6 < w21.heap.size :=blk_lt K6
           replace K6 :=T.blk K6 (by omega)
           replace K2 :=T.blk K2 (by omega)
           replace K3 :=T.blk K3 (by omega)
           replace RE :=T.row F.1 RE (by decide)
           replace R :=T.row F.1 R (by decide)
           replace F :=F.call T
           refine hK.out _ _ ((bkc K6 2).trans rfl) (fun hHeld => ?_)
           have hsz22 : w21.heap.size ≤ w22.heap.size :=T.2.2.1
           clear hK K T
           refine norm_ (a' :=?_) ?_ ?_
           rotate_left
           ·show Act.put _ (some 73) _ = _
            simp only [Act.put,List.setIfInBounds_toArray,List.set_cons_zero,List.set_cons_succ,i64_w,i32_w]
            rfl
           refine pure_ (i :=6) (N :=some 74) (v :=?_) (a' :=?_) #[true,true,true,true,true,true,true,false,false,false,false] rfl rfl (any_of HT_.out (by kernel_rfl)) (fun _ _ _ h => h) (Or.inl ⟨by rfl,?_⟩) ?_ ?_
           rotate_left
           ·intro w'
            go_simp
            with_reducible rfl
           rotate_left
           ·simp only [Act.put,List.setIfInBounds_toArray,List.set_cons_zero,List.set_cons_succ,i64_w,i32_w]
            rfl
           refine one_ (i :=7) (N :=some 75) #[true,true,true,true,true,true,true,true,false,false,false] rfl rfl (one_of HT_.out (by kernel_rfl)) (by decide) (fun K hK => ?_)
           refine value_ (w1 :=?_) (v :=?_) (by rfl) rfl ?_ ?_
           rotate_left 2
           ·go_simp
            constructor
            ·rfl
            ·rfl
           refine hK.out _ _ ((bkc (bka K6 _) 2).trans rfl) (fun hHeld => ?_)
           clear hK K
           refine norm_ (a' :=?_) ?_ ?_
           rotate_left
           ·show Act.put _ (some 75) _ = _
            simp only [Act.put,List.setIfInBounds_toArray,List.set_cons_zero,List.set_cons_succ,i64_w,i32_w]
            rfl
           refine one_ (i :=8) (N :=some 76) #[true,true,true,true,true,true,true,true,true,false,false] rfl rfl (one_of HT_.out (by kernel_rfl)) (by decide) (fun K hK => ?_)
           refine Kd.R_append_step k85 b6 (by rfl) (.tmp 69) (.tmp 75) 81 85 (.agg #[.string ⟨#[]⟩,.slice none 0 0]) 40 rfl Tryz.underlying81 info85 rfl (by decide) (by omega) (.slice Ae es.length ce) es (⟨ty,ys⟩ : S85) [.string ty,.slice Ad ys.length cd] (fun _ => True) (fun k => w21.heap.size ≤ k) rfl rfl ?aP ?aK (fun _ _ => trivial) RE (Below.refl _ _) ?aS ?aL ?_
           (case aP => exact k85_mkM _ _ _ (⟨ty,ys⟩ : S85) (Kd.R_lower (Kd.R_mono (Kd.R_bound RD) (fun _ h => h.2.1)) (Nat.le_of_lt hb6)))
           (case aK => exact fun k hk => ⟨trivial,fun e => by have :=hlt k e.symm;omega⟩)
           (case aS => omega)
           (case aL => omega)
           intro v2 w23 ho hb hg2 hat
           obtain ⟨A2,c2,rfl⟩ :=Kd.R_slice ho
           obtain ⟨L,hL⟩ : ∃ L,L = (es ++ [(⟨ty,ys⟩ : S85)]).length :=⟨_,rfl⟩
           rw [← hL] at ho ⊢
           replace hL :=AZ.mk hL
           have hbase : ∀ k,(Value.slice Ae es.length ce).ownBlock = some k → b6 ≤ k :=Kd.R_base RE
           replace F :=F.grown hgl hg2 (fun k e => Nat.le_trans g6 (hbase k e))
           replace R :=row_other R hg2 hbase
           replace K2 :=blk_grown K2 hg2 (Kd.R_ne RE K2 (by decide))
           replace K3 :=blk_grown K3 hg2 (Kd.R_ne RE K3 (by decide))
           replace K6 :=blk_grown K6 hg2 (Kd.R_ne RE K6 (by decide))
           clear RE RD hlt hbase hat
           refine hK.out _ _ ((bkc K6 2).trans rfl) (fun hHeld => ?_)
           clear hK K
           refine norm_ (a' :=?_) ?_ ?_
           rotate_left
           ·show Act.put _ (some 76) _ = _
            simp only [Act.put,List.setIfInBounds_toArray,List.set_cons_zero,List.set_cons_succ,i64_w,i32_w]
            rfl
           refine pure_ (i :=9) (N :=some 77) (v :=?_) (a' :=?_) #[true,true,true,true,true,true,true,true,true,true,false] rfl rfl (any_of HT_.out (by kernel_rfl)) (fun _ _ _ h => h) (Or.inl ⟨by rfl,?_⟩) ?_ ?_
           rotate_left
           ·intro w'
            go_simp
            with_reducible rfl
           rotate_left
           ·simp only [Act.put,List.setIfInBounds_toArray,List.set_cons_zero,List.set_cons_succ,i64_w,i32_w]
            rfl
           refine last_ (i :=10) (N :=none) #[true,true,true,true,true,true,true,true,true,true,true] rfl rfl (one_of HT_.out (by kernel_rfl)) (by decide) (fun K hK => ?_)
           have hc2 : w23.cell? ⟨b6,2,none⟩ = some (.slice Ae es.length ce) :=(bkc K6 2).trans rfl
           have hf2 :=bkz K6 2
           refine skip_ (w1 :=?_) (by rfl) rfl ?_ ?_
           rotate_left
           ·go_simp
            rfl
           refine hK.out _ _ ?_
           clear hK K
           refine done_ (done_of HT_.out (by kernel_rfl)) ?_
           have G :=setCell_grown w23 b6 2 (.slice A2 L c2)
           replace ho :=row_grown ho K6 (by decide) G
           replace R :=row_other R G (fun j e => by injection e with e;omega)
           replace K2 :=(G.block b2 (blk_lt K2) (by simpa using n26)).trans K2
           replace K3 :=(G.block b3 (blk_lt K3) (by simpa using n36)).trans K3
           replace F :=F.set hgl g6 2 (.slice A2 L c2)
           replace K6 : (w23.setCell ⟨b6,2,none⟩ (.slice A2 L c2)).heap[b6]? = some (.cells #[.string nm,.int .i64 x,.slice A2 L c2] 83 (0,0)) :=blk_put K6 2 (.slice A2 L c2) rfl
           clear G hc2 hf2 hHeld
           have hwn : wrap64 ((n : Int) - 1) = ((n - 1 : Nat) : Int) :=by unfold wrap64;omega
           go_wp2
           go_roundw
           case measure => simp only [intOf];omega
           case rel =>
            have hL :=hL.out
            subst hL
            exact ⟨n - 1,A2,c2,es ++ [(⟨ty,ys⟩ : S85)],by congr 1;omega,by simp only [List.length_append,List.length_singleton];omega,K6,ho,fun e he => (List.mem_append.1 he).elim (hev e) (fun h => by rw [List.mem_singleton.1 h];exact ⟨hty,hy,hyl⟩),R,K2,K3,F⟩
        case rest =>
         clear F R K2 K3 K6
         obtain ⟨Ae,ce,es,K6,RE,hes,hev,R,K2,K3,F⟩ :=hcut
         obtain ⟨c60,c61,c62⟩ :=cells3 K6
         obtain ⟨c30,c31⟩ :=cells2 K3
         have hlt : ∀ j,(Value.slice A ps.length c).ownBlock = some j → j < b6 :=R.1
         have hbs : ∀ j,(Value.slice A ps.length c).ownBlock = some j → w.heap.size ≤ j :=Kd.R_base R
         go_wp2_with ((with_reducible refine gate_builtin (b :=.append) (xs :=#[.tmp 79,.tmp 81]) rfl ?_);at_builtin;(refine Kd.R_append k83 w.heap.size rfl (.tmp 79) (.tmp 81) 41 83 (.agg #[.string ⟨#[]⟩,.int .i64 0,.slice none 0 0]) 48 rfl Tryz.underlying41 info83 rfl (by decide) (by omega) (.slice A ps.length c) ps (⟨nm,x,es⟩ : S83) [.string nm,.int .i64 x,.slice Ae es.length ce] (fun _ => True) (fun k => b6 ≤ k) rfl rfl ?aP ?aK (fun _ _ => trivial) (Kd.R_mono R (fun _ _ => trivial)) (Below.refl _ _) F.2.2.1 ?aL ?_;(case aP => exact k83_mkM _ _ _ (⟨nm,x,es⟩ : S83) (Kd.R_lower (Kd.R_mono (Kd.R_bound RE) (fun _ h => h.2.1)) g6));(case aK => exact fun k hk => ⟨trivial,fun e => by have :=hlt k e.symm;omega⟩);(case aL => omega);intro v2 w23 ho hb hg2 hat;obtain ⟨A2,c2,rfl⟩ :=Kd.R_slice ho;obtain ⟨L,hL⟩ : ∃ L,L = (ps ++ [(⟨nm,x,es⟩ : S83)]).length :=⟨_,rfl⟩;rw [← hL] at ho ⊢;replace hL :=AZ.mk hL;replace F :=F.grown hgl hg2 hbs;replace K2 :=blk_grown K2 hg2 (Kd.R_ne R K2 (by decide));replace K3 :=blk_grown K3 hg2 (Kd.R_ne R K3 (by decide));clear R RE hb hg2 hat c30 c31 c60 c61 c62;obtain ⟨c30,c31⟩ :=cells2 K3;have fz :=fun i => bkz K3 i))
         go_meet
         have G :=setCell_grown w23 b3 1 (.slice A2 L c2)
         replace ho :=row_grown ho K3 (by decide) G
         replace K2 :=(G.block b2 (blk_lt K2) (by simpa using n23)).trans K2
         replace K3 : (w23.setCell ⟨b3,1,none⟩ (.slice A2 L c2)).heap[b3]? = some (.cells #[.string id,.slice A2 L c2] 43 (0,0)) :=blk_put K3 1 (.slice A2 L c2) rfl
         replace F :=F.set hgl g3 1 (.slice A2 L c2)
         have hL :=hL.out
         subst hL
         exact ⟨A2,c2,ps ++ [(⟨nm,x,es⟩ : S83)],ho,by simp only [List.length_append,List.length_singleton];omega,fun p hpm => (List.mem_append.1 hpm).elim (hp p) (fun h => by rw [List.mem_singleton.1 h];exact ⟨hnm,hx,hes,hev⟩),K2,K3,F⟩
       ·go_wp2
        go_meet
        exact ⟨A,c,ps,Kd.R_mono R (fun _ _ => trivial),by omega,hp,K2,K3,F⟩
    case rest =>
     clear R K2 K3 F hp hps
     obtain ⟨A,c,ps,R,hps,hp,K2,K3,F⟩ :=hcut
     go_wp2
     go_roundw
     case measure => simp only [intOf];omega
     case rel => exact ⟨k + 1,A,c,ps,by omega,by simp,R,hps,hp,K2,K3,F⟩
   ·obtain ⟨c0,c1⟩ :=cells2 K3
    obtain ⟨d0,d1⟩ :=cells2 K2
    have fz :=fun i => bkz K2 i
    go_wp2
    refine bodyPost_ret (results_cell_row rfl _ _ b2 43 #[.string id,.slice A ps.length c] (0,0) _ rfl (blk_put (blk_put K2 0 _ rfl) 1 _ rfl) Tryz.underlying43 rfl (by kernel_rfl)) rfl ?_
    exact ⟨_,id,rfl,ps,row_grown R K2 (by decide) (grown_trans (setCell_grown _ _ _ _) (setCell_grown _ _ _ _)),hid,by omega,hp,(F.set hgl g2 _ _).set hgl g2 _ _⟩
end Go.Proofs.YtlafgnanfkhobaaGreatDoor.P2
