import Derived.Test.YtlafgnanfkhobaaGreatDoorQA2
import Derived.LoopTactic
import Derived.LoopN
set_option linter.all false
namespace Go.Proofs.YtlafgnanfkhobaaGreatDoor.P2
open Go.RowKit Go.Proofs.YtlafgnanfkhobaaGreatDoorW.PrintWords Go.Proofs.YtlafgnanfkhobaaGreatDoorW.PrintLast Go.Proofs.YtlafgnanfkhobaaGreatDoorW.PrintMore
attribute [local go_sem] max2_int min2_int max_two min_two max_three min_three max_four min_four
theorem info46 : (Tryz.prog.info? 46).map (fun i => (i.zero,i.size,i.bytes)) = some (some (.agg #[.int .i64 0,.string ⟨#[]⟩,.slice none 0 0,.string ⟨#[]⟩,.slice none 0 0,.int .i64 0,.slice none 0 0,.int .i64 0,.int .i64 0,.bool false,.slice none 0 0]),11,168) :=by kernel_rfl
set_option maxHeartbeats 2000000 in
set_option maxRecDepth 100000 in
theorem pk_asks {w0 w : World} {g : Nat} (hI : Pk w0 w g) (hB : Below w0.heap.size w0 w) :
  Calls Tryz.prog 10 #[.pointer (some ⟨g,0,none⟩),.int .i64 20] w fun e w' => ∃ (A : Option Addr) (c : Nat) (qs : List S46),e = .returned (.slice A qs.length c) ∧ Kd.R k46 46 w' w.heap.size (fun _ => True) (.slice A qs.length c) qs ∧ qs.length ≤ 20 ∧ (∀ q ∈ qs,GReq q) ∧ PkTo w0 w w' g :=by
 have hgl :=hI.lt
 have F :=PkTo.refl hI hB
 clear hI hB
 go_enter Tryz.func10,Tryz.ntmps10
 go_wp2
 go_loopw [5,6] (fun v5 v6 wr => ∃ (k : Nat) (A : Option Addr) (c : Nat) (qs : List S46),v5 = .slice A qs.length c ∧ v6 = .int .i64 k ∧ k ≤ 20 ∧ qs.length ≤ k ∧ Kd.R k46 46 wr w.heap.size (fun _ => True) (.slice A qs.length c) qs ∧ (∀ q ∈ qs,GReq q) ∧ PkTo w0 w wr g) (fun _ v6 _ => 20 - (intOf v6).toNat)
 case atStart => exact ⟨0,none,0,[],rfl,rfl,by omega,Nat.le_refl _,Kd.R_nil _ _ _ _ _,(fun q hq => absurd hq List.not_mem_nil),F⟩
 case round =>
  clear F
  obtain ⟨k,A,c,qs,rfl,rfl,hk,hqk,R,hqs,F⟩ :=hrel
  by_cases hk20 : k < 20
  ·have hk20' : (k : Int) < 20 :=by omega
   go_wp2_with (first | (go_at_call 20;refine (pk_over F.1 F.2.1).mono ?_;rintro e wn ⟨bo,rfl,T⟩;replace R :=T.row F.1 R (by decide);replace F :=F.call T;clear T) | (go_at_call 21;have hlt : ∀ j,(Value.slice A qs.length c).ownBlock = some j → j < wn.heap.size :=Kd.R_lt R;have hsz :=F.2.2.1;refine (pk_ask F.1 F.2.1).mono ?_;rintro e w2 ⟨cs,q,rfl,M,hq,T⟩;replace R :=T.row F.1 R (by decide);replace F :=F.call T;clear T;obtain ⟨v2,v4,v6,v10,rfl,r2,r4,r6,r10⟩ :=k46_openM M;obtain ⟨A2,c2,rfl⟩ :=Kd.R_slice r2;obtain ⟨A4,c4,rfl⟩ :=Kd.R_slice r4;obtain ⟨A6,c6,rfl⟩ :=Kd.R_slice r6;obtain ⟨A10,c10,rfl⟩ :=Kd.R_slice r10) | ((with_reducible refine gate_builtin (b :=.append) (xs :=#[.tmp 17,.tmp 20]) rfl ?_);at_builtin;(refine Kd.R_append k46 w.heap.size rfl (.tmp 17) (.tmp 20) 29 46 (.agg #[.int .i64 0,.string ⟨#[]⟩,.slice none 0 0,.string ⟨#[]⟩,.slice none 0 0,.int .i64 0,.slice none 0 0,.int .i64 0,.int .i64 0,.bool false,.slice none 0 0]) 168 rfl Tryz.underlying29 info46 rfl (by decide) (by omega) (.slice A qs.length c) qs q _ (fun _ => True) (fun k => wn.heap.size ≤ k) rfl rfl (k46.M_lower hsz (k46.M_mono (fun _ h => h.2.1) (k46.M_bound M))) ?aK (fun _ _ => trivial) R (Below.refl _ _) F.2.2.1 ?aL ?_;(case aK => exact fun k hk => ⟨trivial,fun e => by have :=hlt k e.symm;omega⟩);(case aL => omega);intro v1 w3 ho hb hg2 hat;obtain ⟨A1,c1,rfl⟩ :=Kd.R_slice ho;obtain ⟨L,hL⟩ : ∃ L,L = (qs ++ [q]).length :=⟨_,rfl⟩;rw [← hL] at ho ⊢;replace hL :=AZ.mk hL;replace F :=F.grown hgl hg2 (Kd.R_base R);clear R M r2 r4 r6 r10 hb hg2 hat)))
   ·have hL :=hL.out
    subst hL
    exact ⟨⟨k + 1,A1,c1,qs ++ [q],rfl,by simp,by omega,by simp only [List.length_append,List.length_singleton];omega,ho,fun x hx => (List.mem_append.1 hx).elim (hqs x) (fun h => by rw [List.mem_singleton.1 h];exact hq),F⟩,by simp only [intOf];omega⟩
   ·go_ret
    exact ⟨A,c,qs,rfl,R,by omega,hqs,F⟩
  ·have hk20' : ¬ (k : Int) < 20 :=by omega
   go_wp2
   go_ret
   exact ⟨A,c,qs,rfl,R,by omega,hqs,F⟩
theorem R_addr {α : Type} {d : Kd α} {e base n c : Nat} {ok : Nat → Prop} {W : World} {A : Option Addr} {xs : List α} (h : d.R e W base ok (.slice A n c) xs) (hn : 0 < n) : ∃ g,A = some ⟨g,0,none⟩ :=by
 obtain ⟨_,inner,ho,_⟩ :=h
 rcases ho.2 with ⟨hv,_⟩ | ⟨g,cap',cur,hv,_⟩
 ·injection hv with _ h2 _;omega
 ·injection hv with ha _ _;exact ⟨g,ha⟩
theorem row_old {α : Type} {d : Kd α} {W W' : World} {e base : Nat} {ok : Nat → Prop} {v : Value} {xs : List α} (h : d.R e W base ok v xs) (hw : Below W.heap.size W W') : d.R e W' base (fun k => k < W.heap.size) v xs :=
 Kd.R_mono (Kd.R_below (Kd.R_bound h) hw) (fun k hk => hk.2.2.1)
def mkStep (q : S46) : S48 :=⟨1,q,0,[]⟩
set_option maxHeartbeats 2000000 in
set_option maxRecDepth 100000 in
theorem steps_calls {w : World} {A : Option Addr} {c : Nat} {l : List S46} (R : Kd.R k46 46 w 0 (fun _ => True) (.slice A l.length c) l) (hl : l.length ≤ 1000) :
  Calls Tryz.prog 8 #[.slice A l.length c] w fun e w' => ∃ (A' : Option Addr) (c' : Nat),e = .returned (.slice A' l.length c') ∧ Kd.R k48 48 w' 0 (fun _ => True) (.slice A' l.length c') (l.map mkStep) ∧ Below w.heap.size w w' :=by
 go_enter Tryz.func8,Tryz.ntmps8
 go_wp2
 go_loopw [3,4] (fun v3 v4 wr => ∃ (k : Nat) (A' : Option Addr) (c' : Nat),v3 = .slice A' k c' ∧ v4 = .int .i64 k ∧ k ≤ l.length ∧ Kd.R k48 48 wr 0 (fun _ => True) (.slice A' k c') ((l.take k).map mkStep) ∧ (∀ j,(Value.slice A' k c').ownBlock = some j → w.heap.size ≤ j) ∧ Below w.heap.size w wr) (fun _ v4 _ => l.length - (intOf v4).toNat)
 case atStart => exact ⟨0,none,0,rfl,rfl,Nat.zero_le _,Kd.R_nil _ _ _ _ _,(fun j h => by simp [Value.ownBlock] at h),Below.refl _ _⟩
 case round =>
  obtain ⟨k,A',c',rfl,rfl,hk,RO,hown,HB⟩ :=hrel
  by_cases hkl : k < l.length
  ·have hkl' : (k : Int) < (l.length : Int) :=by omega
   obtain ⟨gl,rfl⟩ :=R_addr R (by omega)
   obtain ⟨cs,hcl,M,hcells,_⟩ :=Kd.R_elem R z46 (k : Int) (by omega) (by omega)
   obtain ⟨v2,v4,v6,v10,rfl,r2,r4,r6,r10⟩ :=k46_openM M
   obtain ⟨A2,c2,rfl⟩ :=Kd.R_slice r2
   obtain ⟨A4,c4,rfl⟩ :=Kd.R_slice r4
   obtain ⟨A6,c6,rfl⟩ :=Kd.R_slice r6
   obtain ⟨A10,c10,rfl⟩ :=Kd.R_slice r10
   have hqk : l.getD (k : Int).toNat z46 = l[k] :=by simp [hkl]
   generalize hq : l.getD (k : Int).toNat z46 = q at hcells M r2 r4 r6 r10 hqk ⊢
   clear M hq
   replace hqk :=AZ.mk hqk
   replace r2 :=row_old r2 HB
   replace r4 :=row_old r4 HB
   replace r6 :=row_old r6 HB
   replace r10 :=row_old r10 HB
   have hcc : ∀ j u,([.int .i64 q.f0,.string q.f1.f0,.slice A2 q.f1.f1.length c2,.string q.f2,.slice A4 q.f3.length c4,.int .i64 q.f4,.slice A6 q.f5.length c6,.int .i64 q.f6,.int .i64 q.f7,.bool q.f8,.slice A10 q.f9.length c10] : List Value)[j]? = some u → wr.cell? ⟨gl,k * 11 + j,none⟩ = some u :=fun j u h => by
    have h1 :=hcells j u h
    exact (HB.cell (World.block_lt_of_cell? _ _ h1)).trans h1
   have q0 : wr.cell? ⟨gl,k * 11,none⟩ = _ :=hcc 0 _ rfl
   have q1 :=hcc 1 _ rfl
   have q2 :=hcc 2 _ rfl
   have q3 :=hcc 3 _ rfl
   have q4 :=hcc 4 _ rfl
   have q5 :=hcc 5 _ rfl
   have q6 :=hcc 6 _ rfl
   have q7 :=hcc 7 _ rfl
   have q8 :=hcc 8 _ rfl
   have q9 :=hcc 9 _ rfl
   have q10 :=hcc 10 _ rfl
   clear hcc hcells hcl
   go_wp2_with ((with_reducible refine gate_builtin (b :=.append) (xs :=#[.tmp 11,.tmp 17]) rfl ?_);at_builtin;go_loud (refine Kd.R_append k48 0 rfl (.tmp 11) (.tmp 17) 25 48 (.agg #[.int .i64 0,.int .i64 0,.string ⟨#[]⟩,.slice none 0 0,.string ⟨#[]⟩,.slice none 0 0,.int .i64 0,.slice none 0 0,.int .i64 0,.int .i64 0,.bool false,.slice none 0 0,.int .i64 0,.slice none 0 0]) 208 rfl Tryz.underlying25 info48 rfl (by decide) (by omega) (.slice A' k c') ((l.take k).map mkStep) (mkStep q) [.int .i64 1,.int .i64 q.f0,.string q.f1.f0,.slice A2 q.f1.f1.length c2,.string q.f2,.slice A4 q.f3.length c4,.int .i64 q.f4,.slice A6 q.f5.length c6,.int .i64 q.f6,.int .i64 q.f7,.bool q.f8,.slice A10 q.f9.length c10,.int .i64 0,.slice none 0 0] (fun _ => True) (fun j => j < w.heap.size) rfl rfl (k48_mkM _ _ _ (mkStep q) r2 r4 r6 r10 (Kd.R_nil _ _ _ _ _)) ?aK (fun _ _ => trivial) RO (Below.refl _ _) (Nat.zero_le _) ?aL ?_;(case aK => exact fun j hj => ⟨trivial,fun e => by have :=hown j e.symm;omega⟩);(case aL => rw [List.length_map,List.length_take];omega);intro v1 w3 ho hb hg2 hat;obtain ⟨A1,c1,rfl⟩ :=Kd.R_slice ho;rw [show ((l.take k).map mkStep ++ [mkStep q]).length = k + 1 by simp;omega] at ho hat ⊢;rw [show (l.take k).map mkStep ++ [mkStep q] = (l.take (k + 1)).map mkStep by rw [List.take_succ_eq_append_getElem hkl,List.map_append,← hqk.out,List.map_singleton]] at ho;have HB3 :=HB.grown hg2 HB.size hown;have hown3 : ∀ j,(Value.slice A1 (k + 1) c1).ownBlock = some j → w.heap.size ≤ j :=(fun j hj => hat.elim (fun e => hown j (e ▸ hj)) (fun ⟨b,e,hb⟩ => by rw [e] at hj;injection hj with hj;have :=HB.size;omega));clear r2 r4 r6 r10 hb hg2 hat q0 q1 q2 q3 q4 q5 q6 q7 q8 q9 q10))
   exact ⟨⟨k + 1,A1,c1,rfl,by simp,by omega,ho,hown3,HB3⟩,by simp only [intOf];omega⟩
  ·have hkl' : ¬ (k : Int) < (l.length : Int) :=by omega
   go_wp2
   go_ret
   obtain rfl : k = l.length :=by omega
   exact ⟨A',c',rfl,by rw [List.take_length] at RO;exact RO,HB⟩
end Go.Proofs.YtlafgnanfkhobaaGreatDoor.P2
