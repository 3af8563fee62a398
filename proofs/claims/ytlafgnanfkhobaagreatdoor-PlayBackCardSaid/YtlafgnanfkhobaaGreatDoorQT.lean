import Derived.Test.YtlafgnanfkhobaaGreatDoorQS
import Derived.Test.YtlafgnanfkhobaaGreatDoorQU
set_option linter.all false
namespace Go.Proofs.YtlafgnanfkhobaaGreatDoor.P2
open Go.RowKit Go.Proofs.YtlafgnanfkhobaaGreatDoorW.PrintWords Go.Proofs.YtlafgnanfkhobaaGreatDoorW.PrintLast Go.Proofs.YtlafgnanfkhobaaGreatDoorW.PrintMore
attribute [local go_sem] max2_int min2_int max_two min_two max_three min_three max_four min_four
set_option maxHeartbeats 4000000 in
set_option maxRecDepth 100000 in
theorem sameAsk_true {A2 A4 A6 A10 A2' A4' A6' A10' : Option Addr} {c2 c4 c6 c10 c2' c4' c6' c10' : Nat} {q : S46} {w0 : World} (h2 : Kd.C k83 w0 A2 q.f1.f1.length q.f1.f1) (h4 : Kd.C Kd.string w0 A4 q.f3.length q.f3) (h6 : Kd.C (Kd.int .u8) w0 A6 q.f5.length q.f5) (h10 : Kd.C (Kd.int .u8) w0 A10 q.f9.length q.f9) (h2' : Kd.C k83 w0 A2' q.f1.f1.length q.f1.f1) (h4' : Kd.C Kd.string w0 A4' q.f3.length q.f3) (h6' : Kd.C (Kd.int .u8) w0 A6' q.f5.length q.f5) (h10' : Kd.C (Kd.int .u8) w0 A10' q.f9.length q.f9) :
  Calls Tryz.prog 35 #[.agg #[.int .i64 q.f0,.string q.f1.f0,.slice A2 q.f1.f1.length c2,.string q.f2,.slice A4 q.f3.length c4,.int .i64 q.f4,.slice A6 q.f5.length c6,.int .i64 q.f6,.int .i64 q.f7,.bool q.f8,.slice A10 q.f9.length c10],.agg #[.int .i64 q.f0,.string q.f1.f0,.slice A2' q.f1.f1.length c2',.string q.f2,.slice A4' q.f3.length c4',.int .i64 q.f4,.slice A6' q.f5.length c6',.int .i64 q.f6,.int .i64 q.f7,.bool q.f8,.slice A10' q.f9.length c10']] w0 fun e w' => e = .returned (.bool true) ∧ Below w0.heap.size w0 w' :=by
 have HB :=Below.refl w0.heap.size w0
 have hn63 : q.f3.length ≤ 9223372036854775807 :=h4.2.1
 go_enter Tryz.func35,Tryz.ntmps35
 go_wp2_with (first | ((with_reducible refine gate_dst (N :=2) rfl ?_);(refine box_event ?hg (N :=2) ?hd (cs :=#[.int .i64 q.f0,.string q.f1.f0,.slice A2 q.f1.f1.length c2,.string q.f2,.slice A4 q.f3.length c4,.int .i64 q.f4,.slice A6 q.f5.length c6,.int .i64 q.f6,.int .i64 q.f7,.bool q.f8,.slice A10 q.f9.length c10]) (t :=46) ?hr ?_;(case hd => rfl);(case hg => rfl);(case hr => first | (go_simp;done) | (go_simp;rfl));intro b hgb w1 BK hb;replace HB :=below_step HB hb;clear hb hgb)) | ((with_reducible refine gate_dst (N :=3) rfl ?_);(refine box_event ?hg2 (N :=3) ?hd2 (cs :=#[.int .i64 q.f0,.string q.f1.f0,.slice A2' q.f1.f1.length c2',.string q.f2,.slice A4' q.f3.length c4',.int .i64 q.f4,.slice A6' q.f5.length c6',.int .i64 q.f6,.int .i64 q.f7,.bool q.f8,.slice A10' q.f9.length c10']) (t :=46) ?hr2 ?_;(case hd2 => rfl);(case hg2 => rfl);(case hr2 => first | (go_simp;done) | (go_simp;rfl));intro b2 hgb w2 BL hb;replace HB :=below_step HB hb;replace BK :=blk_below BK hb;clear hb hgb;obtain ⟨k0,k1,k2,k3,k4,k5,k6,k7,k8,k9,k10⟩ :=cells11 BK;obtain ⟨l0,l1,l2,l3,l4,l5,l6,l7,l8,l9,l10⟩ :=cells11 BL)))
 go_loopw [5] (fun i wr => ∃ k : Nat,k ≤ q.f3.length ∧ i = .int .i64 k ∧ Below w0.heap.size w0 wr ∧ wr.heap[b]? = some (.cells #[.int .i64 q.f0,.string q.f1.f0,.slice A2 q.f1.f1.length c2,.string q.f2,.slice A4 q.f3.length c4,.int .i64 q.f4,.slice A6 q.f5.length c6,.int .i64 q.f6,.int .i64 q.f7,.bool q.f8,.slice A10 q.f9.length c10] 46 (0,0)) ∧ wr.heap[b2]? = some (.cells #[.int .i64 q.f0,.string q.f1.f0,.slice A2' q.f1.f1.length c2',.string q.f2,.slice A4' q.f3.length c4',.int .i64 q.f4,.slice A6' q.f5.length c6',.int .i64 q.f6,.int .i64 q.f7,.bool q.f8,.slice A10' q.f9.length c10'] 46 (0,0))) (fun i _ => q.f3.length - (intOf i).toNat)
 case atStart => exact ⟨0,Nat.zero_le _,rfl,HB,BK,BL⟩
 case round =>
  clear HB BK BL k0 k1 k2 k3 k4 k5 k6 k7 k8 k9 k10 l0 l1 l2 l3 l4 l5 l6 l7 l8 l9 l10
  obtain ⟨k,hk,rfl,HB,BK,BL⟩ :=hrel
  obtain ⟨k0,k1,k2,k3,k4,k5,k6,k7,k8,k9,k10⟩ :=cells11 BK
  obtain ⟨l0,l1,l2,l3,l4,l5,l6,l7,l8,l9,l10⟩ :=cells11 BL
  by_cases hkn : k < q.f3.length
  ·obtain ⟨a1,e1,g0⟩ :=Kd.at_string h4 (k : Int) (by omega) (by omega)
   obtain ⟨a2,e2,p0⟩ :=Kd.at_string h4' (k : Int) (by omega) (by omega)
   subst e1
   subst e2
   generalize rdOf ByteArray.empty q.f3 k = x at g0 p0
   replace g0 : wr.cell? (a1.add k) = some (.string x) :=(HB.cell (World.block_lt_of_cell? _ _ g0)).trans g0
   replace p0 : wr.cell? (a2.add k) = some (.string x) :=(HB.cell (World.block_lt_of_cell? _ _ p0)).trans p0
   have hkn' : (k : Int) < (q.f3.length : Int) :=by omega
   go_wp2
   repeat (go_quiet (fail);try go_wp2)
   go_roundw
   case measure => simp only [intOf];omega
   case rel => exact ⟨k + 1,by omega,rfl,pwN HB _,bkN BK _,bkN BL _⟩
  ·have hkn' : ¬ (k : Int) < (q.f3.length : Int) :=by omega
   go_wp2_with (go_at_call 45;((refine (sameCommit_true (c :=q.f1) (Kd.C_below h2 HB) (Kd.C_below h2' HB)).mono ?_);rintro e wn ⟨rfl,hb⟩;replace HB :=below_step HB hb;replace BK :=blk_below BK hb;replace BL :=blk_below BL hb;clear hb k0 k1 k2 k3 k4 k5 k6 k7 k8 k9 k10 l0 l1 l2 l3 l4 l5 l6 l7 l8 l9 l10;obtain ⟨k0,k1,k2,k3,k4,k5,k6,k7,k8,k9,k10⟩ :=cells11 BK;obtain ⟨l0,l1,l2,l3,l4,l5,l6,l7,l8,l9,l10⟩ :=cells11 BL;have s1 :=Kd.C_string (P :=Tryz.prog) (c :=c6) Tryz.underlying22 Tryz.underlying5 Tryz.underlying9 (Kd.C_below h6 HB);have s2 :=Kd.C_string (P :=Tryz.prog) (c :=c6') Tryz.underlying22 Tryz.underlying5 Tryz.underlying9 (Kd.C_below h6' HB);have s3 :=Kd.C_string (P :=Tryz.prog) (c :=c10) Tryz.underlying22 Tryz.underlying5 Tryz.underlying9 (Kd.C_below h10 HB);have s4 :=Kd.C_string (P :=Tryz.prog) (c :=c10') Tryz.underlying22 Tryz.underlying5 Tryz.underlying9 (Kd.C_below h10' HB)))
   go_ret
   exact ⟨by simp,HB⟩
set_option maxHeartbeats 4000000 in
set_option maxRecDepth 100000 in
theorem sameStep_true {A3 A5 A7 A11 A13 A3' A5' A7' A11' A13' : Option Addr} {c3 c5 c7 c11 c13 c3' c5' c7' c11' c13' : Nat} {s : S48} {w0 : World} (h3 : Kd.C k83 w0 A3 s.f1.f1.f1.length s.f1.f1.f1) (h5 : Kd.C Kd.string w0 A5 s.f1.f3.length s.f1.f3) (h7 : Kd.C (Kd.int .u8) w0 A7 s.f1.f5.length s.f1.f5) (h11 : Kd.C (Kd.int .u8) w0 A11 s.f1.f9.length s.f1.f9) (h13 : Kd.C (Kd.int .u8) w0 A13 s.f3.length s.f3) (h3' : Kd.C k83 w0 A3' s.f1.f1.f1.length s.f1.f1.f1) (h5' : Kd.C Kd.string w0 A5' s.f1.f3.length s.f1.f3) (h7' : Kd.C (Kd.int .u8) w0 A7' s.f1.f5.length s.f1.f5) (h11' : Kd.C (Kd.int .u8) w0 A11' s.f1.f9.length s.f1.f9) (h13' : Kd.C (Kd.int .u8) w0 A13' s.f3.length s.f3) :
  Calls Tryz.prog 22 #[.agg #[.int .i64 s.f0,.int .i64 s.f1.f0,.string s.f1.f1.f0,.slice A3 s.f1.f1.f1.length c3,.string s.f1.f2,.slice A5 s.f1.f3.length c5,.int .i64 s.f1.f4,.slice A7 s.f1.f5.length c7,.int .i64 s.f1.f6,.int .i64 s.f1.f7,.bool s.f1.f8,.slice A11 s.f1.f9.length c11,.int .i64 s.f2,.slice A13 s.f3.length c13],.agg #[.int .i64 s.f0,.int .i64 s.f1.f0,.string s.f1.f1.f0,.slice A3' s.f1.f1.f1.length c3',.string s.f1.f2,.slice A5' s.f1.f3.length c5',.int .i64 s.f1.f4,.slice A7' s.f1.f5.length c7',.int .i64 s.f1.f6,.int .i64 s.f1.f7,.bool s.f1.f8,.slice A11' s.f1.f9.length c11',.int .i64 s.f2,.slice A13' s.f3.length c13']] w0 fun e w' => e = .returned (.bool true) ∧ Below w0.heap.size w0 w' :=by
 have HB :=Below.refl w0.heap.size w0
 go_enter Tryz.func22,Tryz.ntmps22
 go_wp2_with (first | ((with_reducible refine gate_dst (N :=2) rfl ?_);(refine box_event ?hg (N :=2) ?hd (cs :=#[.int .i64 s.f0,.int .i64 s.f1.f0,.string s.f1.f1.f0,.slice A3 s.f1.f1.f1.length c3,.string s.f1.f2,.slice A5 s.f1.f3.length c5,.int .i64 s.f1.f4,.slice A7 s.f1.f5.length c7,.int .i64 s.f1.f6,.int .i64 s.f1.f7,.bool s.f1.f8,.slice A11 s.f1.f9.length c11,.int .i64 s.f2,.slice A13 s.f3.length c13]) (t :=48) ?hr ?_;(case hd => rfl);(case hg => rfl);(case hr => first | (go_simp;done) | (go_simp;rfl));intro b hgb w1 BK hb;replace HB :=below_step HB hb;clear hb hgb)) | ((with_reducible refine gate_dst (N :=3) rfl ?_);(refine box_event ?hg2 (N :=3) ?hd2 (cs :=#[.int .i64 s.f0,.int .i64 s.f1.f0,.string s.f1.f1.f0,.slice A3' s.f1.f1.f1.length c3',.string s.f1.f2,.slice A5' s.f1.f3.length c5',.int .i64 s.f1.f4,.slice A7' s.f1.f5.length c7',.int .i64 s.f1.f6,.int .i64 s.f1.f7,.bool s.f1.f8,.slice A11' s.f1.f9.length c11',.int .i64 s.f2,.slice A13' s.f3.length c13']) (t :=48) ?hr2 ?_;(case hd2 => rfl);(case hg2 => rfl);(case hr2 => first | (go_simp;done) | (go_simp;rfl));intro b2 hgb w2 BL hb;replace HB :=below_step HB hb;replace BK :=blk_below BK hb;clear hb hgb;obtain ⟨k0,k1,k2,k3,k4,k5,k6,k7,k8,k9,k10,k11,k12,k13⟩ :=cells14 BK;obtain ⟨l0,l1,l2,l3,l4,l5,l6,l7,l8,l9,l10,l11,l12,l13⟩ :=cells14 BL)) | (go_at_call 35;((refine (sameAsk_true (q :=s.f1) (Kd.C_below h3 HB) (Kd.C_below h5 HB) (Kd.C_below h7 HB) (Kd.C_below h11 HB) (Kd.C_below h3' HB) (Kd.C_below h5' HB) (Kd.C_below h7' HB) (Kd.C_below h11' HB)).mono ?_);rintro e wn ⟨rfl,hb⟩;replace HB :=below_step HB hb;replace BK :=blk_below BK hb;replace BL :=blk_below BL hb;clear hb k0 k1 k2 k3 k4 k5 k6 k7 k8 k9 k10 k11 k12 k13 l0 l1 l2 l3 l4 l5 l6 l7 l8 l9 l10 l11 l12 l13;obtain ⟨k0,k1,k2,k3,k4,k5,k6,k7,k8,k9,k10,k11,k12,k13⟩ :=cells14 BK;obtain ⟨l0,l1,l2,l3,l4,l5,l6,l7,l8,l9,l10,l11,l12,l13⟩ :=cells14 BL;have s1 :=Kd.C_string (P :=Tryz.prog) (c :=c13) Tryz.underlying22 Tryz.underlying5 Tryz.underlying9 (Kd.C_below h13 HB);have s2 :=Kd.C_string (P :=Tryz.prog) (c :=c13') Tryz.underlying22 Tryz.underlying5 Tryz.underlying9 (Kd.C_below h13' HB))))
 go_ret
 exact ⟨by simp,HB⟩
def ssT6 : Bool × List (List Nat × List Nat) :=(true,[([],[]),([],[]),([0,1],[0,1]),([2],[2]),([],[]),([],[]),([4,5],[4,5]),([6],[6]),([3,7],[3,7]),([8],[8])])
def ssB6 : List Nat :=[0,0,3,7,0,0,48,112,255,511]
theorem ss_tab6 : rtab .any (opsOf Tryz.f11 6) = ssT6 :=by kernel_rfl
theorem ss_bits6 : waitsOk ssT6.2 ssB6 = true :=by kernel_rfl
set_option maxHeartbeats 4000000 in
set_option maxRecDepth 100000 in
theorem sameSteps_true {A B : Option Addr} {c0 d0 : Nat} {l : List S48} {w : World} (h1 : Kd.C k48 w A l.length l) (h2 : Kd.C k48 w B l.length l) :
  Calls Tryz.prog 11 #[.slice A l.length c0,.slice B l.length d0] w fun e w' => e = .returned (.bool true) ∧ Below w.heap.size w w' :=by
 have hn63 : l.length ≤ 9223372036854775807 :=h1.2.1
 go_enter Tryz.func11,Tryz.ntmps11
 go_wp2
 go_loopw [5] (fun i wr => ∃ k : Nat,k ≤ l.length ∧ i = .int .i64 k ∧ Below w.heap.size w wr) (fun i _ => l.length - (intOf i).toNat)
 case atStart => exact ⟨0,Nat.zero_le _,rfl,Below.refl _ _⟩
 case round =>
  obtain ⟨k,hk,rfl,HB⟩ :=hrel
  by_cases hkn : k < l.length
  ·obtain ⟨a1,A3,c3,A5,c5,A7,c7,A11,c11,A13,c13,e1,g0,g1,g2,g3,g4,g5,g6,g7,g8,g9,g10,g11,g12,g13,_,x3,_,x5,_,x7,_,x11,_,x13⟩ :=at_T48 h1 (k : Int) (by omega) (by omega)
   obtain ⟨a2,B3,d3,B5,d5,B7,d7,B11,d11,B13,d13,e2,p0,p1,p2,p3,p4,p5,p6,p7,p8,p9,p10,p11,p12,p13,_,y3,_,y5,_,y7,_,y11,_,y13⟩ :=at_T48 h2 (k : Int) (by omega) (by omega)
   subst e1
   subst e2
   generalize rd_T48 l k = s at g0 g1 g2 g3 g4 g5 g6 g7 g8 g9 g10 g11 g12 g13 p0 p1 p2 p3 p4 p5 p6 p7 p8 p9 p10 p11 p12 p13 x3 x5 x7 x11 x13 y3 y5 y7 y11 y13
   simp only [Int.toNat_natCast] at g0 g1 g2 g3 g4 g5 g6 g7 g8 g9 g10 g11 g12 g13 p0 p1 p2 p3 p4 p5 p6 p7 p8 p9 p10 p11 p12 p13
   have hkn' : (k : Int) < (l.length : Int) :=by omega
   have SS : ∀ w',Below w.heap.size w w' → (w'.cell? (a1.add (k * 14)) = some (.int .i64 s.f0) ∧ w'.cell? ⟨(a1.add (k * 14)).block,(a1.add (k * 14)).off + 1,none⟩ = some (.int .i64 s.f1.f0) ∧ w'.cell? ⟨(a1.add (k * 14)).block,(a1.add (k * 14)).off + 2,none⟩ = some (.string s.f1.f1.f0) ∧ w'.cell? ⟨(a1.add (k * 14)).block,(a1.add (k * 14)).off + 3,none⟩ = some (.slice A3 s.f1.f1.f1.length c3) ∧ w'.cell? ⟨(a1.add (k * 14)).block,(a1.add (k * 14)).off + 4,none⟩ = some (.string s.f1.f2) ∧ w'.cell? ⟨(a1.add (k * 14)).block,(a1.add (k * 14)).off + 5,none⟩ = some (.slice A5 s.f1.f3.length c5) ∧ w'.cell? ⟨(a1.add (k * 14)).block,(a1.add (k * 14)).off + 6,none⟩ = some (.int .i64 s.f1.f4) ∧ w'.cell? ⟨(a1.add (k * 14)).block,(a1.add (k * 14)).off + 7,none⟩ = some (.slice A7 s.f1.f5.length c7) ∧ w'.cell? ⟨(a1.add (k * 14)).block,(a1.add (k * 14)).off + 8,none⟩ = some (.int .i64 s.f1.f6) ∧ w'.cell? ⟨(a1.add (k * 14)).block,(a1.add (k * 14)).off + 9,none⟩ = some (.int .i64 s.f1.f7) ∧ w'.cell? ⟨(a1.add (k * 14)).block,(a1.add (k * 14)).off + 10,none⟩ = some (.bool s.f1.f8) ∧ w'.cell? ⟨(a1.add (k * 14)).block,(a1.add (k * 14)).off + 11,none⟩ = some (.slice A11 s.f1.f9.length c11) ∧ w'.cell? ⟨(a1.add (k * 14)).block,(a1.add (k * 14)).off + 12,none⟩ = some (.int .i64 s.f2) ∧ w'.cell? ⟨(a1.add (k * 14)).block,(a1.add (k * 14)).off + 13,none⟩ = some (.slice A13 s.f3.length c13) ∧ w'.cell? (a2.add (k * 14)) = some (.int .i64 s.f0) ∧ w'.cell? ⟨(a2.add (k * 14)).block,(a2.add (k * 14)).off + 1,none⟩ = some (.int .i64 s.f1.f0) ∧ w'.cell? ⟨(a2.add (k * 14)).block,(a2.add (k * 14)).off + 2,none⟩ = some (.string s.f1.f1.f0) ∧ w'.cell? ⟨(a2.add (k * 14)).block,(a2.add (k * 14)).off + 3,none⟩ = some (.slice B3 s.f1.f1.f1.length d3) ∧ w'.cell? ⟨(a2.add (k * 14)).block,(a2.add (k * 14)).off + 4,none⟩ = some (.string s.f1.f2) ∧ w'.cell? ⟨(a2.add (k * 14)).block,(a2.add (k * 14)).off + 5,none⟩ = some (.slice B5 s.f1.f3.length d5) ∧ w'.cell? ⟨(a2.add (k * 14)).block,(a2.add (k * 14)).off + 6,none⟩ = some (.int .i64 s.f1.f4) ∧ w'.cell? ⟨(a2.add (k * 14)).block,(a2.add (k * 14)).off + 7,none⟩ = some (.slice B7 s.f1.f5.length d7) ∧ w'.cell? ⟨(a2.add (k * 14)).block,(a2.add (k * 14)).off + 8,none⟩ = some (.int .i64 s.f1.f6) ∧ w'.cell? ⟨(a2.add (k * 14)).block,(a2.add (k * 14)).off + 9,none⟩ = some (.int .i64 s.f1.f7) ∧ w'.cell? ⟨(a2.add (k * 14)).block,(a2.add (k * 14)).off + 10,none⟩ = some (.bool s.f1.f8) ∧ w'.cell? ⟨(a2.add (k * 14)).block,(a2.add (k * 14)).off + 11,none⟩ = some (.slice B11 s.f1.f9.length d11) ∧ w'.cell? ⟨(a2.add (k * 14)).block,(a2.add (k * 14)).off + 12,none⟩ = some (.int .i64 s.f2) ∧ w'.cell? ⟨(a2.add (k * 14)).block,(a2.add (k * 14)).off + 13,none⟩ = some (.slice B13 s.f3.length d13)) :=fun w' hb => ⟨pw_cell_below hb g0,pw_cell_below hb g1,pw_cell_below hb g2,pw_cell_below hb g3,pw_cell_below hb g4,pw_cell_below hb g5,pw_cell_below hb g6,pw_cell_below hb g7,pw_cell_below hb g8,pw_cell_below hb g9,pw_cell_below hb g10,pw_cell_below hb g11,pw_cell_below hb g12,pw_cell_below hb g13,pw_cell_below hb p0,pw_cell_below hb p1,pw_cell_below hb p2,pw_cell_below hb p3,pw_cell_below hb p4,pw_cell_below hb p5,pw_cell_below hb p6,pw_cell_below hb p7,pw_cell_below hb p8,pw_cell_below hb p9,pw_cell_below hb p10,pw_cell_below hb p11,pw_cell_below hb p12,pw_cell_below hb p13⟩
   clear g0 g1 g2 g3 g4 g5 g6 g7 g8 g9 g10 g11 g12 g13 p0 p1 p2 p3 p4 p5 p6 p7 p8 p9 p10 p11 p12 p13
   go_wp2
   have hw20 :=below_drew HB
   refine start_ (n :=10) (S :=fun w' => w'.cell? (a1.add (k * 14)) = some (.int .i64 s.f0) ∧ w'.cell? ⟨(a1.add (k * 14)).block,(a1.add (k * 14)).off + 1,none⟩ = some (.int .i64 s.f1.f0) ∧ w'.cell? ⟨(a1.add (k * 14)).block,(a1.add (k * 14)).off + 2,none⟩ = some (.string s.f1.f1.f0) ∧ w'.cell? ⟨(a1.add (k * 14)).block,(a1.add (k * 14)).off + 3,none⟩ = some (.slice A3 s.f1.f1.f1.length c3) ∧ w'.cell? ⟨(a1.add (k * 14)).block,(a1.add (k * 14)).off + 4,none⟩ = some (.string s.f1.f2) ∧ w'.cell? ⟨(a1.add (k * 14)).block,(a1.add (k * 14)).off + 5,none⟩ = some (.slice A5 s.f1.f3.length c5) ∧ w'.cell? ⟨(a1.add (k * 14)).block,(a1.add (k * 14)).off + 6,none⟩ = some (.int .i64 s.f1.f4) ∧ w'.cell? ⟨(a1.add (k * 14)).block,(a1.add (k * 14)).off + 7,none⟩ = some (.slice A7 s.f1.f5.length c7) ∧ w'.cell? ⟨(a1.add (k * 14)).block,(a1.add (k * 14)).off + 8,none⟩ = some (.int .i64 s.f1.f6) ∧ w'.cell? ⟨(a1.add (k * 14)).block,(a1.add (k * 14)).off + 9,none⟩ = some (.int .i64 s.f1.f7) ∧ w'.cell? ⟨(a1.add (k * 14)).block,(a1.add (k * 14)).off + 10,none⟩ = some (.bool s.f1.f8) ∧ w'.cell? ⟨(a1.add (k * 14)).block,(a1.add (k * 14)).off + 11,none⟩ = some (.slice A11 s.f1.f9.length c11) ∧ w'.cell? ⟨(a1.add (k * 14)).block,(a1.add (k * 14)).off + 12,none⟩ = some (.int .i64 s.f2) ∧ w'.cell? ⟨(a1.add (k * 14)).block,(a1.add (k * 14)).off + 13,none⟩ = some (.slice A13 s.f3.length c13) ∧ w'.cell? (a2.add (k * 14)) = some (.int .i64 s.f0) ∧ w'.cell? ⟨(a2.add (k * 14)).block,(a2.add (k * 14)).off + 1,none⟩ = some (.int .i64 s.f1.f0) ∧ w'.cell? ⟨(a2.add (k * 14)).block,(a2.add (k * 14)).off + 2,none⟩ = some (.string s.f1.f1.f0) ∧ w'.cell? ⟨(a2.add (k * 14)).block,(a2.add (k * 14)).off + 3,none⟩ = some (.slice B3 s.f1.f1.f1.length d3) ∧ w'.cell? ⟨(a2.add (k * 14)).block,(a2.add (k * 14)).off + 4,none⟩ = some (.string s.f1.f2) ∧ w'.cell? ⟨(a2.add (k * 14)).block,(a2.add (k * 14)).off + 5,none⟩ = some (.slice B5 s.f1.f3.length d5) ∧ w'.cell? ⟨(a2.add (k * 14)).block,(a2.add (k * 14)).off + 6,none⟩ = some (.int .i64 s.f1.f4) ∧ w'.cell? ⟨(a2.add (k * 14)).block,(a2.add (k * 14)).off + 7,none⟩ = some (.slice B7 s.f1.f5.length d7) ∧ w'.cell? ⟨(a2.add (k * 14)).block,(a2.add (k * 14)).off + 8,none⟩ = some (.int .i64 s.f1.f6) ∧ w'.cell? ⟨(a2.add (k * 14)).block,(a2.add (k * 14)).off + 9,none⟩ = some (.int .i64 s.f1.f7) ∧ w'.cell? ⟨(a2.add (k * 14)).block,(a2.add (k * 14)).off + 10,none⟩ = some (.bool s.f1.f8) ∧ w'.cell? ⟨(a2.add (k * 14)).block,(a2.add (k * 14)).off + 11,none⟩ = some (.slice B11 s.f1.f9.length d11) ∧ w'.cell? ⟨(a2.add (k * 14)).block,(a2.add (k * 14)).off + 12,none⟩ = some (.int .i64 s.f2) ∧ w'.cell? ⟨(a2.add (k * 14)).block,(a2.add (k * 14)).off + 13,none⟩ = some (.slice B13 s.f3.length d13)) (ds :=[]) #[false,false,false,false,false,false,false,false,false,false] (by kernel_rfl) rfl rfl (SS _ hw20) (fun hHeld => ?_)
   refine with_tabW ss_tab6 ss_bits6 (fun HT_ HW_ => ?_)
   generalize wr.drew = w20 at hw20 hHeld ⊢
   refine pure_ (i :=0) (N :=some 17) (v :=?_) (a' :=?_) #[true,false,false,false,false,false,false,false,false,false] rfl rfl (any_of HT_.out (by kernel_rfl)) (fun _ _ _ h => h) (Or.inl ⟨by rfl,?_⟩) ?_ ?_
   rotate_left
   ·intro w'
    go_simp
    with_reducible rfl
   rotate_left
   ·simp only [Act.put,List.setIfInBounds_toArray,List.set_cons_zero,List.set_cons_succ,i64_w,i32_w]
    rfl
   refine pure_ (i :=1) (N :=some 18) (v :=?_) (a' :=?_) #[true,true,false,false,false,false,false,false,false,false] rfl rfl (any_of HT_.out (by kernel_rfl)) (fun _ _ _ h => h) (Or.inl ⟨by rfl,?_⟩) ?_ ?_
   rotate_left
   ·intro w'
    go_simp
    with_reducible rfl
   rotate_left
   ·simp only [Act.put,List.setIfInBounds_toArray,List.set_cons_zero,List.set_cons_succ,i64_w,i32_w]
    rfl
   refine pure_ (i :=2) (N :=some 19) (v :=?_) (a' :=?_) #[true,true,true,false,false,false,false,false,false,false] rfl rfl (any_of HT_.out (by kernel_rfl)) (fun _ _ _ h => h) (Or.inl ⟨by rfl,?_⟩) ?_ ?_
   rotate_left
   ·intro w'
    go_simp
    with_reducible rfl
   rotate_left
   ·simp only [Act.put,List.setIfInBounds_toArray,List.set_cons_zero,List.set_cons_succ,i64_w,i32_w]
    rfl
   refine pure_ (i :=4) (N :=some 21) (v :=?_) (a' :=?_) #[true,true,true,false,true,false,false,false,false,false] rfl rfl (any_of HT_.out (by kernel_rfl)) (fun _ _ _ h => h) (Or.inl ⟨by rfl,?_⟩) ?_ ?_
   rotate_left
   ·intro w'
    go_simp
    with_reducible rfl
   rotate_left
   ·simp only [Act.put,List.setIfInBounds_toArray,List.set_cons_zero,List.set_cons_succ,i64_w,i32_w]
    rfl
   refine pure_ (i :=5) (N :=some 22) (v :=?_) (a' :=?_) #[true,true,true,false,true,true,false,false,false,false] rfl rfl (any_of HT_.out (by kernel_rfl)) (fun _ _ _ h => h) (Or.inl ⟨by rfl,?_⟩) ?_ ?_
   rotate_left
   ·intro w'
    go_simp
    with_reducible rfl
   rotate_left
   ·simp only [Act.put,List.setIfInBounds_toArray,List.set_cons_zero,List.set_cons_succ,i64_w,i32_w]
    rfl
   refine pure_ (i :=6) (N :=some 23) (v :=?_) (a' :=?_) #[true,true,true,false,true,true,true,false,false,false] rfl rfl (any_of HT_.out (by kernel_rfl)) (fun _ _ _ h => h) (Or.inl ⟨by rfl,?_⟩) ?_ ?_
   rotate_left
   ·intro w'
    go_simp
    with_reducible rfl
   rotate_left
   ·simp only [Act.put,List.setIfInBounds_toArray,List.set_cons_zero,List.set_cons_succ,i64_w,i32_w]
    rfl
   refine take_ (i :=3) (N :=some 20) (v :=?_) (a' :=?_) #[true,true,true,true,true,true,true,false,false,false] rfl rfl (take_ofW HT_.out HW_.out (by kernel_rfl)) (fun _ _ _ h => h) (Or.inl ⟨by rfl,?_⟩) hHeld ?_ ?_
   rotate_left
   ·rintro w' ⟨s0,s1,s2,s3,s4,s5,s6,s7,s8,s9,s10,s11,s12,s13,s14,s15,s16,s17,s18,s19,s20,s21,s22,s23,s24,s25,s26,s27⟩
    go_simp
    with_reducible rfl
   rotate_left
   ·simp only [Act.put,List.setIfInBounds_toArray,List.set_cons_zero,List.set_cons_succ,i64_w,i32_w]
    rfl
   refine take_ (i :=7) (N :=some 24) (v :=?_) (a' :=?_) #[true,true,true,true,true,true,true,true,false,false] rfl rfl (take_ofW HT_.out HW_.out (by kernel_rfl)) (fun _ _ _ h => h) (Or.inl ⟨by rfl,?_⟩) hHeld ?_ ?_
   rotate_left
   ·rintro w' ⟨s0,s1,s2,s3,s4,s5,s6,s7,s8,s9,s10,s11,s12,s13,s14,s15,s16,s17,s18,s19,s20,s21,s22,s23,s24,s25,s26,s27⟩
    go_simp
    with_reducible rfl
   rotate_left
   ·simp only [Act.put,List.setIfInBounds_toArray,List.set_cons_zero,List.set_cons_succ,i64_w,i32_w]
    rfl
   refine one_ (i :=8) (N :=some 25) #[true,true,true,true,true,true,true,true,true,false] rfl rfl (one_of HT_.out (by kernel_rfl)) (by decide) (fun K hK => ?_)
   refine goes_ Tryz.func22 (by kernel_rfl) rfl #[.agg #[.int .i64 s.f0,.int .i64 s.f1.f0,.string s.f1.f1.f0,.slice A3 s.f1.f1.f1.length c3,.string s.f1.f2,.slice A5 s.f1.f3.length c5,.int .i64 s.f1.f4,.slice A7 s.f1.f5.length c7,.int .i64 s.f1.f6,.int .i64 s.f1.f7,.bool s.f1.f8,.slice A11 s.f1.f9.length c11,.int .i64 s.f2,.slice A13 s.f3.length c13],.agg #[.int .i64 s.f0,.int .i64 s.f1.f0,.string s.f1.f1.f0,.slice B3 s.f1.f1.f1.length d3,.string s.f1.f2,.slice B5 s.f1.f3.length d5,.int .i64 s.f1.f4,.slice B7 s.f1.f5.length d7,.int .i64 s.f1.f6,.int .i64 s.f1.f7,.bool s.f1.f8,.slice B11 s.f1.f9.length d11,.int .i64 s.f2,.slice B13 s.f3.length d13]] (by rfl) rfl rfl (by (try simp only [List.map_toArray,List.map_cons,List.map_nil]);first | done | rfl) ?_
   refine (sameStep_true (Kd.C_below x3 hw20) (Kd.C_below x5 hw20) (Kd.C_below x7 hw20) (Kd.C_below x11 hw20) (Kd.C_below x13 hw20) (Kd.C_below y3 hw20) (Kd.C_below y5 hw20) (Kd.C_below y7 hw20) (Kd.C_below y11 hw20) (Kd.C_below y13 hw20)).mono ?_
   rintro e w21 ⟨rfl,hb⟩
   refine ⟨_,rfl,?_⟩
   replace HB :=below_step hw20 hb
   refine hK.out _ _ (SS _ HB) (fun hHeld => ?_)
   clear hK K
   refine norm_ (a' :=?_) ?_ ?_
   rotate_left
   ·show Act.put _ (some 25) _ = _
    simp only [Act.put,List.setIfInBounds_toArray,List.set_cons_zero,List.set_cons_succ,i64_w,i32_w]
    rfl
   refine pure_ (i :=9) (N :=some 26) (v :=?_) (a' :=?_) #[true,true,true,true,true,true,true,true,true,true] rfl rfl (any_of HT_.out (by kernel_rfl)) (fun _ _ _ h => h) (Or.inl ⟨by rfl,?_⟩) ?_ ?_
   rotate_left
   ·intro w'
    go_simp
    with_reducible rfl
   rotate_left
   ·simp only [Act.put,List.setIfInBounds_toArray,List.set_cons_zero,List.set_cons_succ,i64_w,i32_w]
    rfl
   refine done_ (done_of HT_.out (by kernel_rfl)) ?_
   clear SS hHeld hb hw20
   go_wp2
   go_roundw
   case measure => simp only [intOf];omega
   case rel => exact ⟨k + 1,by omega,rfl,HB⟩
  ·have hkn' : ¬ (k : Int) < (l.length : Int) :=by omega
   go_wp2
   go_ret
   exact ⟨rfl,HB⟩
end Go.Proofs.YtlafgnanfkhobaaGreatDoor.P2
