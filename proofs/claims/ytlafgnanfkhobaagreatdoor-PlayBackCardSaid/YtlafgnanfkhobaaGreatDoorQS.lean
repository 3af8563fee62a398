import Derived.Test.YtlafgnanfkhobaaGreatDoorQV
import Derived.LoopTactic
import Derived.LoopN
namespace Go.Proofs.YtlafgnanfkhobaaGreatDoor.P2
open Go.RowKit Go.Proofs.YtlafgnanfkhobaaGreatDoorW.PrintWords Go.Proofs.YtlafgnanfkhobaaGreatDoorW.PrintLast Go.Proofs.YtlafgnanfkhobaaGreatDoorW.PrintMore
attribute [local go_sem] max2_int min2_int max_two min_two max_three min_three max_four min_four
theorem cell_alloc {w : World} {a : Addr} {v : Value} (h : w.cell? a = some v) (o : Obj) : (w.alloc o).cell? a = some v :=pw_cell_below (bwa (Below.refl _ _) o) h
set_option maxHeartbeats 2000000 in
set_option maxRecDepth 100000 in
theorem bytesEq_true {A B : Option Addr} {c d : Nat} {xs : List Int} {w : World} (h1 : Kd.C (Kd.int .u8) w A xs.length xs) (h2 : Kd.C (Kd.int .u8) w B xs.length xs) :
  Calls Tryz.prog 28 #[.slice A xs.length c,.slice B xs.length d] w fun e w' => e = .returned (.bool true) ∧ Below w.heap.size w w' :=by
 have s1 :=Kd.C_string (P :=Tryz.prog) (c :=c) Tryz.underlying22 Tryz.underlying5 Tryz.underlying9 h1
 have s2 :=Kd.C_string (P :=Tryz.prog) (c :=d) Tryz.underlying22 Tryz.underlying5 Tryz.underlying9 h2
 go_enter Tryz.func28,Tryz.ntmps28
 go_wp2
 go_ret
 exact ⟨by simp,Below.refl _ _⟩
set_option maxHeartbeats 2000000 in
set_option maxRecDepth 100000 in
theorem fresh_true {A B : Option Addr} {c d : Nat} {t : ByteArray} {xs : List Int} {w : World} (h1 : Kd.C (Kd.int .u8) w A xs.length xs) (h2 : Kd.C (Kd.int .u8) w B xs.length xs) :
  Calls Tryz.prog 51 #[.agg #[.string t,.slice A xs.length c],.agg #[.string t,.slice B xs.length d]] w fun e w' => e = .returned (.bool true) ∧ Below w.heap.size w w' :=by
 go_enter Tryz.func51,Tryz.ntmps51
 go_wp2_with (go_at_call 28;(with_reducible refine (bytesEq_true (Kd.C_below h1 (bwa (bwa (Below.refl _ _) _) _)) (Kd.C_below h2 (bwa (bwa (Below.refl _ _) _) _))).mono ?_);rintro e w' ⟨rfl,hb⟩)
 go_ret
 exact ⟨by simp,below_step (bwa (bwa (Below.refl _ _) _) _) hb⟩
set_option maxHeartbeats 2000000 in
set_option maxRecDepth 100000 in
theorem freshes_true {A B : Option Addr} {c d : Nat} {xs : List S85} {w : World} (h1 : Kd.C k85 w A xs.length xs) (h2 : Kd.C k85 w B xs.length xs) :
  Calls Tryz.prog 50 #[.slice A xs.length c,.slice B xs.length d,.func (.func 51) #[] #[]] w fun e w' => e = .returned (.bool true) ∧ Below w.heap.size w w' :=by
 have hn63 : xs.length ≤ 9223372036854775807 :=h1.2.1
 go_enter Tryz.func50,Tryz.ntmps50
 go_wp2
 go_loopw [17] (fun i wr => ∃ k : Nat,k ≤ xs.length ∧ i = .int .i64 k ∧ Below w.heap.size w wr) (fun i _ => xs.length - (intOf i).toNat)
 case atStart => exact ⟨0,Nat.zero_le _,rfl,Below.refl _ _⟩
 case round =>
  obtain ⟨k,hk,rfl,hB⟩ :=hrel
  by_cases hkn : k < xs.length
  ·obtain ⟨a1,A1,c1,e1,g0,g1,_,r1⟩ :=at_T85 h1 (k : Int) (by omega) (by omega)
   obtain ⟨a2,A2,c2,e2,p0,p1,_,r2⟩ :=at_T85 h2 (k : Int) (by omega) (by omega)
   subst e1
   subst e2
   generalize rd_T85 xs k = x at g0 g1 p0 p1 r1 r2
   replace g0 : wr.cell? (a1.add (k * 2)) = some (.string x.f0) :=(hB.cell (World.block_lt_of_cell? _ _ g0)).trans g0
   replace g1 : wr.cell? ⟨(a1.add (k * 2)).block,(a1.add (k * 2)).off + 1,none⟩ = some (.slice A1 x.f1.length c1) :=(hB.cell (World.block_lt_of_cell? _ _ g1)).trans g1
   replace p0 : wr.cell? (a2.add (k * 2)) = some (.string x.f0) :=(hB.cell (World.block_lt_of_cell? _ _ p0)).trans p0
   replace p1 : wr.cell? ⟨(a2.add (k * 2)).block,(a2.add (k * 2)).off + 1,none⟩ = some (.slice A2 x.f1.length c2) :=(hB.cell (World.block_lt_of_cell? _ _ p1)).trans p1
   have hkn' : (k : Int) < (xs.length : Int) :=by omega
   replace p0 :=cell_alloc p0 (.cells #[.string x.f0,.slice A1 x.f1.length c1] 85)
   replace p1 :=cell_alloc p1 (.cells #[.string x.f0,.slice A1 x.f1.length c1] 85)
   go_wp2_with (go_at_call 51;((with_reducible refine (fresh_true (Kd.C_below r1 (bwa (bwa hB _) _)) (Kd.C_below r2 (bwa (bwa hB _) _))).mono ?_);rintro e w' ⟨rfl,hb⟩))
   go_roundw
   case measure => simp only [intOf];omega
   case rel => exact ⟨k + 1,by omega,rfl,below_step (bwa (bwa hB _) _) hb⟩
  ·have hkn' : ¬ (k : Int) < (xs.length : Int) :=by omega
   go_wp2
   go_ret
   exact ⟨rfl,hB⟩
set_option maxHeartbeats 2000000 in
set_option maxRecDepth 100000 in
theorem part_true {A B : Option Addr} {c d : Nat} {p : S83} {w : World} (h1 : Kd.C k85 w A p.f2.length p.f2) (h2 : Kd.C k85 w B p.f2.length p.f2) :
  Calls Tryz.prog 43 #[.agg #[.string p.f0,.int .i64 p.f1,.slice A p.f2.length c],.agg #[.string p.f0,.int .i64 p.f1,.slice B p.f2.length d]] w fun e w' => e = .returned (.bool true) ∧ Below w.heap.size w w' :=by
 go_enter Tryz.func43,Tryz.ntmps43
 go_wp2_with (go_at_call 50;((with_reducible refine (freshes_true (Kd.C_below h1 (bwa (bwa (Below.refl _ _) _) _)) (Kd.C_below h2 (bwa (bwa (Below.refl _ _) _) _))).mono ?_);rintro e w' ⟨rfl,hb⟩))
 go_ret
 exact ⟨by simp,below_step (bwa (bwa (Below.refl _ _) _) _) hb⟩
set_option maxHeartbeats 2000000 in
set_option maxRecDepth 100000 in
theorem parts_true {A B : Option Addr} {c d : Nat} {xs : List S83} {w : World} (h1 : Kd.C k83 w A xs.length xs) (h2 : Kd.C k83 w B xs.length xs) :
  Calls Tryz.prog 42 #[.slice A xs.length c,.slice B xs.length d,.func (.func 43) #[] #[]] w fun e w' => e = .returned (.bool true) ∧ Below w.heap.size w w' :=by
 have hn63 : xs.length ≤ 9223372036854775807 :=h1.2.1
 go_enter Tryz.func42,Tryz.ntmps42
 go_wp2
 go_loopw [17] (fun i wr => ∃ k : Nat,k ≤ xs.length ∧ i = .int .i64 k ∧ Below w.heap.size w wr) (fun i _ => xs.length - (intOf i).toNat)
 case atStart => exact ⟨0,Nat.zero_le _,rfl,Below.refl _ _⟩
 case round =>
  obtain ⟨k,hk,rfl,hB⟩ :=hrel
  by_cases hkn : k < xs.length
  ·obtain ⟨a1,A1,c1,e1,g0,g1,g2,_,r1⟩ :=at_T83 h1 (k : Int) (by omega) (by omega)
   obtain ⟨a2,A2,c2,e2,p0,p1,p2,_,r2⟩ :=at_T83 h2 (k : Int) (by omega) (by omega)
   subst e1
   subst e2
   generalize rd_T83 xs k = x at g0 g1 g2 p0 p1 p2 r1 r2
   replace g0 : wr.cell? (a1.add (k * 3)) = some (.string x.f0) :=(hB.cell (World.block_lt_of_cell? _ _ g0)).trans g0
   replace g1 : wr.cell? ⟨(a1.add (k * 3)).block,(a1.add (k * 3)).off + 1,none⟩ = some (.int .i64 x.f1) :=(hB.cell (World.block_lt_of_cell? _ _ g1)).trans g1
   replace g2 : wr.cell? ⟨(a1.add (k * 3)).block,(a1.add (k * 3)).off + 2,none⟩ = some (.slice A1 x.f2.length c1) :=(hB.cell (World.block_lt_of_cell? _ _ g2)).trans g2
   replace p0 : wr.cell? (a2.add (k * 3)) = some (.string x.f0) :=(hB.cell (World.block_lt_of_cell? _ _ p0)).trans p0
   replace p1 : wr.cell? ⟨(a2.add (k * 3)).block,(a2.add (k * 3)).off + 1,none⟩ = some (.int .i64 x.f1) :=(hB.cell (World.block_lt_of_cell? _ _ p1)).trans p1
   replace p2 : wr.cell? ⟨(a2.add (k * 3)).block,(a2.add (k * 3)).off + 2,none⟩ = some (.slice A2 x.f2.length c2) :=(hB.cell (World.block_lt_of_cell? _ _ p2)).trans p2
   have hkn' : (k : Int) < (xs.length : Int) :=by omega
   replace p0 :=cell_alloc p0 (.cells #[.string x.f0,.int .i64 x.f1,.slice A1 x.f2.length c1] 83)
   replace p1 :=cell_alloc p1 (.cells #[.string x.f0,.int .i64 x.f1,.slice A1 x.f2.length c1] 83)
   replace p2 :=cell_alloc p2 (.cells #[.string x.f0,.int .i64 x.f1,.slice A1 x.f2.length c1] 83)
   go_wp2_with (go_at_call 43;((with_reducible refine (part_true (Kd.C_below r1 (bwa (bwa hB _) _)) (Kd.C_below r2 (bwa (bwa hB _) _))).mono ?_);rintro e w' ⟨rfl,hb⟩))
   go_roundw
   case measure => simp only [intOf];omega
   case rel => exact ⟨k + 1,by omega,rfl,below_step (bwa (bwa hB _) _) hb⟩
  ·have hkn' : ¬ (k : Int) < (xs.length : Int) :=by omega
   go_wp2
   go_ret
   exact ⟨rfl,hB⟩
set_option maxHeartbeats 2000000 in
set_option maxRecDepth 100000 in
theorem names_true {A B : Option Addr} {c d : Nat} {xs : List ByteArray} {w : World} (h1 : Kd.C Kd.string w A xs.length xs) (h2 : Kd.C Kd.string w B xs.length xs) :
  Calls Tryz.prog 44 #[.slice A xs.length c,.slice B xs.length d] w fun e w' => e = .returned (.bool true) ∧ Below w.heap.size w w' :=by
 have hn63 : xs.length ≤ 9223372036854775807 :=h1.2.1
 go_enter Tryz.func44,Tryz.ntmps44
 go_wp2
 go_loopw [13] (fun i wr => ∃ k : Nat,k ≤ xs.length ∧ i = .int .i64 k ∧ Below w.heap.size w wr) (fun i _ => xs.length - (intOf i).toNat)
 case atStart => exact ⟨0,Nat.zero_le _,rfl,Below.refl _ _⟩
 case round =>
  obtain ⟨k,hk,rfl,hB⟩ :=hrel
  by_cases hkn : k < xs.length
  ·obtain ⟨a1,e1,g0⟩ :=Kd.at_string h1 (k : Int) (by omega) (by omega)
   obtain ⟨a2,e2,p0⟩ :=Kd.at_string h2 (k : Int) (by omega) (by omega)
   subst e1
   subst e2
   generalize rdOf ByteArray.empty xs k = x at g0 p0
   replace g0 : wr.cell? (a1.add k) = some (.string x) :=(hB.cell (World.block_lt_of_cell? _ _ g0)).trans g0
   replace p0 : wr.cell? (a2.add k) = some (.string x) :=(hB.cell (World.block_lt_of_cell? _ _ p0)).trans p0
   have hkn' : (k : Int) < (xs.length : Int) :=by omega
   go_wp2
   repeat (go_quiet (fail);try go_wp2)
   go_roundw
   case measure => simp only [intOf];omega
   case rel => exact ⟨k + 1,by omega,rfl,pwN hB _⟩
  ·have hkn' : ¬ (k : Int) < (xs.length : Int) :=by omega
   go_wp2
   go_ret
   exact ⟨rfl,hB⟩
set_option maxHeartbeats 4000000 in
set_option maxRecDepth 100000 in
theorem req_true {A2 A4 A6 A10 A2' A4' A6' A10' : Option Addr} {c2 c4 c6 c10 c2' c4' c6' c10' : Nat} {q : S46} {w0 : World}
  (h2 : Kd.C k83 w0 A2 q.f1.f1.length q.f1.f1) (h4 : Kd.C Kd.string w0 A4 q.f3.length q.f3) (h6 : Kd.C (Kd.int .u8) w0 A6 q.f5.length q.f5) (h10 : Kd.C (Kd.int .u8) w0 A10 q.f9.length q.f9)
  (h2' : Kd.C k83 w0 A2' q.f1.f1.length q.f1.f1) (h4' : Kd.C Kd.string w0 A4' q.f3.length q.f3) (h6' : Kd.C (Kd.int .u8) w0 A6' q.f5.length q.f5) (h10' : Kd.C (Kd.int .u8) w0 A10' q.f9.length q.f9) :
  Calls Tryz.prog 27 #[.agg #[.int .i64 q.f0,.string q.f1.f0,.slice A2 q.f1.f1.length c2,.string q.f2,.slice A4 q.f3.length c4,.int .i64 q.f4,.slice A6 q.f5.length c6,.int .i64 q.f6,.int .i64 q.f7,.bool q.f8,.slice A10 q.f9.length c10],.agg #[.int .i64 q.f0,.string q.f1.f0,.slice A2' q.f1.f1.length c2',.string q.f2,.slice A4' q.f3.length c4',.int .i64 q.f4,.slice A6' q.f5.length c6',.int .i64 q.f6,.int .i64 q.f7,.bool q.f8,.slice A10' q.f9.length c10']] w0 fun e w' => e = .returned (.bool true) ∧ Below w0.heap.size w0 w' :=by
 have HB :=Below.refl w0.heap.size w0
 go_enter Tryz.func27,Tryz.ntmps27
 go_wp2_with (first | ((with_reducible refine gate_dst (N :=2) rfl ?_);(refine box_event ?hg (N :=2) ?hd (cs :=#[.int .i64 q.f0,.string q.f1.f0,.slice A2 q.f1.f1.length c2,.string q.f2,.slice A4 q.f3.length c4,.int .i64 q.f4,.slice A6 q.f5.length c6,.int .i64 q.f6,.int .i64 q.f7,.bool q.f8,.slice A10 q.f9.length c10]) (t :=46) ?hr ?_;(case hd => rfl);(case hg => rfl);(case hr => first | (go_simp;done) | (go_simp;rfl));intro b hgb w1 BK hb;replace HB :=below_step HB hb;clear hb hgb)) | ((with_reducible refine gate_dst (N :=3) rfl ?_);(refine box_event ?hg2 (N :=3) ?hd2 (cs :=#[.int .i64 q.f0,.string q.f1.f0,.slice A2' q.f1.f1.length c2',.string q.f2,.slice A4' q.f3.length c4',.int .i64 q.f4,.slice A6' q.f5.length c6',.int .i64 q.f6,.int .i64 q.f7,.bool q.f8,.slice A10' q.f9.length c10']) (t :=46) ?hr2 ?_;(case hd2 => rfl);(case hg2 => rfl);(case hr2 => first | (go_simp;done) | (go_simp;rfl));intro b2 hgb w2 BL hb;replace HB :=below_step HB hb;replace BK :=blk_below BK hb;clear hb hgb;obtain ⟨k0,k1,k2,k3,k4,k5,k6,k7,k8,k9,k10⟩ :=cells11 BK;obtain ⟨l0,l1,l2,l3,l4,l5,l6,l7,l8,l9,l10⟩ :=cells11 BL)) | (go_at_call 42;((with_reducible refine (parts_true (Kd.C_below h2 HB) (Kd.C_below h2' HB)).mono ?_);rintro e wn ⟨rfl,hb⟩;replace HB :=below_step HB hb;replace BK :=blk_below BK hb;replace BL :=blk_below BL hb;clear hb k0 k1 k2 k3 k4 k5 k6 k7 k8 k9 k10 l0 l1 l2 l3 l4 l5 l6 l7 l8 l9 l10;obtain ⟨k0,k1,k2,k3,k4,k5,k6,k7,k8,k9,k10⟩ :=cells11 BK;obtain ⟨l0,l1,l2,l3,l4,l5,l6,l7,l8,l9,l10⟩ :=cells11 BL)) | (go_at_call 44;((with_reducible refine (names_true (Kd.C_below h4 HB) (Kd.C_below h4' HB)).mono ?_);rintro e wn ⟨rfl,hb⟩;replace HB :=below_step HB hb;replace BK :=blk_below BK hb;replace BL :=blk_below BL hb;clear hb k0 k1 k2 k3 k4 k5 k6 k7 k8 k9 k10 l0 l1 l2 l3 l4 l5 l6 l7 l8 l9 l10;obtain ⟨k0,k1,k2,k3,k4,k5,k6,k7,k8,k9,k10⟩ :=cells11 BK;obtain ⟨l0,l1,l2,l3,l4,l5,l6,l7,l8,l9,l10⟩ :=cells11 BL)) | (go_at_call 28;first | ((with_reducible refine (bytesEq_true (Kd.C_below h6 HB) (Kd.C_below h6' HB)).mono ?_);rintro e wn ⟨rfl,hb⟩;replace HB :=below_step HB hb;replace BK :=blk_below BK hb;replace BL :=blk_below BL hb;clear hb k0 k1 k2 k3 k4 k5 k6 k7 k8 k9 k10 l0 l1 l2 l3 l4 l5 l6 l7 l8 l9 l10;obtain ⟨k0,k1,k2,k3,k4,k5,k6,k7,k8,k9,k10⟩ :=cells11 BK;obtain ⟨l0,l1,l2,l3,l4,l5,l6,l7,l8,l9,l10⟩ :=cells11 BL) | ((with_reducible refine (bytesEq_true (Kd.C_below h10 HB) (Kd.C_below h10' HB)).mono ?_);rintro e wn ⟨rfl,hb⟩;replace HB :=below_step HB hb;replace BK :=blk_below BK hb;replace BL :=blk_below BL hb;clear hb k0 k1 k2 k3 k4 k5 k6 k7 k8 k9 k10 l0 l1 l2 l3 l4 l5 l6 l7 l8 l9 l10;obtain ⟨k0,k1,k2,k3,k4,k5,k6,k7,k8,k9,k10⟩ :=cells11 BK;obtain ⟨l0,l1,l2,l3,l4,l5,l6,l7,l8,l9,l10⟩ :=cells11 BL)))
 go_ret
 exact ⟨by simp,HB⟩
theorem cells14 {w : World} {b : Nat} {a0 a1 a2 a3 a4 a5 a6 a7 a8 a9 a10 a11 a12 a13 : Value} {t : TypeId} (h : w.heap[b]? = some (.cells #[a0,a1,a2,a3,a4,a5,a6,a7,a8,a9,a10,a11,a12,a13] t (0,0))) :
  w.cell? ⟨b,0,none⟩ = some a0 ∧ w.cell? ⟨b,1,none⟩ = some a1 ∧ w.cell? ⟨b,2,none⟩ = some a2 ∧ w.cell? ⟨b,3,none⟩ = some a3 ∧ w.cell? ⟨b,4,none⟩ = some a4 ∧ w.cell? ⟨b,5,none⟩ = some a5 ∧ w.cell? ⟨b,6,none⟩ = some a6 ∧ w.cell? ⟨b,7,none⟩ = some a7 ∧ w.cell? ⟨b,8,none⟩ = some a8 ∧ w.cell? ⟨b,9,none⟩ = some a9 ∧ w.cell? ⟨b,10,none⟩ = some a10 ∧ w.cell? ⟨b,11,none⟩ = some a11 ∧ w.cell? ⟨b,12,none⟩ = some a12 ∧ w.cell? ⟨b,13,none⟩ = some a13 :=
 ⟨(bkc h 0).trans rfl,(bkc h 1).trans rfl,(bkc h 2).trans rfl,(bkc h 3).trans rfl,(bkc h 4).trans rfl,(bkc h 5).trans rfl,(bkc h 6).trans rfl,(bkc h 7).trans rfl,(bkc h 8).trans rfl,(bkc h 9).trans rfl,(bkc h 10).trans rfl,(bkc h 11).trans rfl,(bkc h 12).trans rfl,(bkc h 13).trans rfl⟩
set_option maxHeartbeats 4000000 in
set_option maxRecDepth 100000 in
theorem same_true {A3 A5 A7 A11 A13 A3' A5' A7' A11' A13' : Option Addr} {c3 c5 c7 c11 c13 c3' c5' c7' c11' c13' : Nat} {s : S48} {w0 : World}
  (h3 : Kd.C k83 w0 A3 s.f1.f1.f1.length s.f1.f1.f1) (h5 : Kd.C Kd.string w0 A5 s.f1.f3.length s.f1.f3) (h7 : Kd.C (Kd.int .u8) w0 A7 s.f1.f5.length s.f1.f5) (h11 : Kd.C (Kd.int .u8) w0 A11 s.f1.f9.length s.f1.f9) (h13 : Kd.C (Kd.int .u8) w0 A13 s.f3.length s.f3)
  (h3' : Kd.C k83 w0 A3' s.f1.f1.f1.length s.f1.f1.f1) (h5' : Kd.C Kd.string w0 A5' s.f1.f3.length s.f1.f3) (h7' : Kd.C (Kd.int .u8) w0 A7' s.f1.f5.length s.f1.f5) (h11' : Kd.C (Kd.int .u8) w0 A11' s.f1.f9.length s.f1.f9) (h13' : Kd.C (Kd.int .u8) w0 A13' s.f3.length s.f3) :
  Calls Tryz.prog 19 #[.agg #[.int .i64 s.f0,.int .i64 s.f1.f0,.string s.f1.f1.f0,.slice A3 s.f1.f1.f1.length c3,.string s.f1.f2,.slice A5 s.f1.f3.length c5,.int .i64 s.f1.f4,.slice A7 s.f1.f5.length c7,.int .i64 s.f1.f6,.int .i64 s.f1.f7,.bool s.f1.f8,.slice A11 s.f1.f9.length c11,.int .i64 s.f2,.slice A13 s.f3.length c13],.agg #[.int .i64 s.f0,.int .i64 s.f1.f0,.string s.f1.f1.f0,.slice A3' s.f1.f1.f1.length c3',.string s.f1.f2,.slice A5' s.f1.f3.length c5',.int .i64 s.f1.f4,.slice A7' s.f1.f5.length c7',.int .i64 s.f1.f6,.int .i64 s.f1.f7,.bool s.f1.f8,.slice A11' s.f1.f9.length c11',.int .i64 s.f2,.slice A13' s.f3.length c13']] w0 fun e w' => e = .returned (.bool true) ∧ Below w0.heap.size w0 w' :=by
 have HB :=Below.refl w0.heap.size w0
 go_enter Tryz.func19,Tryz.ntmps19
 go_wp2_with (first | ((with_reducible refine gate_dst (N :=2) rfl ?_);(refine box_event ?hg (N :=2) ?hd (cs :=#[.int .i64 s.f0,.int .i64 s.f1.f0,.string s.f1.f1.f0,.slice A3 s.f1.f1.f1.length c3,.string s.f1.f2,.slice A5 s.f1.f3.length c5,.int .i64 s.f1.f4,.slice A7 s.f1.f5.length c7,.int .i64 s.f1.f6,.int .i64 s.f1.f7,.bool s.f1.f8,.slice A11 s.f1.f9.length c11,.int .i64 s.f2,.slice A13 s.f3.length c13]) (t :=48) ?hr ?_;(case hd => rfl);(case hg => rfl);(case hr => first | (go_simp;done) | (go_simp;rfl));intro b hgb w1 BK hb;replace HB :=below_step HB hb;clear hb hgb)) | ((with_reducible refine gate_dst (N :=3) rfl ?_);(refine box_event ?hg2 (N :=3) ?hd2 (cs :=#[.int .i64 s.f0,.int .i64 s.f1.f0,.string s.f1.f1.f0,.slice A3' s.f1.f1.f1.length c3',.string s.f1.f2,.slice A5' s.f1.f3.length c5',.int .i64 s.f1.f4,.slice A7' s.f1.f5.length c7',.int .i64 s.f1.f6,.int .i64 s.f1.f7,.bool s.f1.f8,.slice A11' s.f1.f9.length c11',.int .i64 s.f2,.slice A13' s.f3.length c13']) (t :=48) ?hr2 ?_;(case hd2 => rfl);(case hg2 => rfl);(case hr2 => first | (go_simp;done) | (go_simp;rfl));intro b2 hgb w2 BL hb;replace HB :=below_step HB hb;replace BK :=blk_below BK hb;clear hb hgb;obtain ⟨k0,k1,k2,k3,k4,k5,k6,k7,k8,k9,k10,k11,k12,k13⟩ :=cells14 BK;obtain ⟨l0,l1,l2,l3,l4,l5,l6,l7,l8,l9,l10,l11,l12,l13⟩ :=cells14 BL)) | (go_at_call 27;(refine (req_true (q :=s.f1) (Kd.C_below h3 HB) (Kd.C_below h5 HB) (Kd.C_below h7 HB) (Kd.C_below h11 HB) (Kd.C_below h3' HB) (Kd.C_below h5' HB) (Kd.C_below h7' HB) (Kd.C_below h11' HB)).mono ?_;rintro e wn ⟨rfl,hb⟩;replace HB :=below_step HB hb;replace BK :=blk_below BK hb;replace BL :=blk_below BL hb;clear hb k0 k1 k2 k3 k4 k5 k6 k7 k8 k9 k10 k11 k12 k13 l0 l1 l2 l3 l4 l5 l6 l7 l8 l9 l10 l11 l12 l13;obtain ⟨k0,k1,k2,k3,k4,k5,k6,k7,k8,k9,k10,k11,k12,k13⟩ :=cells14 BK;obtain ⟨l0,l1,l2,l3,l4,l5,l6,l7,l8,l9,l10,l11,l12,l13⟩ :=cells14 BL)) | (go_at_call 28;((with_reducible refine (bytesEq_true (Kd.C_below h13 HB) (Kd.C_below h13' HB)).mono ?_);rintro e wn ⟨rfl,hb⟩;replace HB :=below_step HB hb;replace BK :=blk_below BK hb;replace BL :=blk_below BL hb;clear hb k0 k1 k2 k3 k4 k5 k6 k7 k8 k9 k10 k11 k12 k13 l0 l1 l2 l3 l4 l5 l6 l7 l8 l9 l10 l11 l12 l13;obtain ⟨k0,k1,k2,k3,k4,k5,k6,k7,k8,k9,k10,k11,k12,k13⟩ :=cells14 BK;obtain ⟨l0,l1,l2,l3,l4,l5,l6,l7,l8,l9,l10,l11,l12,l13⟩ :=cells14 BL)))
 go_ret
 exact ⟨by simp,HB⟩
end Go.Proofs.YtlafgnanfkhobaaGreatDoor.P2
