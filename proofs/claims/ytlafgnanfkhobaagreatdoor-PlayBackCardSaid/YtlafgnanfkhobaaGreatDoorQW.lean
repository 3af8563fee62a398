import Derived.Test.YtlafgnanfkhobaaGreatDoorQ1
import Derived.LoopTactic
import Derived.LoopN
namespace Go.Proofs.YtlafgnanfkhobaaGreatDoor.P2
open Go.RowKit Go.Proofs.YtlafgnanfkhobaaGreatDoorW.PrintWords Go.Proofs.YtlafgnanfkhobaaGreatDoorW.PrintLast Go.Proofs.YtlafgnanfkhobaaGreatDoorW.PrintMore
attribute [local go_sem] max2_int min2_int max_two min_two max_three min_three max_four min_four
def byteAt (x : Int) (i : Nat) : Int :=(x / 2 ^ (8 * i)) % 256
def be (x : Int) : Nat → List Int
 | 0 => []
 | n + 1 => byteAt x n :: be x n
theorem be_length (x : Int) : ∀ n,(be x n).length = n
 | 0 => rfl
 | n + 1 => by simp [be,be_length x n]
def IsW (w0 W : World) (g : Nat) (v : Value) (bs : List Int) : Prop :=W.heap[g]? = some (.cells #[v] 58 (0,0)) ∧ w0.heap.size ≤ g ∧ Kd.R (Kd.int .u8) 5 W w0.heap.size (fun _ => True) v bs
theorem IsW.below {w0 W W1 : World} {g : Nat} {v : Value} {bs : List Int} (h : IsW w0 W g v bs) (hb : Below W.heap.size W W1) : IsW w0 W1 g v bs :=⟨blk_below h.1 hb,h.2.1,Kd.R_below h.2.2 hb⟩
def WKeep (w0 w w' : World) (g : Nat) (v v' : Value) : Prop :=Below w0.heap.size w0 w' ∧ KB w w' g v.ownBlock ∧ (v'.ownBlock = v.ownBlock ∨ ∃ b,v'.ownBlock = some b ∧ w.heap.size ≤ b)
def wnumT3 : Bool × List (List Nat × List Nat) :=(true,[([],[]),([],[]),([1],[1]),([2],[2]),([3],[3]),([],[]),([],[]),([6],[6]),([5,7],[5,7]),([8],[8]),([9],[9]),([4,10],[4,10]),([0,0,1,2,3,4,5,6,7,8,9,10,11],[0]),([12,0,1,2,3,4,5,6,7,8,9,10,11],[12]),([13,11,11,0,1,2,3,4,5,6,7,8,9,10,11],[11,13])])
def wnumB3 : List Nat :=[0,0,2,6,14,0,0,64,224,480,992,2046,4095,8191,16383]
theorem wnum_tab3 : rtab .any (opsOf Tryz.f16 3) = wnumT3 :=by kernel_rfl
theorem wnum_bits3 : waitsOk wnumT3.2 wnumB3 = true :=by kernel_rfl
set_option maxHeartbeats 2000000 in
set_option maxRecDepth 100000 in
theorem writer_num.calls (g : Nat) (v : Value) (bs : List Int) (x : Int) (n : Nat) (w0 w : World) (hI : IsW w0 w g v bs) (hB : Below w0.heap.size w0 w) (hn : n ≤ 8) (hx : 0 ≤ x ∧ x < 18446744073709551616) (hl : bs.length + n ≤ 1000000000) :
  Calls Tryz.prog 16 #[.pointer (some ⟨g,0,none⟩),.int .u64 x,.int .i64 n] w fun e w' => e = .returned (.tuple #[]) ∧ ∃ v',IsW w0 w' g v' (bs ++ be x n) ∧ WKeep w0 w w' g v v' :=by
 go_enter Tryz.func16,Tryz.ntmps16
 go_wp2
 go_loopw [6] (fun i wr => ∃ (j : Nat) (pre : List Int) (v' : Value),j ≤ n ∧ i = .int .i64 ((j : Int) - 1) ∧ pre ++ be x j = be x n ∧ IsW w0 wr g v' (bs ++ pre) ∧ WKeep w0 w wr g v v') (fun i _ => (intOf i + 1).toNat)
 case atStart => exact ⟨n,[],v,Nat.le_refl _,rfl,rfl,by rw [List.append_nil];exact hI,hB,KB.refl _ _ _,.inl rfl⟩
 case round =>
  obtain ⟨j,pre,v',hj,rfl,hpre,hW,hK⟩ :=hrel
  cases j with
  | zero =>
   go_wp2
   go_end0
   rw [show pre = be x n by rw [← hpre];exact (List.append_nil _).symm] at hW
   exact ⟨rfl,v',hW,hK⟩
  | succ j =>
   rw [show (((j + 1 : Nat) : Int) - 1) = (j : Int) by omega]
   have hlp : pre.length + (j + 1) = n :=by have :=congrArg List.length hpre;simp [be_length] at this;omega
   have hsh : ∀ w' : World,(Op.shift .shr .u64 x .i64 (wrap64 (8 * (j : Int)))).run Tryz.prog w' = .ok (.int .u64 (x / 2 ^ (8 * j))) w' :=by
    intro w'
    have e : wrap64 (8 * (j : Int)) = ((8 * j : Nat) : Int) :=by unfold wrap64;omega
    rw [e,shift_shr .u64 .i64 x _ (by omega) (by have : IntKind.u64.bits = 64 :=rfl;omega),Int.toNat_natCast]
    rfl
   go_wp2
   have BK :=bkd hW.1
   have HO :=Kd.R_drew hW.2.2
   have hs : wr.drew.cell? ⟨g,0,none⟩ = some v' :=(bkc BK 0).trans rfl
   have hB2 :=below_drew hK.1
   have hK2 : KB w wr.drew g v.ownBlock :=keep_drew hK.2.1
   have hv :=hK.2.2
   have hge :=hW.2.1
   clear hW hK
   refine start_ (n :=15) (S :=fun w' => w'.cell? ⟨g,0,none⟩ = some v') (ds :=[14]) #[false,false,false,false,false,false,false,false,false,false,false,false,false,false,false] (by kernel_rfl) rfl rfl hs (fun hHeld => ?_)
   refine with_tabW wnum_tab3 wnum_bits3 (fun HT_ HW_ => ?_)
   generalize wr.drew = w20 at BK HO hs hB2 hK2 hHeld ⊢
   refine pure_ (i :=0) (N :=some 13) (v :=?_) (a' :=?_) #[true,false,false,false,false,false,false,false,false,false,false,false,false,false,false] rfl rfl (any_of HT_.out (by kernel_rfl)) (fun _ _ _ h => h) (Or.inl ⟨by rfl,?_⟩) ?_ ?_
   rotate_left
   ·intro w'
    go_simp
    with_reducible rfl
   rotate_left
   ·simp only [Act.put,List.setIfInBounds_toArray,List.set_cons_zero,List.set_cons_succ,i64_w,i32_w]
    rfl
   refine pure_ (i :=1) (N :=some 14) (v :=?_) (a' :=?_) #[true,true,false,false,false,false,false,false,false,false,false,false,false,false,false] rfl rfl (any_of HT_.out (by kernel_rfl)) (fun _ _ _ h => h) (Or.inl ⟨by rfl,?_⟩) ?_ ?_
   rotate_left
   ·intro w'
    go_simp
    with_reducible rfl
   rotate_left
   ·simp only [Act.put,List.setIfInBounds_toArray,List.set_cons_zero,List.set_cons_succ,i64_w,i32_w]
    rfl
   refine pure_ (i :=2) (N :=some 15) (v :=?_) (a' :=?_) #[true,true,true,false,false,false,false,false,false,false,false,false,false,false,false] rfl rfl (any_of HT_.out (by kernel_rfl)) (fun _ _ _ h => h) (Or.inl ⟨by rfl,?_⟩) ?_ ?_
   rotate_left
   ·intro w'
    go_simp
    with_reducible rfl
   rotate_left
   ·simp only [Act.put,List.setIfInBounds_toArray,List.set_cons_zero,List.set_cons_succ,i64_w,i32_w]
    rfl
   refine pure_ (i :=3) (N :=some 16) (v :=?_) (a' :=?_) #[true,true,true,true,false,false,false,false,false,false,false,false,false,false,false] rfl rfl (any_of HT_.out (by kernel_rfl)) (fun _ _ _ h => h) (Or.inl ⟨by rfl,?_⟩) ?_ ?_
   rotate_left
   ·intro w'
    go_simp
    with_reducible rfl
   rotate_left
   ·simp only [Act.put,List.setIfInBounds_toArray,List.set_cons_zero,List.set_cons_succ,i64_w,i32_w]
    rfl
   refine pure_ (i :=5) (N :=some 18) (v :=?_) (a' :=?_) #[true,true,true,true,false,true,false,false,false,false,false,false,false,false,false] rfl rfl (any_of HT_.out (by kernel_rfl)) (fun _ _ _ h => h) (Or.inl ⟨by rfl,?_⟩) ?_ ?_
   rotate_left
   ·intro w'
    go_simp
    with_reducible rfl
   rotate_left
   ·simp only [Act.put,List.setIfInBounds_toArray,List.set_cons_zero,List.set_cons_succ,i64_w,i32_w]
    rfl
   refine pure_ (i :=6) (N :=some 19) (v :=?_) (a' :=?_) #[true,true,true,true,false,true,true,false,false,false,false,false,false,false,false] rfl rfl (any_of HT_.out (by kernel_rfl)) (fun _ _ _ h => h) (Or.inl ⟨by rfl,?_⟩) ?_ ?_
   rotate_left
   ·intro w'
    go_simp
    with_reducible rfl
   rotate_left
   ·simp only [Act.put,List.setIfInBounds_toArray,List.set_cons_zero,List.set_cons_succ,i64_w,i32_w]
    rfl
   refine pure_ (i :=7) (N :=some 20) (v :=?_) (a' :=?_) #[true,true,true,true,false,true,true,true,false,false,false,false,false,false,false] rfl rfl (any_of HT_.out (by kernel_rfl)) (fun _ _ _ h => h) (Or.inl ⟨by rfl,?_⟩) ?_ ?_
   rotate_left
   ·intro w'
    go_simp
    with_reducible rfl
   rotate_left
   ·simp only [Act.put,List.setIfInBounds_toArray,List.set_cons_zero,List.set_cons_succ,i64_w,i32_w]
    rfl
   refine pure_ (i :=8) (N :=some 21) (v :=?_) (a' :=?_) #[true,true,true,true,false,true,true,true,true,false,false,false,false,false,false] rfl rfl (any_of HT_.out (by kernel_rfl)) (fun _ _ _ h => h) (Or.inl ⟨by rfl,?_⟩) ?_ ?_
   rotate_left
   ·intro w'
    go_simp
    with_reducible rfl
   rotate_left
   ·simp only [Act.put,List.setIfInBounds_toArray,List.set_cons_zero,List.set_cons_succ,i64_w,i32_w]
    rfl
   refine pure_ (i :=9) (N :=some 22) (v :=?_) (a' :=?_) #[true,true,true,true,false,true,true,true,true,true,false,false,false,false,false] rfl rfl (any_of HT_.out (by kernel_rfl)) (fun _ _ _ h => h) (Or.inl ⟨by rfl,?_⟩) ?_ ?_
   rotate_left
   ·intro w'
    go_simp
    with_reducible rfl
   rotate_left
   ·simp only [Act.put,List.setIfInBounds_toArray,List.set_cons_zero,List.set_cons_succ,i64_w,i32_w]
    rfl
   refine take_ (i :=4) (N :=some 17) (v :=?_) (a' :=?_) #[true,true,true,true,true,true,true,true,true,true,false,false,false,false,false] rfl rfl (take_ofW HT_.out HW_.out (by kernel_rfl)) (fun _ _ _ h => h) (Or.inl ⟨by rfl,?_⟩) hHeld ?_ ?_
   rotate_left
   ·intro w' s0
    go_simp
    with_reducible rfl
   rotate_left
   ·simp only [Act.put,List.setIfInBounds_toArray,List.set_cons_zero,List.set_cons_succ,i64_w,i32_w]
    rfl
   refine one_ (i :=10) (N :=some 23) #[true,true,true,true,true,true,true,true,true,true,true,false,false,false,false] rfl rfl (one_of HT_.out (by kernel_rfl)) (by decide) (fun K hK => ?_)
   refine value_ (w1 :=?_) (v :=?_) (by rfl) rfl ?_ ?_
   rotate_left 2
   ·go_simp
    constructor
    ·rfl
    ·rfl
   refine hK.out _ _ ((bkc (bka BK _) 0).trans rfl) (fun hHeld => ?_)
   clear hK K
   refine norm_ (a' :=?_) ?_ ?_
   rotate_left
   ·show Act.put _ (some 23) _ = _
    simp only [Act.put,List.setIfInBounds_toArray,List.set_cons_zero,List.set_cons_succ,i64_w,i32_w]
    rfl
   refine one_ (i :=11) (N :=some 24) #[true,true,true,true,true,true,true,true,true,true,true,true,false,false,false] rfl rfl (one_of HT_.out (by kernel_rfl)) (by decide) (fun K hK => ?_)
   refine Kd.R_append_step (Kd.int .u8) w0.heap.size (by rfl) (.tmp 17) (.tmp 23) 22 5 (.int .u8 0) 1 rfl Tryz.underlying22 info5 rfl (by decide) (by omega) v' (bs ++ pre) (byteAt x j) [.int .u8 (byteAt x j)] (fun _ => True) (fun _ => False) rfl rfl ?aP (fun _ hk => hk.elim) ?aF ?aO (Below.refl _ _) ?aS ?aL ?_
   (case aP => exact rfl)
   (case aF => exact (fun _ _ => trivial))
   (case aO => exact HO)
   (case aS => exact hB2.size)
   (case aL => simp only [List.length_append];omega)
   intro v2 w23 ho hb hg2 hat
   obtain ⟨A2,c2,rfl⟩ :=Kd.R_slice ho
   have BK3 :=blk_grown (g :=g) (o :=.cells #[v'] 58 (0,0)) BK hg2 (Kd.R_ne HO BK (by decide))
   have hB3 : Below w0.heap.size w0 w23 :=below_weaken hB2 (Nat.le_refl _) hb
   refine hK.out _ _ ((bkc BK3 0).trans rfl) (fun hHeld => ?_)
   clear hK K
   refine norm_ (a' :=?_) ?_ ?_
   rotate_left
   ·show Act.put _ (some 24) _ = _
    simp only [Act.put,List.setIfInBounds_toArray,List.set_cons_zero,List.set_cons_succ,i64_w,i32_w]
    rfl
   refine pure_ (i :=12) (N :=some 25) (v :=?_) (a' :=?_) #[true,true,true,true,true,true,true,true,true,true,true,true,true,false,false] rfl rfl (any_of HT_.out (by kernel_rfl)) (fun _ _ _ h => h) (Or.inl ⟨by rfl,?_⟩) ?_ ?_
   rotate_left
   ·intro w'
    go_simp
    with_reducible rfl
   rotate_left
   ·simp only [Act.put,List.setIfInBounds_toArray,List.set_cons_zero,List.set_cons_succ,i64_w,i32_w]
    rfl
   refine pure_ (i :=13) (N :=some 26) (v :=?_) (a' :=?_) #[true,true,true,true,true,true,true,true,true,true,true,true,true,true,false] rfl rfl (any_of HT_.out (by kernel_rfl)) (fun _ _ _ h => h) (Or.inl ⟨by rfl,?_⟩) ?_ ?_
   rotate_left
   ·intro w'
    go_simp
    with_reducible rfl
   rotate_left
   ·simp only [Act.put,List.setIfInBounds_toArray,List.set_cons_zero,List.set_cons_succ,i64_w,i32_w]
    rfl
   refine last_ (i :=14) (N :=none) #[true,true,true,true,true,true,true,true,true,true,true,true,true,true,true] rfl rfl (one_of HT_.out (by kernel_rfl)) (by decide) (fun K hK => ?_)
   have hs25 : w23.cell? ⟨g,0,none⟩ = some v' :=(bkc BK3 0).trans rfl
   have hfs25 :=bkz BK3 0
   refine skip_ (w1 :=?_) (by rfl) rfl ?_ ?_
   rotate_left
   ·go_simp
    rfl
   refine hK.out _ _ ?_
   clear hK K
   refine done_ (done_of HT_.out (by kernel_rfl)) ?_
   try go_wp2
   rw [show (bs ++ pre ++ [byteAt x j]).length = bs.length + (pre.length + 1) by simp [Nat.add_assoc]] at ho hat
   go_roundw
   case measure => simp only [intOf];omega
   case rel =>
    refine ⟨j,pre ++ [byteAt x j],_,by omega,by simp,by rw [← hpre];simp [be],⟨by simpa using blk_set BK3 0 _,hge,?_⟩,bws hB3 hge,(KB.trans hK2 (KB.of_grown hg2 g) hv).set_ 0 _,?_⟩
    ·rw [← List.append_assoc]
     exact Kd.R_mono (ok' :=fun _ => True) (Kd.R_far (p :=⟨g,0,none⟩) (Kd.R_types ho BK3 (by decide)) (fun _ hk => hk.2) _) (fun _ _ => trivial)
    ·rcases hat with h1 | ⟨b,h1,h2⟩
     ·rw [h1];exact hv
     ·exact .inr ⟨b,h1,Nat.le_trans hK2.1 h2⟩
def txt (xs : List Int) : List Int :=(xs.length : Int) :: xs
theorem WKeep.trans {w0 w w1 w2 : World} {g : Nat} {v v1 v2 : Value} (h : WKeep w0 w w1 g v v1) (k : WKeep w0 w1 w2 g v1 v2) : WKeep w0 w w2 g v v2 :=by
 refine ⟨k.1,KB.trans h.2.1 k.2.1 h.2.2,?_⟩
 rcases k.2.2 with h1 | ⟨b,h1,h2⟩
 ·rw [h1];exact h.2.2
 ·exact .inr ⟨b,h1,Nat.le_trans h.2.1.1 h2⟩
set_option maxHeartbeats 2000000 in
set_option maxRecDepth 100000 in
theorem writer_text.calls (g : Nat) (v : Value) (bs : List Int) (A : Option Addr) (c : Nat) (xs : List Int) (w0 w : World) (hI : IsW w0 w g v bs) (hB : Below w0.heap.size w0 w) (hs : ∀ w',KB w w' g v.ownBlock → Kd.C (Kd.int .u8) w' A xs.length xs) (hn : xs.length ≤ 255) (hl : bs.length + xs.length + 1 ≤ 1000000000) :
  Calls Tryz.prog 18 #[.pointer (some ⟨g,0,none⟩),.slice A xs.length c] w fun e w' => e = .returned (.tuple #[]) ∧ ∃ v',IsW w0 w' g v' (bs ++ txt xs) ∧ WKeep w0 w w' g v v' :=by
 have hc :=writer_num.calls g v bs (xs.length : Int) 1 w0 w hI hB (by omega) (by omega) (by omega)
 have ht : bs ++ txt xs = (bs ++ be (xs.length : Int) 1) ++ xs :=by
  have : byteAt (xs.length : Int) 0 = (xs.length : Int) :=by unfold byteAt;simp;omega
  simp [txt,be,this]
 have hlen : (bs ++ txt xs).length = bs.length + ((be (xs.length : Int) 1).length + xs.length) :=by simp [txt,be_length];omega
 go_enter Tryz.func18,Tryz.ntmps18
 go_wp2_with (first | (go_at_call 16;go_loud (refine hc.mono ?_;rintro e w1 ⟨rfl,v1,hW1,hK1⟩;have q1 : w1.cell? ⟨g,0,none⟩ = some v1 :=(bkc hW1.1 0).trans rfl)) | ((with_reducible refine gate_builtin (b :=.append) (xs :=#[.tmp 13,.tmp 14]) rfl ?_);at_builtin;go_loud (refine Kd.R_append_row (Value.int .u8) 0 (h1 :=fun _ => rfl) (w0 :=w0) w0.heap.size rfl (.tmp 13) (.tmp 14) 22 5 (.int .u8 0) 1 rfl Tryz.underlying22 info5 rfl (by decide) v1 (bs ++ be (xs.length : Int) 1) xs _ _ _ (fun _ => True) rfl rfl (fun _ _ => trivial) hW1.2.2 (hs _ hK1.2.1) hK1.1 hK1.1.size (by simp [be_length];omega) ?_;intro v2 w2 ho2 hb2 hg2 hat2;rw [← ht] at ho2;obtain ⟨A2,c2,rfl⟩ :=Kd.R_slice ho2;rw [hlen] at ho2 hat2;have BK2 :=blk_grown hW1.1 hg2 (Kd.R_ne hW1.2.2 hW1.1 (by decide));have q2 : w2.cell? ⟨g,0,none⟩ = some v1 :=(bkc BK2 0).trans rfl;have fz2 :=bkz BK2 0)))
 go_end0
 refine ⟨rfl,_,⟨by simpa using blk_set BK2 0 _,hW1.2.1,Kd.R_mono (ok' :=fun _ => True) (Kd.R_far (p :=⟨g,0,none⟩) (Kd.R_types ho2 BK2 (by decide)) (fun _ hk => hk.2) _) (fun _ _ => trivial)⟩,bws hb2 hW1.2.1,(KB.trans hK1.2.1 (KB.of_grown hg2 g) hK1.2.2).set_ 0 _,?_⟩
 rcases hat2 with h1 | ⟨b,h1,h2⟩
 ·rw [h1];exact hK1.2.2
 ·exact .inr ⟨b,h1,Nat.le_trans hK1.2.1.1 h2⟩
section
variable {g : Nat} {v : Value} {bs : List Int} {w0 w : World}
theorem wnum1 (x : Int) (hI : IsW w0 w g v bs) (hB : Below w0.heap.size w0 w) (hx : 0 ≤ x ∧ x < 18446744073709551616) (hl : bs.length ≤ 900000000) :
  Calls Tryz.prog 16 #[.pointer (some ⟨g,0,none⟩),.int .u64 x,.int .i64 1] w fun e w' => e = .returned (.tuple #[]) ∧ ∃ v',IsW w0 w' g v' (bs ++ be x 1) ∧ WKeep w0 w w' g v v' :=
 writer_num.calls g v bs x 1 w0 w hI hB (by omega) hx (by omega)
theorem wnum2 (x : Int) (hI : IsW w0 w g v bs) (hB : Below w0.heap.size w0 w) (hx : 0 ≤ x ∧ x < 18446744073709551616) (hl : bs.length ≤ 900000000) :
  Calls Tryz.prog 16 #[.pointer (some ⟨g,0,none⟩),.int .u64 x,.int .i64 2] w fun e w' => e = .returned (.tuple #[]) ∧ ∃ v',IsW w0 w' g v' (bs ++ be x 2) ∧ WKeep w0 w w' g v v' :=
 writer_num.calls g v bs x 2 w0 w hI hB (by omega) hx (by omega)
theorem wnum8 (x : Int) (hI : IsW w0 w g v bs) (hB : Below w0.heap.size w0 w) (hx : 0 ≤ x ∧ x < 18446744073709551616) (hl : bs.length ≤ 900000000) :
  Calls Tryz.prog 16 #[.pointer (some ⟨g,0,none⟩),.int .u64 x,.int .i64 8] w fun e w' => e = .returned (.tuple #[]) ∧ ∃ v',IsW w0 w' g v' (bs ++ be x 8) ∧ WKeep w0 w w' g v v' :=
 writer_num.calls g v bs x 8 w0 w hI hB (by omega) hx (by omega)
theorem wtextC (A : Option Addr) (c : Nat) (xs : List Int) (hI : IsW w0 w g v bs) (hB : Below w0.heap.size w0 w) (hs : Kd.C (Kd.int .u8) w0 A xs.length xs) (hn : xs.length ≤ 255) (hl : bs.length ≤ 900000000) :
  Calls Tryz.prog 18 #[.pointer (some ⟨g,0,none⟩),.slice A xs.length c] w fun e w' => e = .returned (.tuple #[]) ∧ ∃ v',IsW w0 w' g v' (bs ++ txt xs) ∧ WKeep w0 w w' g v v' :=by
 refine writer_text.calls g v bs A c xs w0 w hI hB (fun w' hk => ?_) hn (by omega)
 refine (Kd.heap_int .u8).C (fun i hi => ?_) hs
 rw [hk.2 i (Nat.lt_of_lt_of_le hi hB.size) (by have :=hI.2.1;omega) (fun he => ?_)]
 ·exact hB.block i hi
 ·have :=own_base (Kd.own_of_R hI.2.2) i he.symm
  omega
theorem bytes_C (W : World) (s : ByteArray) (hs : s.size ≤ 9223372036854775807) : Kd.C (Kd.int .u8) (Lib.bytesWorld W 5 s) (some ⟨W.heap.size,0,none⟩) (bytesOf s).length (bytesOf s) :=by
 obtain ⟨h1,h2,h3⟩ :=bytes_reads W 5 s hs
 refine ⟨rfl,by rw [h1];exact h2,fun hp => ?_⟩
 obtain ⟨ad,e,hc⟩ :=h3 (by omega)
 refine ⟨ad,e,fun j p hj => ⟨[.int .u8 p],rfl,rfl,fun i u hu => ?_⟩⟩
 have hlt : j < (bytesOf s).length :=(List.getElem?_eq_some_iff.1 hj).1
 cases i with
 | zero =>
  have hx :=hc j (by omega)
  rw [List.getD_eq_getElem?_getD,hj] at hx
  cases hu
  show (Lib.bytesWorld W 5 s).cell? (ad.add (j * 1 + 0)) = _
  simpa using hx
 | succ i => simp at hu
theorem wtextS (s : ByteArray) (c : Nat) (hI : IsW w0 w g v bs) (hB : Below w0.heap.size w0 w) (hn : s.size ≤ 255) (hl : bs.length ≤ 900000000) :
  Calls Tryz.prog 18 #[.pointer (some ⟨g,0,none⟩),.slice (some ⟨w.heap.size,0,none⟩) s.size c] (Lib.bytesWorld w 5 s) fun e w' => e = .returned (.tuple #[]) ∧ ∃ v',IsW w0 w' g v' (bs ++ txt (bytesOf s)) ∧ WKeep w0 w w' g v v' :=by
 have hb : Below w.heap.size w (Lib.bytesWorld w 5 s) :=bytes_below (Below.refl _ _) (Nat.le_refl _) 5 s
 have hC :=bytes_C w s (by omega)
 rw [bytesOf_length] at hC
 have hk0 : KB w (Lib.bytesWorld w 5 s) g v.ownBlock :=KB.of_below hb _ _
 have hlt :=own_lt (Kd.own_of_R hI.2.2)
 have :=writer_text.calls g v bs (some ⟨w.heap.size,0,none⟩) c (bytesOf s) w0 (Lib.bytesWorld w 5 s) (hI.below hb) (below_step hB hb) (fun w' hk => ?_) (by rw [bytesOf_length];exact hn) (by rw [bytesOf_length];omega)
 ·rw [bytesOf_length] at this
  refine this.mono ?_
  rintro e w' ⟨rfl,v',h1,h2⟩
  refine ⟨rfl,v',h1,h2.1,hk0.trans h2.2.1 (.inl rfl),?_⟩
  rcases h2.2.2 with h3 | ⟨b,h3,h4⟩
  ·exact .inl h3
  ·exact .inr ⟨b,h3,Nat.le_trans hb.size h4⟩
 ·rw [bytesOf_length]
  refine Kd.C_foot_neS (S :=fun k => k = g ∨ some k = v.ownBlock) (fun h => h) hC (fun ad he _ hS => ?_) w' ⟨hk.1,fun i hi hS => hk.2 i hi (fun e => hS (.inl e)) (fun e => hS (.inr e))⟩
  cases he
  rcases hS with h | h
  ·exact Nat.ne_of_gt (blk_lt hI.1) h
  ·exact Nat.lt_irrefl _ (hlt _ h.symm)
end
end Go.Proofs.YtlafgnanfkhobaaGreatDoor.P2
