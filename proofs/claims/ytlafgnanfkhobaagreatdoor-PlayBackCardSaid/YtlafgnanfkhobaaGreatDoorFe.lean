/- (*disk.Disk).fits as one step: how long the files are together, whatever order they come in. -/
import Derived.Test.YtlafgnanfkhobaaGreatDoorFd
import Derived.Test.YtlafgnanfkhobaaGreatDoorProg
import Derived.WalkKit
import Derived.ProofKit
import Derived.LoopTactic
import Derived.LoopN
import Derived.Laws.IdiomRangeMap
import Derived.Shelf.SlIter.Nil
import Derived.Shelf.SortM.Plain
import Derived.Shelf.SortM.SortNone
namespace Go.Ideal
set_option linter.all false
set_option linter.unusedSimpArgs false
set_option linter.unusedVariables false
noncomputable section
open Go Go.RowKit
set_option maxHeartbeats 1000000
structure Like (w1 w : World) : Prop where
 heap : w1.heap = w.heap
 os : w1.os = w.os
 tape : w1.tape = w.tape
 output : w1.output = w.output
theorem Like.refl (w : World) : Like w w :=⟨rfl,rfl,rfl,rfl⟩
theorem Like.trans {a b c : World} (h : Like a b) (k : Like b c) : Like a c :=⟨h.heap.trans k.heap,h.os.trans k.os,h.tape.trans k.tape,h.output.trans k.output⟩
theorem Like.below {w1 w : World} (h : Like w1 w) (o : Obj) : RowKit.Below w.heap.size w (w1.alloc o) :=by
 refine ⟨h.os,h.tape,h.output,?_,fun k hk => ?_⟩
 ·show w.heap.size ≤ (w1.heap.push o).size
  rw [Array.size_push,h.heap];omega
 ·show (w1.heap.push o)[k]? = _
  rw [h.heap,Array.getElem?_push,if_neg (by omega)]
def lensM (E : Env) (tp : TypeId) (s : Value) : List (Value × Value × Nat) → M Nat
 | [] => pure 0
 | e :: r => do
  match e.2.1 with
  | .pointer (some ⟨sb,so,none⟩) => do
   let same ← eqM E tp false false (.pointer (some ⟨sb,so,none⟩)) s
   match ← rd sb with
   | .cells ys _ _ => match nth ys so with
    | some (.slice _ len _) => do
     let n ← lensM E tp s r
     pure (cond same n (len + n))
    | _ => fail
   | _ => fail
  | _ => fail
def bornLt : List (Value × Value × Nat) → Nat → Bool
 | [],_ => true
 | e :: r,n => Nat.blt e.2.2 n && bornLt r n
def bornApart : List (Value × Value × Nat) → List Nat → Bool
 | [],_ => true
 | e :: r,seen => !hasN seen e.2.2 && bornApart r (e.2.2 :: seen)
def fitsM (E : Env) (tp : TypeId) (args : List Value) : M Value :=
 match args with
 | [.pointer (some ⟨b,off,none⟩),s,.int .i64 (.ofNat size)] => do
  match ← rd b with
  | .cells xs _ _ => match nth xs off,nth xs (off + 1) with
   | some (.int .i64 room),some (.map (some mb)) => do
    match ← rd mb with
    | .map es clock => do
     guardM (bornLt es clock && bornApart es [])
     let n ← lensM E tp s es
     guardM (Nat.blt (size + n) 1099511627776)
     pure (.bool (decide (Int.ofNat (size + n) ≤ room)))
    | _ => fail
   | _,_ => fail
  | _ => fail
 | _ => fail
theorem resp_lensM {E : Env} (tp : TypeId) (s : Value) : ∀ l,Resp (lensM E tp s l)
 | [] => Resp.pure _
 | e :: r => by
  unfold lensM
  have :=resp_lensM (E :=E) tp s r
  repeat' (first
   | exact Resp.pure _ | exact Resp.fail | exact Resp.rd _ | exact resp_eqM _ _ _ _ _ | exact this
   | (refine Resp.bind ?_ fun _ => ?_) | split)
theorem resp_fitsM {E : Env} (tp : TypeId) (l : List Value) : Resp (fitsM E tp l) :=by
 unfold fitsM
 repeat' (first
  | exact Resp.pure _ | exact Resp.fail | exact Resp.rd _ | exact Resp.guardM _ | exact resp_lensM _ _ _
  | (refine Resp.bind ?_ fun _ => ?_) | split)
def FitsAt (P : Program) (f : FuncId) (tp : TypeId) : Prop :=
 ∀ (w : World) (dr dof bm : Nat) (es : Array MapEntry) (clock : Nat) (sv : Value) (size : Nat) (room : Int) (c : MapEntry → Nat),
  w.cell? ⟨dr,dof,none⟩ = some (.int .i64 room) → w.cell? ⟨dr,dof + 1,none⟩ = some (.map (some bm)) → w.heap[bm]? = some (.map es clock) →
  (∀ x ∈ es.toList,x.born < clock) → (es.toList.map (·.born)).Nodup →
  (∀ x ∈ es.toList,∃ r o base len cap b,x.val = .pointer (some ⟨r,o,none⟩) ∧ r < w.heap.size ∧ w.cell? ⟨r,o,none⟩ = some (.slice base len cap) ∧
   (∀ (w1 : World) (i : Obj),Like w1 w → (Op.equal tp (.pointer (some ⟨r,o,none⟩)) sv).run P (w1.alloc i) = .ok b (w1.alloc i)) ∧ c x = if b then 0 else len) →
  size + (es.toList.map c).sum < 1099511627776 →
  Calls P f #[.pointer (some ⟨dr,dof,none⟩),sv,.int .i64 (size : Int)] w fun e w' =>
   e = .returned (.bool (decide (((size + (es.toList.map c).sum : Nat) : Int) ≤ room))) ∧ ∃ (w1 : World) (o : Obj),Like w1 w ∧ w' = w1.alloc o
section
variable {P : Program} {N0 : Nat → Prop} {E : Env} {β : Bij} {w : World}
theorem sim_lensM (hE : EnvOK P E) {tp : TypeId} {sv sv' : Value} (hs : V β sv sv') : ∀ (l : List (Value × Value × Nat)) (l' : List MapEntry) (s s' : S) (n : Nat),
  Inv N0 β s.h.get w → lensM E tp sv l s = some (n,s') → EL β l l' → (l'.map (·.born)).Nodup →
  s'.h = s.h ∧ s'.nx = s.nx ∧ ∃ c : MapEntry → Nat,(l'.map c).sum = n ∧ ∀ x ∈ l',∃ r o base len cap b,x.val = .pointer (some ⟨r,o,none⟩) ∧ r < w.heap.size ∧
   w.cell? ⟨r,o,none⟩ = some (.slice base len cap) ∧
   (∀ (w1 : World) (i : Obj),Like w1 w → (Op.equal tp (.pointer (some ⟨r,o,none⟩)) sv').run P (w1.alloc i) = .ok b (w1.alloc i)) ∧ c x = if b then 0 else len
 | [],_,s,s',n,hI,h,hl,_ => by
  cases hl
  obtain ⟨rfl,rfl⟩ :=pure_some.1 h
  exact ⟨rfl,rfl,fun _ => 0,rfl,fun x hx => by cases hx⟩
 | e :: r,_,s,s',n,hI,h,hl,hnd => by
  cases hl with
  | cons a1 a2 a3 a4 =>
  rename_i k v bn e' r'
  unfold lensM at h
  simp only at h
  split at h
  ·rename_i sb so
   obtain ⟨same,s1,h1,hx⟩ :=bind_some.1 h;clear h;have h :=hx;clear hx
   cases a2' : e'.val <;> rw [a2'] at a2 <;> cases a2
   rename_i L hL
   obtain ⟨-,q2,q3,-⟩ :=sim_eqM (xc :=.tmp 0) (yc :=.tmp 0) hE hI h1 (.ptr hL) hs
   obtain ⟨o,hlt,hg,hx⟩ :=rd_bind h;clear h;have h :=hx;clear hx
   rw [q2] at hg
   cases o with
   | cells ys t kd =>
    simp only at h
    obtain ⟨mm,hm,hx⟩ : ∃ m : M Nat,m = _ ∧ m _ = some (n,s') :=⟨_,rfl,h⟩;clear h;have h :=hx;clear hx
    split at hm
    ·rename_i base len cap hnth
     subst hm
     obtain ⟨m,s3,h3,hx⟩ :=bind_some.1 h;clear h;have h :=hx;clear hx
     obtain ⟨rfl,rfl⟩ :=pure_some.1 h
     have hnd' :=List.nodup_cons.1 hnd
     obtain ⟨e1,e2,c,hsum,hall⟩ :=sim_lensM hE hs r r' _ _ m (by show Inv N0 β s1.h.get w;rw [q2];exact hI) h3 a4 hnd'.2
     obtain ⟨cc,fz,p1,p2,p3,p4,p5⟩ :=hI.cells hg hL
     rw [nth_eq] at hnth
     obtain ⟨u,u1,u2⟩ :=p4 _ _ hnth
     obtain ⟨base',cap',rfl⟩ : ∃ base' cap',u = .slice base' len cap' :=by cases u2 <;> exact ⟨_,_,rfl⟩
     refine ⟨by rw [e1];exact q2,by rw [e2];exact q3,fun x => if x.born = e'.born then (if same then 0 else len) else c x,?_,fun x hx => ?_⟩
     ·have hc : (r'.map fun x => if x.born = e'.born then (if same then 0 else len) else c x) = r'.map c :=by
       refine List.map_congr_left fun x hx => ?_
       rw [if_neg]
       intro he
       exact hnd'.1 (List.mem_map.2 ⟨x,hx,he⟩)
      rw [List.map_cons,List.sum_cons,hc,hsum,if_pos rfl]
      cases same <;> simp
     ·rcases List.mem_cons.1 hx with rfl | hx
      ·refine ⟨_,_,base',len,cap',same,a2',(Array.getElem?_eq_some_iff.1 p1).1,?_,fun w1 i hw => ?_,by show (if x.born = x.born then _ else _) = _;rw [if_pos rfl]⟩
       ·rw [cell_at p1]
        exact u1
       ·have hI1 : Inv N0 β s.h.get (w1.alloc i) :=(hI.world hw.heap).below ⟨rfl,rfl,rfl,by show w1.heap.size ≤ (w1.heap.push i).size;simp,fun k hk => by
         show (w1.heap.push i)[k]? = _
         rw [Array.getElem?_push,if_neg (by omega)]⟩
        exact (sim_eqM (xc :=.tmp 0) (yc :=.tmp 0) hE hI1 h1 (.ptr hL) hs).1
      ·obtain ⟨r,o,base,len',cap,b,y1,y2,y3,y4,y5⟩ :=hall x hx
       refine ⟨r,o,base,len',cap,b,y1,y2,y3,y4,?_⟩
       show (if x.born = e'.born then _ else c x) = _
       rw [if_neg,y5]
       intro he
       exact hnd'.1 (List.mem_map.2 ⟨x,hx,he⟩)
    ·subst hm;exact (fail_some.1 h).elim
   | _ => exact (fail_some.1 h).elim
  ·exact (fail_some.1 h).elim
theorem EL.bornLt {es : List (Value × Value × Nat)} {es' : List MapEntry} (h : EL β es es') {n : Nat} (hb : bornLt es n = true) : ∀ x ∈ es',x.born < n :=by
 induction h with
 | nil => intro x hx;cases hx
 | cons a b c _ ih =>
  simp only [Ideal.bornLt,Bool.and_eq_true] at hb
  intro x hx
  rcases List.mem_cons.1 hx with rfl | hx
  ·rw [← c];exact blt_iff.1 hb.1
  ·exact ih hb.2 x hx
theorem EL.bornApart {es : List (Value × Value × Nat)} {es' : List MapEntry} (h : EL β es es') {seen : List Nat} (hb : bornApart es seen = true) :
  (es'.map (·.born)).Nodup ∧ ∀ x ∈ es',x.born ∉ seen :=by
 induction h generalizing seen with
 | nil => exact ⟨List.nodup_nil,fun x hx => by cases hx⟩
 | cons a b c _ ih =>
  rename_i k v n e r r' _
  simp only [Ideal.bornApart,Bool.and_eq_true,Bool.not_eq_true'] at hb
  obtain ⟨i1,i2⟩ :=ih hb.2
  refine ⟨List.nodup_cons.2 ⟨fun hm => ?_,i1⟩,fun x hx => ?_⟩
  ·obtain ⟨y,hy,he⟩ :=List.mem_map.1 hm
   exact i2 y hy (by rw [he];show e.born ∈ n :: seen;rw [← c];exact List.mem_cons_self)
  ·rcases List.mem_cons.1 hx with rfl | hx
   ·intro hm
    have :=hb.1
    rw [hasN_eq,← c] at *
    simp at this
    exact this (by rw [c];exact hm)
   ·exact fun hm => i2 x hx (List.mem_cons_of_mem _ hm)
theorem fits_ok (hE : EnvOK P E) {E2 : Env} {f : FuncId} {tp : TypeId} (hen : Enters P f) (hF : FitsAt P f tp) : FunOK P N0 E2 f (fitsM E tp) :=by
 intro l s v s' β w l' h hI hf hg hl
 refine ⟨hen,?_⟩
 unfold fitsM at h
 split at h
 ·rename_i b off sv size
  obtain ⟨o,hlt,hgb,hx⟩ :=rd_bind h;clear h;have h :=hx;clear hx
  obtain ⟨l'⟩ :=l'
  cases hl with
  | cons hx hr =>
  cases hr with
  | cons hs hr =>
  cases hr with
  | cons hz hr =>
  cases hr
  cases hz
  cases hx with
  | ptr hL =>
  rename_i sv' L
  cases o with
  | cells xs t kd =>
   simp only at h
   obtain ⟨mm,hm,hx⟩ : ∃ m : M Value,m = _ ∧ m _ = some (v,s') :=⟨_,rfl,h⟩;clear h;have h :=hx;clear hx
   split at hm
   ·rename_i room mb n1 n2
    subst hm
    obtain ⟨cc,fz,p1,p2,p3,p4,p5⟩ :=hI.cells hgb hL
    rw [nth_eq] at n1 n2
    obtain ⟨u,u1,u2⟩ :=p4 _ _ n1
    obtain ⟨u',u3,u4⟩ :=p4 _ _ n2
    cases u2
    cases u4 with
    | map hLm =>
    rename_i Lm
    obtain ⟨o,hltm,hgm,hx⟩ :=rd_bind h;clear h;have h :=hx;clear hx
    have hgm : s.h.get mb = some o :=hgm
    cases o with
    | map es clock =>
     simp only at h
     obtain ⟨hst,hx⟩ :=guard_bind h;clear h;have h :=hx;clear hx
     simp only [Bool.and_eq_true] at hst
     obtain ⟨n,s4,h4,hx⟩ :=bind_some.1 h;clear h;have h :=hx;clear hx
     obtain ⟨hbig,hx⟩ :=guard_bind h;clear h;have h :=hx;clear hx
     obtain ⟨rfl,rfl⟩ :=pure_some.1 h
     have hbig :=blt_iff.1 hbig
     obtain ⟨L',hL',es',r1,r2,r3⟩ :=hI.live mb _ hgm
     rw [hLm] at hL';cases hL'
     have hnd :=(r2.bornApart hst.2).1
     obtain ⟨e1,e2,c,hsum,hall⟩ :=sim_lensM (N0 :=N0) (w :=w) hE hs es es'.toList _ _ n (by exact hI) h4 r2 hnd
     have c1 : w.cell? ⟨L.r,L.sh + off,none⟩ = some (.int .i64 room) :=by rw [cell_at p1];exact u1
     have c2 : w.cell? ⟨L.r,L.sh + off + 1,none⟩ = some (.map (some Lm.r)) :=by rw [cell_at p1,Nat.add_assoc];exact u3
     refine (hF w L.r (L.sh + off) Lm.r es' clock sv' size room c c1 c2 r1 (r2.bornLt hst.1) hnd hall (by rw [hsum];exact hbig)).mono ?_
     rintro e w' ⟨rfl,w1,o,hw1,rfl⟩
     rw [hsum]
     have hb :=hw1.below o
     exact ⟨_,rfl,β,.bool _,Ext.refl _ _ _,by rw [e1];exact hI.below hb,Below.out hI.size hb⟩
    | _ => exact (fail_some.1 h).elim
   ·subst hm;exact (fail_some.1 h).elim
  | _ => exact (fail_some.1 h).elim
 ·exact (fail_some.1 h).elim
end
end
end Go.Ideal

namespace Go.Ideal
set_option linter.all false
set_option linter.unusedSimpArgs false
set_option linter.unusedVariables false
noncomputable section
open Go Go.RowKit
set_option maxHeartbeats 1000000
def forceN {α : Type} (n : Nat) (f : Nat → α) : α :=
 match n with
 | 0 => f 0
 | k + 1 => f (k + 1)
theorem forceN_eq {α : Type} (n : Nat) (f : Nat → α) : forceN n f = f n :=by cases n <;> rfl
def crcR (r : Nat) : Nat :=Nat.xor (Nat.div r 2) (Nat.mul (Nat.land r 1) 2197175160)
def crc1 : Nat → Nat → Nat
 | 0,r => r
 | n + 1,r => forceN (crcR r) (crc1 n)
def crcL : List Nat → Nat → Nat
 | [],r => r
 | c :: l,r => forceN (crc1 8 (Nat.xor r c)) (crcL l)
def natL : List Value → Option (List Nat)
 | [] => some []
 | .int .u8 (.ofNat n) :: r => cond (Nat.blt n 256) (match natL r with
  | some l => some (n :: l)
  | none => none) none
 | _ => none
def sumM (args : List Value) : M Value :=
 match args with
 | [.slice a n c] => do
  guardM (Nat.blt n 1099511627776)
  let ys ← firstM n 1 (.slice a n c)
  let l ← liftO (natL ys)
  forceN (Nat.xor (crcL l 4294967295) 4294967295) fun r => pure (.int .u32 (Int.ofNat r))
 | _ => fail
theorem resp_sumM (l : List Value) : Resp (sumM l) :=by
 unfold sumM
 split
 ·refine Resp.bind (Resp.guardM _) fun _ => Resp.bind (resp_firstM _ _ _) fun _ => Resp.bind (Resp.liftO _) fun _ => ?_
  rw [forceN_eq];exact Resp.pure _
 ·exact Resp.fail
def SumAt (P : Program) (f : FuncId) : Prop :=
 (∀ (w : World) (b off len cap : Nat) (l : List Nat),l.length = len → len < 1099511627776 → (∀ x ∈ l,x < 256) →
  (∀ (j x : Nat),l[j]? = some x → w.cell? ⟨b,off + j,none⟩ = some (.int .u8 (x : Int))) →
  Calls P f #[.slice (some ⟨b,off,none⟩) len cap] w fun e w' => e = .returned (.int .u32 ((Nat.xor (crcL l 4294967295) 4294967295 : Nat) : Int)) ∧ Like w' w) ∧
 (∀ (w : World) (a : Option Addr) (cap : Nat),
  Calls P f #[.slice a 0 cap] w fun e w' => e = .returned (.int .u32 ((Nat.xor (crcL [] 4294967295) 4294967295 : Nat) : Int)) ∧ Like w' w)
theorem natL_get : ∀ {ys : List Value} {l : List Nat},natL ys = some l → l.length = ys.length ∧ (∀ x ∈ l,x < 256) ∧ ∀ (j x : Nat),l[j]? = some x → ys[j]? = some (Value.int .u8 (x : Int))
 | [],l,h => by
  simp only [natL] at h;cases h
  refine ⟨rfl,?_,?_⟩
  ·intro x hx;cases hx
  ·intro j x hj;simp at hj
 | y :: r,l,h => by
  unfold natL at h
  split at h
  ·rename_i heq;cases heq
  ·rename_i n r' heq
   cases heq
   cases hb : Nat.blt n 256 with
   | false => rw [hb] at h;cases h
   | true =>
    rw [hb] at h
    cases hr : natL r with
    | none => rw [hr] at h;cases h
    | some l' =>
     rw [hr] at h;cases h
     obtain ⟨h1,h2,h3⟩ :=natL_get hr
     refine ⟨by simp [h1],fun x hx => ?_,fun j x hj => ?_⟩
     ·rcases List.mem_cons.1 hx with rfl | hx
      ·exact blt_iff.1 hb
      ·exact h2 x hx
     ·cases j with
      | zero => simp at hj;subst hj;rfl
      | succ j => simpa using h3 j x (by simpa using hj)
  ·cases h
section
variable {P : Program} {N0 : Nat → Prop} {E : Env}
theorem sum_ok {f : FuncId} (hen : Enters P f) (hS : SumAt P f) : FunOK P N0 E f sumM :=by
 intro l s v s' β w l' h hI hf hg hl
 refine ⟨hen,?_⟩
 unfold sumM at h
 split at h
 ·rename_i a n c
  obtain ⟨hn,hx⟩ :=guard_bind h;clear h;have h :=hx;clear hx
  have hn :=blt_iff.1 hn
  obtain ⟨ys,s2,h2,h9⟩ :=bind_some.1 h
  obtain ⟨bs,s3,h3,h10⟩ :=bind_some.1 h9
  obtain ⟨hbs,e3⟩ :=liftO_some.1 h3
  rw [forceN_eq] at h10
  obtain ⟨hv,e4⟩ :=pure_some.1 h10
  have hs' : s' = s2 :=by rw [e4,e3]
  obtain ⟨l'⟩ :=l'
  cases hl with
  | cons hx hr =>
  cases hr
  obtain ⟨g1,g2,g3⟩ :=natL_get hbs
  have out : ∀ {w' : World},s2.h = s.h → Like w' w → Out N0 β s w s' β w' :=fun {w'} hh hw =>
   ⟨Ext.refl _ _ _,by rw [hs',hh];exact hI.world hw.heap,hw.os,hw.tape,hw.output,by rw [hw.heap];exact Nat.le_refl _,fun k hk => by rw [hw.heap]⟩
  have nil : ∀ {a' : Option Addr} {cap' : Nat},ys = [] → s2.h = s.h → Calls P f #[.slice a' 0 cap'] w fun e w' => ∃ v',e = .returned v' ∧ ∃ β',V β' v v' ∧ Out N0 β s w s' β' w' :=by
   intro a' cap' hy hh
   have : bs = [] :=by
    subst hy
    cases hb : bs with
    | nil => rfl
    | cons _ _ => rw [hb] at g1;simp at g1
   refine (hS.2 w a' cap').mono ?_
   rintro e w' ⟨rfl,hw⟩
   exact ⟨_,rfl,β,by rw [hv,this];exact .int _ _,out hh hw⟩
  cases hx with
  | nilsl =>
   simp only [firstM] at h2
   obtain ⟨e1,e2⟩ :=pure_some.1 h2
   exact nil e1 (by rw [e2])
  | slz A A' e1 e2 =>
   simp only [firstM,Nat.zero_mul] at h2
   obtain ⟨e1,e2⟩ :=pure_some.1 h2
   exact nil e1 (by rw [e2])
  | sl0 A A' =>
   simp only [firstM,Nat.zero_mul] at h2
   obtain ⟨e1,e2⟩ :=pure_some.1 h2
   exact nil e1 (by rw [e2])
  | sl hL hcap =>
   rename_i b off cap' L
   simp only [firstM] at h2
   cases hz : Nat.beq (n * 1) 0 with
   | true =>
    rw [hz] at h2
    obtain ⟨e1,e2⟩ :=pure_some.1 h2
    have : n = 0 :=by have :=Nat.eq_of_beq_eq_true hz;omega
    subst this
    exact nil e1 (by rw [e2])
   | false =>
    rw [hz] at h2
    have hle : Nat.ble n n = true :=ble_iff.2 (Nat.le_refl _)
    rw [hle] at h2
    simp only [cond_true,cond_false] at h2
    obtain ⟨o,hlt,hgb,h5⟩ :=rd_bind h2
    cases o with
    | cells xs e k =>
     obtain ⟨hlen,h7⟩ :=guard_bind h5
     obtain ⟨hys,e2⟩ :=pure_some.1 h7
     have hlen :=Nat.eq_of_beq_eq_true hlen
     obtain ⟨cc,fz,q1,q2,q3,q4,q5⟩ :=hI.cells hgb hL
     refine (hS.1 w L.r (L.sh + off) n cap' bs (by rw [g1,hys,hlen,Nat.mul_one]) hn g2 fun j x hj => ?_).mono ?_
     ·have :=g3 j x hj
      rw [hys,List.getElem?_take] at this
      split at this
      ·rw [List.getElem?_drop] at this
       obtain ⟨u,u1,u2⟩ :=q4 _ _ this
       cases u2
       rw [cell_at q1,Nat.add_assoc];exact u1
      ·cases this
     ·rintro e w' ⟨rfl,hw⟩
      exact ⟨_,rfl,β,by rw [hv];exact .int _ _,out (by rw [e2]) hw⟩
    | _ => exact (fail_some.1 h5).elim
 ·exact (fail_some.1 h).elim
end
theorem xor_lt {a b : Nat} (ha : a < 4294967296) (hb : b < 4294967296) : a ^^^ b < 4294967296 :=Nat.xor_lt_two_pow (n :=32) ha hb
theorem wrap32 {n : Nat} (h : n < 4294967296) : IntKind.u32.wrap (n : Int) = (n : Int) :=by
 simp [IntKind.wrap,IntKind.bits,IntKind.signed]
 omega
theorem bits_xor32 (a b : Nat) (ha : a < 4294967296) (hb : b < 4294967296) : Go.bits .xor .u32 (a : Int) (b : Int) = ((a ^^^ b : Nat) : Int) :=by
 have h1 : a % 4294967296 = a :=Nat.mod_eq_of_lt ha
 have h2 : b % 4294967296 = b :=Nat.mod_eq_of_lt hb
 show IntKind.u32.wrap ((BitVec.ofInt 32 (a : Int) ^^^ BitVec.ofInt 32 (b : Int)).toNat : Int) = _
 rw [BitVec.toNat_xor,BitVec.ofInt_natCast,BitVec.ofInt_natCast,BitVec.toNat_ofNat,BitVec.toNat_ofNat,h1,h2]
 exact wrap32 (xor_lt ha hb)
theorem bits_and32 (a b : Nat) (ha : a < 4294967296) (hb : b < 4294967296) : Go.bits .and .u32 (a : Int) (b : Int) = ((a &&& b : Nat) : Int) :=by
 have h1 : a % 4294967296 = a :=Nat.mod_eq_of_lt ha
 have h2 : b % 4294967296 = b :=Nat.mod_eq_of_lt hb
 show IntKind.u32.wrap ((BitVec.ofInt 32 (a : Int) &&& BitVec.ofInt 32 (b : Int)).toNat : Int) = _
 rw [BitVec.toNat_and,BitVec.ofInt_natCast,BitVec.ofInt_natCast,BitVec.toNat_ofNat,BitVec.toNat_ofNat,h1,h2]
 exact wrap32 (Nat.lt_of_le_of_lt Nat.and_le_left ha)
theorem crcR_lt {r : Nat} (h : r < 4294967296) : crcR r < 4294967296 :=by
 refine xor_lt (a :=r / 2) (b :=(r &&& 1) * 2197175160) (by omega) ?_
 have : r &&& 1 ≤ 1 :=Nat.and_le_right
 omega
theorem crc1_succ (n r : Nat) : crc1 (n + 1) r = crc1 n (crcR r) :=by
 show forceN (crcR r) (crc1 n) = _
 rw [forceN_eq]
theorem crc1_last : ∀ (n r : Nat),crc1 (n + 1) r = crcR (crc1 n r)
 | 0,r => by rw [crc1_succ];rfl
 | n + 1,r => by rw [crc1_succ,crc1_last n (crcR r),← crc1_succ]
theorem crc1_lt : ∀ {n r : Nat},r < 4294967296 → crc1 n r < 4294967296
 | 0,_,h => h
 | n + 1,r,h => by rw [crc1_last];exact crcR_lt (crc1_lt h)
theorem crcL_cons (c : Nat) (l : List Nat) (r : Nat) : crcL (c :: l) r = crcL l (crc1 8 (r ^^^ c)) :=by
 show forceN (crc1 8 (Nat.xor r c)) (crcL l) = _
 rw [forceN_eq];rfl
theorem crcL_snoc : ∀ (l : List Nat) (c r : Nat),crcL (l ++ [c]) r = crc1 8 (crcL l r ^^^ c)
 | [],c,r => by
  show crcL [c] r = _
  rw [crcL_cons];rfl
 | x :: l,c,r => by rw [List.cons_append,crcL_cons,crcL_snoc l,← crcL_cons]
theorem crcL_lt : ∀ {l : List Nat} {r : Nat},r < 4294967296 → (∀ x ∈ l,x < 256) → crcL l r < 4294967296
 | [],_,h,_ => h
 | x :: l,r,h,hl => by
  rw [crcL_cons]
  refine crcL_lt (crc1_lt (xor_lt h ?_)) fun y hy => hl y (List.mem_cons_of_mem _ hy)
  have :=hl x List.mem_cons_self
  omega
end
end Go.Ideal

namespace Go.Proofs.YtlafgnanfkhobaaGreatDoor
set_option linter.all false
set_option linter.unusedSimpArgs false
set_option linter.unusedVariables false
open Go Go.Ideal
set_option linter.unusedVariables false
set_option maxHeartbeats 2000000
set_option maxRecDepth 100000 in
theorem sum_full (w : World) (b off len cap : Nat) (l : List Nat) (hl : l.length = len) (hlen : len < 1099511627776) (hx : ∀ x ∈ l,x < 256)
  (hc : ∀ (j x : Nat),l[j]? = some x → w.cell? ⟨b,off + j,none⟩ = some (Value.int .u8 (x : Int))) :
  Calls Tryz.prog 172 #[.slice (some ⟨b,off,none⟩) len cap] w fun e w' => e = .returned (.int .u32 ((Nat.xor (crcL l 4294967295) 4294967295 : Nat) : Int)) ∧ Like w' w :=by
 go_enter Tryz.func172,Tryz.ntmps172
 go_wp2
 go_loop [3,9] (fun t i => ∃ k : Nat,k ≤ len ∧ i = .int .i64 k ∧ t = .int .u32 ((crcL (l.take k) 4294967295 : Nat) : Int)) (fun _ i => match i with | .int _ n => len - n.toNat | _ => 0)
 case atStart => exact ⟨0,Nat.zero_le _,rfl,rfl⟩
 case round =>
  obtain ⟨k,hk,rfl,rfl⟩ :=hrel
  have hcell : k < len → w.cell? ⟨b,off + k,none⟩ = some (Value.int .u8 ((l.getD k 0 : Nat) : Int)) :=fun h => hc k _ (by rw [List.getD_eq_getElem?_getD,List.getElem?_eq_getElem (by omega)];rfl)
  go_wp2
  ·rename_i hlt _ _ _
   have hlt : k < l.length :=by omega
   have hb : l[k] < 256 :=hx _ (List.getElem_mem hlt)
   have hr : crcL (l.take k) 4294967295 < 4294967296 :=crcL_lt (by omega) fun x h => hx x (List.mem_of_mem_take h)
   have e0 : ((l[k] : Nat) : Int) % 4294967296 = ((l[k] : Nat) : Int) :=by omega
   rw [e0,bits_xor32 _ _ hr (by omega)]
   have hr0 :=xor_lt hr (show l[k] < 4294967296 by omega)
   have hnext : crcL (l.take (k + 1)) 4294967295 = crc1 8 (crcL (l.take k) 4294967295 ^^^ l[k]) :=by
    rw [List.take_add_one,List.getElem?_eq_getElem hlt]
    exact crcL_snoc _ _ _
   generalize crcL (l.take k) 4294967295 ^^^ l[k] = r0 at hr0 hnext ⊢
   go_loop [3,17] (fun t i => ∃ j : Nat,j ≤ 8 ∧ i = .int .i64 j ∧ t = .int .u32 ((crc1 j r0 : Nat) : Int)) (fun _ i => match i with | .int _ n => 8 - n.toNat | _ => 0)
   case atStart => exact ⟨0,Nat.zero_le _,rfl,rfl⟩
   case round =>
    obtain ⟨j,hj,rfl,rfl⟩ :=hrel
    have hrj : crc1 j r0 < 4294967296 :=crc1_lt hr0
    go_wp2
    ·have hl1 : crc1 j r0 &&& 1 ≤ 1 :=Nat.and_le_right
     have e1 : bits .and .u32 ((crc1 j r0 : Nat) : Int) 1 = ((crc1 j r0 &&& 1 : Nat) : Int) :=bits_and32 _ 1 hrj (by omega)
     have e2 : ((crc1 j r0 &&& 1 : Nat) : Int) * 2197175160 % 4294967296 = (((crc1 j r0 &&& 1) * 2197175160 : Nat) : Int) :=by omega
     have e3 : ((crc1 j r0 : Nat) : Int) / 2 = ((crc1 j r0 / 2 : Nat) : Int) :=by omega
     refine ⟨⟨j + 1,by omega,by simp,?_⟩,by simp;omega⟩
     rw [e1,e2,e3,bits_xor32 _ _ (by omega) (by omega),crc1_last]
     rfl
    ·have hj8 : j = 8 :=by omega
     subst hj8
     exact ⟨⟨k + 1,by omega,by simp,by rw [hnext]⟩,by simp;omega⟩
  all_goals
   have hk' : k = len :=by omega
   subst hk'
   have ht : l.take k = l :=List.take_of_length_le (by omega)
   have hr : crcL l 4294967295 < 4294967296 :=crcL_lt (by omega) hx
   go_ret
   all_goals first
    | (exfalso;revert h;decide)
    | skip
   all_goals
    refine ⟨?_,Like.refl _⟩
    rw [ht]
    have e : bits .xor .u32 IntKind.u32.max ((crcL l 4294967295 : Nat) : Int) = ((4294967295 ^^^ crcL l 4294967295 : Nat) : Int) :=bits_xor32 4294967295 _ (by omega) hr
    rw [e,Nat.xor_comm];rfl
set_option maxHeartbeats 2000000
set_option maxRecDepth 100000 in
theorem sum_empty (w : World) (a : Option Addr) (cap : Nat) :
  Calls Tryz.prog 172 #[.slice a 0 cap] w fun e w' => e = .returned (.int .u32 ((Nat.xor (crcL [] 4294967295) 4294967295 : Nat) : Int)) ∧ Like w' w :=by
 go_enter Tryz.func172,Tryz.ntmps172
 go_wp2
 go_loop [3,9] (fun t i => i = .int .i64 0 ∧ t = .int .u32 4294967295) (fun _ _ => 0)
 case atStart => exact ⟨rfl,rfl⟩
 case round =>
  obtain ⟨rfl,rfl⟩ :=hrel
  go_wp2
  all_goals go_ret
  all_goals
   refine ⟨?_,Like.refl _⟩
   have e : bits .xor .u32 IntKind.u32.max ((4294967295 : Nat) : Int) = ((4294967295 ^^^ 4294967295 : Nat) : Int) :=bits_xor32 4294967295 4294967295 (by omega) (by omega)
   show Ending.returned (Value.int .u32 (bits .xor .u32 IntKind.u32.max ((4294967295 : Nat) : Int))) = _
   rw [e];rfl
theorem sumAt : SumAt Tryz.prog 172 :=
 ⟨fun w b off len cap l h1 h2 h3 h4 => sum_full w b off len cap l h1 h2 h3 h4,fun w a cap => sum_empty w a cap⟩
end Go.Proofs.YtlafgnanfkhobaaGreatDoor

namespace Go.Proofs.YtlafgnanfkhobaaGreatDoor
set_option linter.all false
set_option linter.unusedSimpArgs false
set_option linter.unusedVariables false
open Go Go.Ideal
set_option linter.unusedVariables false
theorem next_any (w : World) (bm clock : Nat) (seen : Array Nat) (es : Array MapEntry) (hb : w.heap[bm]? = some (.map es clock)) (hold : ∀ x ∈ es.toList,x.born < clock) :
  ((leftOf es seen).size = 0 ∧ ∀ ty,(Instr.next (.pointer (some ⟨w.heap.size,0,none⟩)) false ty).run Tryz.prog (w.alloc (.mapIter (some bm) clock seen clock)) = .ok (.tuple #[.bool false]) (w.alloc (.mapIter (some bm) clock seen clock))) ∨
  ∃ e ∈ (leftOf es seen).toList,∃ w1 : World,Like w1 w ∧ ∀ ty,(Instr.next (.pointer (some ⟨w.heap.size,0,none⟩)) false ty).run Tryz.prog (w.alloc (.mapIter (some bm) clock seen clock)) =
   .ok (.tuple #[.bool true,e.key,e.val]) (w1.alloc (.mapIter (some bm) clock (seen.push e.born) clock)) :=by
 have hlt : bm < w.heap.size :=(Array.getElem?_eq_some_iff.1 hb).1
 have g1 : (getObj w.heap.size).run Tryz.prog (w.alloc (.mapIter (some bm) clock seen clock)) = .ok (.mapIter (some bm) clock seen clock) (w.alloc (.mapIter (some bm) clock seen clock)) :=by
  simp only [getObj,Sem.run,heap_alloc_new]
 have g2 : (getObj bm).run Tryz.prog (w.alloc (.mapIter (some bm) clock seen clock)) = .ok (.map es clock) (w.alloc (.mapIter (some bm) clock seen clock)) :=by
  simp [getObj,Sem.run,heap_alloc_old w _ hlt,hb]
 have g3 :=next_test_false seen es clock clock hold (Nat.le_refl _)
 have o1 : (leftOf es seen).filter (fun e => decide (e.born < clock)) = leftOf es seen :=Array.filter_eq_self.2 fun x hx => by
  simpa using hold x (mem_left (by simpa using hx)).1
 have o2 : (leftOf es seen).filter (fun e => decide (e.born ≥ clock)) = #[] :=by
  rw [Array.filter_eq_empty_iff]
  intro x hx
  have :=hold x (mem_left (by simpa using hx)).1
  simp;omega
 have hF : (es.filter fun e => !seen.contains e.born) = leftOf es seen :=rfl
 generalize hL : leftOf es seen = F at *
 by_cases h0 : F.size = 0
 ·refine .inl ⟨h0,fun ty => ?_⟩
  have : F = #[] :=Array.eq_empty_of_size_eq_zero h0
  subst this
  simp only [Instr.next,Sem.run_bind,g1,g2,Result.andThen_ok,g3,Bool.false_eq_true,if_false,hF]
  simp [Question.forced]
 ·have hne : F.isEmpty = false :=by simp [Array.isEmpty,h0]
  have hset : ∀ (w1 : World) (o : Obj),w1.heap = w.heap → (setObj w.heap.size o).run Tryz.prog (w1.alloc (.mapIter (some bm) clock seen clock)) = .ok () (w1.alloc o) :=by
   intro w1 o hh
   simp only [setObj,Sem.run]
   have : (w1.alloc (.mapIter (some bm) clock seen clock)).heap[w.heap.size]? = some (.mapIter (some bm) clock seen clock) :=by rw [← hh];exact heap_alloc_new _ _
   rw [this]
   show Result.ok () ({ w1.alloc (.mapIter (some bm) clock seen clock) with heap :=(w1.heap.push _).setIfInBounds w.heap.size o } : World) = _
   have hp : (w1.heap.push (.mapIter (some bm) clock seen clock)).setIfInBounds w.heap.size o = w1.heap.push o :=by
    rw [← hh]
    apply Array.toList_inj.1
    simp
   rw [hp];rfl
  obtain ⟨j,w1,hj,hal,hrun⟩ : ∃ (j : Nat) (w1 : World),j < F.size ∧ Like w1 w ∧ (choose (Question.mapNext F.size)).run Tryz.prog (w.alloc (.mapIter (some bm) clock seen clock)) = .ok j (w1.alloc (.mapIter (some bm) clock seen clock)) :=by
   by_cases hf : F.size ≤ 1
   ·exact ⟨0,w,by omega,Like.refl _,by simp [run_choose,Question.forced,hf]⟩
   ·refine ⟨w.tape w.drawn (.mapNext F.size) % F.size,w.drew,Nat.mod_lt _ (show 0 < F.size by omega),⟨rfl,rfl,rfl,rfl⟩,?_⟩
    rw [run_choose]
    simp only [Question.forced,decide_eq_true_eq,hf,if_false,Question.cut]
    rfl
  refine .inr ⟨F[j],by simp,w1,hal,fun ty => ?_⟩
  simp only [Instr.next,Sem.run_bind,g1,g2,Result.andThen_ok,g3,Bool.false_eq_true,if_false,hF,o1,o2,hne,Array.append_empty,Array.empty_append,Array.size_map,hrun,Array.getElem?_map,Array.getElem?_eq_getElem hj,Option.map_some,hset w1 _ hal.heap,Sem.run_pure]
theorem cell_old (w : World) (x : Obj) {r o : Nat} (h : r < w.heap.size) : (w.alloc x).cell? ⟨r,o,none⟩ = w.cell? ⟨r,o,none⟩ :=by
 simp only [World.cell?,heap_alloc_old w x h]
def seenC (c : MapEntry → Nat) : List MapEntry → Array Nat → Nat
 | [],_ => 0
 | x :: l,seen => (if seen.contains x.born then c x else 0) + seenC c l seen
theorem seenC_none (c : MapEntry → Nat) : ∀ l,seenC c l #[] = 0
 | [] => rfl
 | x :: l => by simp [seenC,seenC_none c l]
theorem seenC_le (c : MapEntry → Nat) (seen : Array Nat) : ∀ l : List MapEntry,seenC c l seen ≤ (l.map c).sum
 | [] => Nat.le_refl _
 | x :: l => by
  have :=seenC_le c seen l
  simp only [seenC,List.map_cons,List.sum_cons]
  split <;> omega
theorem seenC_other (c : MapEntry → Nat) (seen : Array Nat) (b : Nat) : ∀ l : List MapEntry,b ∉ l.map (·.born) → seenC c l (seen.push b) = seenC c l seen
 | [],_ => rfl
 | x :: l,h => by
  simp only [List.map_cons,List.mem_cons,not_or] at h
  have : (x.born == b) = false :=by simpa using fun e => h.1 e.symm
  simp only [seenC,contains_push,this,Bool.or_false,seenC_other c seen b l h.2]
theorem seenC_push (c : MapEntry → Nat) (seen : Array Nat) (e : MapEntry) (hs : seen.contains e.born = false) : ∀ l : List MapEntry,(l.map (·.born)).Nodup → e ∈ l → seenC c l (seen.push e.born) = seenC c l seen + c e
 | x :: l,hn,he => by
  have hn' :=List.nodup_cons.1 hn
  by_cases hx : x = e
  ·subst hx
   simp only [seenC,contains_push,hs,beq_self_eq_true,Bool.or_true,if_true,Bool.false_eq_true,if_false,seenC_other c seen x.born l hn'.1]
   omega
  ·have hm : e ∈ l :=by
    rcases List.mem_cons.1 he with h | h
    ·exact absurd h.symm hx
    ·exact h
   have : (x.born == e.born) = false :=by
    have : x.born ≠ e.born :=fun h => hn'.1 (List.mem_map.2 ⟨e,hm,h.symm⟩)
    simpa using this
   simp only [seenC,contains_push,this,Bool.or_false,seenC_push c seen e hs l hn'.2 hm]
   omega
theorem seenC_all (c : MapEntry → Nat) (es : Array MapEntry) (seen : Array Nat) (h : (leftOf es seen).size = 0) : seenC c es.toList seen = (es.toList.map c).sum :=by
 have :=all_seen es seen h
 revert this
 generalize es.toList = l
 induction l with
 | nil => intro _;rfl
 | cons x l ih =>
  intro h
  simp only [seenC,h x List.mem_cons_self,if_true,List.map_cons,List.sum_cons,ih fun y hy => h y (List.mem_cons_of_mem _ hy)]
set_option maxHeartbeats 2000000
set_option maxRecDepth 100000 in
theorem fitsAt : FitsAt Tryz.prog 201 130 :=by
 intro w dr dof bm es clock sv size room c h1 h2 hb hold hnd hv hbig
 have hlt : bm < w.heap.size :=(Array.getElem?_eq_some_iff.1 hb).1
 have hlr : dr < w.heap.size :=by
  rcases Nat.lt_or_ge dr w.heap.size with h | h
  ·exact h
  ·simp [World.cell?,Array.getElem?_eq_none h] at h1
 have hrg :=run_range_map (P :=Tryz.prog) w 106 9 130 bm es clock Tryz.underlying106 hb
 go_enter Tryz.func201,Tryz.ntmps201
 go_wp2
 go_loopw [2] (fun s w' => ∃ (w1 : World) (seen : Array Nat),Like w1 w ∧ w' = w1.alloc (.mapIter (some bm) clock seen clock) ∧ s = .int .i64 ((size + seenC c es.toList seen : Nat) : Int)) (fun _ w' => (leftOf es (w'.iterSeen w.heap.size)).size)
 case atStart => exact ⟨w,#[],Like.refl _,rfl,by rw [seenC_none];rfl⟩
 case round =>
  obtain ⟨w1,seen,hal,rfl,rfl⟩ :=hrel
  have hsz : w1.heap.size = w.heap.size :=by rw [hal.heap]
  have hb1 : w1.heap[bm]? = some (.map es clock) :=by rw [hal.heap];exact hb
  have law :=next_any w1 bm clock seen es hb1 hold
  rw [hsz] at law
  rcases law with ⟨h0,hrun⟩ | ⟨e,he,w2,hal2,hrun⟩
  ·have q1 : (w1.alloc (.mapIter (some bm) clock seen clock)).cell? ⟨dr,dof,none⟩ = some (Value.int .i64 room) :=by
    have hlt1 : dr < w1.heap.size :=by omega
    rw [cell_old w1 _ hlt1,← h1];simp only [World.cell?,hal.heap]
   go_wp2
   go_ret
   refine ⟨?_,w1,_,hal,rfl⟩
   rw [← seenC_all c es seen h0]
   simp
  ·obtain ⟨r,o,base,len,cap,b,v1,v2,v3,v4,v5⟩ :=hv e (mem_left he).1
   rw [v1] at hrun
   have hsz2 : w2.heap.size = w.heap.size :=by rw [hal2.heap,hal.heap]
   have hb2 : w2.heap[bm]? = some (.map es clock) :=by rw [hal2.heap];exact hb1
   have hen :=run_entry_map (P :=Tryz.prog) w2 bm clock seen es clock e hb2 (mem_left he).1 hnd
   rw [hsz2,v1] at hen
   have hcmp :=v4 w2 (.mapIter (some bm) clock (seen.push e.born) clock) (hal2.trans hal)
   have q2 : (w2.alloc (.mapIter (some bm) clock (seen.push e.born) clock)).cell? ⟨r,o,none⟩ = some (Value.slice base len cap) :=by
    have hlt1 : r < w2.heap.size :=by omega
    rw [cell_old w2 _ hlt1,← v3];simp only [World.cell?,hal2.heap,hal.heap]
   have hcmp2 : (binOp .neq 130 (.pointer (some ⟨r,o,none⟩)) sv).run Tryz.prog (w2.alloc (.mapIter (some bm) clock (seen.push e.born) clock)) = .ok (.bool (!b)) (w2.alloc (.mapIter (some bm) clock (seen.push e.born) clock)) :=by
    rw [Ideal.binOp_eql (.inr rfl) rfl]
    simp only [Sem.run_bind,hcmp,Result.andThen_ok,Sem.run_pure]
    rfl
   have hpush :=seenC_push c seen e (mem_left he).2 es.toList hnd (mem_left he).1
   have hle :=seenC_le c (seen.push e.born) es.toList
   have hmeas : (leftOf es ((w2.alloc (.mapIter (some bm) clock (seen.push e.born) clock)).iterSeen w.heap.size)).size < (leftOf es ((w1.alloc (.mapIter (some bm) clock seen clock)).iterSeen w.heap.size)).size :=by
    rw [← hsz2,World.iterSeen_alloc,hsz2,← hsz,World.iterSeen_alloc]
    exact left_shrinks es seen e he
   cases b
   ·simp only [Bool.not_false] at hcmp2
    simp only [Bool.false_eq_true,if_false] at v5
    go_wp2
    go_roundw
    case rel =>
     refine ⟨w2,seen.push e.born,hal2.trans hal,rfl,?_⟩
     have e2 : (size : Int) + (seenC c es.toList seen : Int) + (len : Int) = ((size + seenC c es.toList (seen.push e.born) : Nat) : Int) :=by omega
     rw [e2]
    case measure => exact hmeas
   ·simp only [Bool.not_true] at hcmp2
    simp only [if_true] at v5
    go_wp2
    go_roundw
    case rel =>
     refine ⟨w2,seen.push e.born,hal2.trans hal,rfl,?_⟩
     rw [hpush,v5];rfl
    case measure => exact hmeas
end Go.Proofs.YtlafgnanfkhobaaGreatDoor

namespace Go.Proofs
set_option linter.all false
set_option linter.unusedSimpArgs false
set_option linter.unusedVariables false
open Go.Shelf Go.RowKit Go.Maps Go.Sort
def Tryz.keys_ren : Go.Shelf.Ren :=⟨fun | 7 => 58 | 10 => 87 | n => n,fun | 23 => 106 | 26 => 9 | 3 => 130 | 28 => 136 | 0 => 0 | 27 => 135 | 33 => 144 | 4 => 4 | n => n,fun | n => n⟩
theorem Tryz.keys : Go.Proofs.SlLaysZ.n7 Tryz.prog Tryz.keys_ren :={
 mixed :=by kernel_rfl
 f7 :=⟨Tryz.f58.name,by decide,Tryz.func58.trans (congrArg some (by kernel_rfl))⟩
 f10 :=⟨Tryz.f87.name,by decide,Tryz.func87.trans (congrArg some (by kernel_rfl))⟩
 t0 :=Tryz.underlying0
 a0 :=Tryz.isAgg0
 z0 :=Tryz.sizeOf0
 v0 :=Tryz.zeroValue0
 t4 :=Tryz.underlying4
 a4 :=Tryz.isAgg4
 z4 :=Tryz.sizeOf4
 v4 :=Tryz.zeroValue4
 t23 :=Tryz.underlying106
 a23 :=Tryz.isAgg106
 z23 :=Tryz.sizeOf106
 v23 :=Tryz.zeroValue106
 t26 :=Tryz.underlying9
 a26 :=Tryz.isAgg9
 z26 :=Tryz.sizeOf9
 v26 :=Tryz.zeroValue9
 t27 :=Tryz.underlying135
 a27 :=Tryz.isAgg135
 z27 :=Tryz.sizeOf135
 v27 :=Tryz.zeroValue135
 t28 :=Tryz.underlying136
 a28 :=Tryz.isAgg136
 z28 :=Tryz.sizeOf136
 v28 :=Tryz.zeroValue136
 t33 :=Tryz.underlying144
 a33 :=Tryz.isAgg144
 z33 :=Tryz.sizeOf144
 v33 :=Tryz.zeroValue144 }
def Tryz.sorted_ren : Go.Shelf.Ren :=⟨fun | 6 => 57 | 8 => 85 | 9 => 86 | 11 => 129 | 13 => 131 | 12 => 130 | 23 => 196 | 24 => 197 | 14 => 187 | 15 => 188 | 16 => 189 | 17 => 190 | 18 => 191 | 19 => 192 | 20 => 193 | 21 => 194 | 22 => 195 | 25 => 251 | 26 => 252 | 27 => 253 | 28 => 254 | 29 => 255 | 30 => 256 | 31 => 290 | n => n,fun | 26 => 9 | 28 => 136 | 24 => 44 | 0 => 0 | 3 => 3 | 37 => 79 | 48 => 268 | 50 => 52 | 4 => 4 | 40 => 295 | 39 => 294 | 45 => 300 | 5 => 5 | 9 => 9 | 51 => 373 | 55 => 376 | 57 => 425 | 58 => 426 | 33 => 144 | n => n,fun | n => n⟩
theorem Tryz.sorted : Go.Proofs.SlLaysZ.n6 Tryz.prog Tryz.sorted_ren :={
 mixed :=by kernel_rfl
 f6 :=⟨Tryz.f57.name,by decide,Tryz.func57.trans (congrArg some (by kernel_rfl))⟩
 f8 :=⟨Tryz.f85.name,by decide,Tryz.func85.trans (congrArg some (by kernel_rfl))⟩
 f11 :=⟨Tryz.f129.name,by decide,Tryz.func129.trans (congrArg some (by kernel_rfl))⟩
 t0 :=Tryz.underlying0
 a0 :=Tryz.isAgg0
 z0 :=Tryz.sizeOf0
 v0 :=Tryz.zeroValue0
 t24 :=Tryz.underlying44
 a24 :=Tryz.isAgg44
 z24 :=Tryz.sizeOf44
 v24 :=Tryz.zeroValue44
 t26 :=Tryz.underlying9
 a26 :=Tryz.isAgg9
 z26 :=Tryz.sizeOf9
 v26 :=Tryz.zeroValue9
 t28 :=Tryz.underlying136
 a28 :=Tryz.isAgg136
 z28 :=Tryz.sizeOf136
 v28 :=Tryz.zeroValue136
 i26 :=by kernel_rfl }
def Tryz.sort_ren : Go.Shelf.Ren :=⟨fun | 6 => 86 | 8 => 131 | 9 => 130 | 19 => 196 | 20 => 197 | 21 => 187 | 22 => 188 | 23 => 189 | 24 => 190 | 25 => 191 | 26 => 192 | 27 => 193 | 28 => 194 | 29 => 195 | 36 => 251 | 31 => 252 | 32 => 253 | 37 => 254 | 38 => 255 | 39 => 256 | 41 => 290 | n => n,fun | 27 => 44 | 29 => 9 | 3 => 3 | 32 => 79 | 26 => 44 | 0 => 0 | 44 => 268 | 46 => 52 | 4 => 4 | 36 => 295 | 35 => 294 | 41 => 300 | 5 => 5 | 9 => 9 | 53 => 373 | 57 => 376 | 63 => 425 | 64 => 426 | n => n,fun | n => n⟩
theorem Tryz.sort : Go.Proofs.SlLaysM.n6 Tryz.prog Tryz.sort_ren :={
 mixed :=by kernel_rfl
 f6 :=⟨Tryz.f86.name,by decide,Tryz.func86.trans (congrArg some (by kernel_rfl))⟩
 f8 :=Tryz.func131.trans (congrArg some (by kernel_rfl))
 f9 :=⟨Tryz.f130.name,by decide,Tryz.func130.trans (congrArg some (by kernel_rfl))⟩
 f19 :=Tryz.func196.trans (congrArg some (by kernel_rfl))
 f20 :=Tryz.func197.trans (congrArg some (by kernel_rfl))
 f21 :=⟨Tryz.f187.name,by decide,Tryz.func187.trans (congrArg some (by kernel_rfl))⟩
 f22 :=⟨Tryz.f188.name,by decide,Tryz.func188.trans (congrArg some (by kernel_rfl))⟩
 f23 :=⟨Tryz.f189.name,by decide,Tryz.func189.trans (congrArg some (by kernel_rfl))⟩
 f24 :=⟨Tryz.f190.name,by decide,Tryz.func190.trans (congrArg some (by kernel_rfl))⟩
 f25 :=⟨Tryz.f191.name,by decide,Tryz.func191.trans (congrArg some (by kernel_rfl))⟩
 f26 :=⟨Tryz.f192.name,by decide,Tryz.func192.trans (congrArg some (by kernel_rfl))⟩
 f27 :=⟨Tryz.f193.name,by decide,Tryz.func193.trans (congrArg some (by kernel_rfl))⟩
 f28 :=⟨Tryz.f194.name,by decide,Tryz.func194.trans (congrArg some (by kernel_rfl))⟩
 f29 :=⟨Tryz.f195.name,by decide,Tryz.func195.trans (congrArg some (by kernel_rfl))⟩
 f31 :=Tryz.func252.trans (congrArg some (by kernel_rfl))
 f32 :=Tryz.func253.trans (congrArg some (by kernel_rfl))
 f36 :=⟨Tryz.f251.name,by decide,Tryz.func251.trans (congrArg some (by kernel_rfl))⟩
 f37 :=⟨Tryz.f254.name,by decide,Tryz.func254.trans (congrArg some (by kernel_rfl))⟩
 f38 :=⟨Tryz.f255.name,by decide,Tryz.func255.trans (congrArg some (by kernel_rfl))⟩
 f39 :=⟨Tryz.f256.name,by decide,Tryz.func256.trans (congrArg some (by kernel_rfl))⟩
 f41 :=⟨Tryz.f290.name,by decide,Tryz.func290.trans (congrArg some (by kernel_rfl))⟩
 t0 :=Tryz.underlying0
 a0 :=Tryz.isAgg0
 z0 :=Tryz.sizeOf0
 v0 :=Tryz.zeroValue0
 t3 :=Tryz.underlying3
 a3 :=Tryz.isAgg3
 z3 :=Tryz.sizeOf3
 v3 :=Tryz.zeroValue3
 t4 :=Tryz.underlying4
 a4 :=Tryz.isAgg4
 z4 :=Tryz.sizeOf4
 v4 :=Tryz.zeroValue4
 t5 :=Tryz.underlying5
 a5 :=Tryz.isAgg5
 z5 :=Tryz.sizeOf5
 v5 :=Tryz.zeroValue5
 t9 :=Tryz.underlying9
 a9 :=Tryz.isAgg9
 z9 :=Tryz.sizeOf9
 v9 :=Tryz.zeroValue9
 t26 :=Tryz.underlying44
 a26 :=Tryz.isAgg44
 z26 :=Tryz.sizeOf44
 v26 :=Tryz.zeroValue44
 t27 :=Tryz.underlying44
 a27 :=Tryz.isAgg44
 z27 :=Tryz.sizeOf44
 v27 :=Tryz.zeroValue44
 t29 :=Tryz.underlying9
 a29 :=Tryz.isAgg9
 z29 :=Tryz.sizeOf9
 v29 :=Tryz.zeroValue9
 t32 :=Tryz.underlying79
 a32 :=Tryz.isAgg79
 z32 :=Tryz.sizeOf79
 v32 :=Tryz.zeroValue79
 t35 :=Tryz.underlying294
 a35 :=Tryz.isAgg294
 z35 :=Tryz.sizeOf294
 v35 :=Tryz.zeroValue294
 t36 :=Tryz.underlying295
 a36 :=Tryz.isAgg295
 z36 :=Tryz.sizeOf295
 v36 :=Tryz.zeroValue295
 t41 :=Tryz.underlying300
 a41 :=Tryz.isAgg300
 z41 :=Tryz.sizeOf300
 v41 :=Tryz.zeroValue300
 t44 :=Tryz.underlying268
 a44 :=Tryz.isAgg268
 z44 :=Tryz.sizeOf268
 v44 :=Tryz.zeroValue268
 t46 :=Tryz.underlying52
 a46 :=Tryz.isAgg52
 z46 :=Tryz.sizeOf52
 v46 :=Tryz.zeroValue52
 t53 :=Tryz.underlying373
 a53 :=Tryz.isAgg373
 z53 :=Tryz.sizeOf373
 v53 :=Tryz.zeroValue373
 t57 :=Tryz.underlying376
 a57 :=Tryz.isAgg376
 z57 :=Tryz.sizeOf376
 v57 :=Tryz.zeroValue376
 t63 :=Tryz.underlying425
 a63 :=Tryz.isAgg425
 z63 :=Tryz.sizeOf425
 v63 :=Tryz.zeroValue425
 t64 :=Tryz.underlying426
 a64 :=Tryz.isAgg426
 z64 :=Tryz.sizeOf426
 v64 :=Tryz.zeroValue426 }
theorem Tryz.sorts (m : Nat) : AnyZ.SortsIn Tryz.prog Tryz.sorted_ren Fence.wide m :=
 ⟨fun blk off cap ss W hH hblk hsz => callsIn_wide.2 (AnyM.slices_Sort_string Tryz.sort blk off cap ss W hH hblk hsz),
  fun p cap W => callsIn_wide.2 (AnyM.slices_Sort_string_none Tryz.sort p cap W)⟩
set_option maxHeartbeats 1000000 in
theorem Tryz.sortedAt : Ideal.SortedAt Tryz.prog 57 87 9 :=by
 refine ⟨fun w cb b Rd nn D0 hc hown hsz => ?_,fun w cb hc => ?_⟩
 ·have hcb : cb < w.heap.size :=by
   rcases Nat.lt_or_ge cb w.heap.size with h | h
   ·exact h
   ·simp [World.cell?,Array.getElem?_eq_none h] at hc
  have hseq : SeqGives Fence.wide 2 Tryz.prog 87 #[.pointer (some ⟨cb,0,none⟩)] encStr (fun ss => ss.Perm (strKeys D0)) (Maps.size D0) w :=
   AnyZ.keys_gives (ρ :=Tryz.keys_ren) { Tryz.keys with } Fence.wide _ trivial rfl (by omega) cb b nn D0 w hcb hc hown
  exact callsIn_wide.1 (AnyZ.sorted_in Tryz.sorted Fence.wide 5 trivial trivial trivial trivial rfl (by omega) (Tryz.sorts _) (enters_of Tryz.func86 (by kernel_rfl) rfl) 87 #[.pointer (some ⟨cb,0,none⟩)] trivial
   (enters_of Tryz.func87 (by kernel_rfl) rfl) _ _ (by unfold maxLen;omega) (by omega) w hseq)
 ·have hcb : cb < w.heap.size :=by
   rcases Nat.lt_or_ge cb w.heap.size with h | h
   ·exact h
   ·simp [World.cell?,Array.getElem?_eq_none h] at hc
  have hseq : SeqGives Fence.wide 2 Tryz.prog 87 #[.pointer (some ⟨cb,0,none⟩)] encStr (fun ss : List (List UInt8) => ss = []) 0 w :=
   AnyZ.keys_gives_nil (ρ :=Tryz.keys_ren) { Tryz.keys with } Fence.wide _ trivial rfl cb w hcb hc
  refine (callsIn_wide.1 (AnyZ.sorted_in Tryz.sorted Fence.wide 5 trivial trivial trivial trivial rfl (by omega) (Tryz.sorts _) (enters_of Tryz.func86 (by kernel_rfl) rfl) 87 #[.pointer (some ⟨cb,0,none⟩)] trivial
   (enters_of Tryz.func87 (by kernel_rfl) rfl) _ 0 (Nat.zero_le _) (by omega) w hseq)).mono ?_
  rintro e w' ⟨v,ss,rfl,hS,hrow,hnil,hb⟩
  exact ⟨by rw [hnil.2 hS],hb⟩
end Go.Proofs

namespace Go.Proofs.YtlafgnanfkhobaaGreatDoor
set_option linter.all false
set_option linter.unusedSimpArgs false
set_option linter.unusedVariables false
open Go Go.Ideal
noncomputable def zE0 : Env :=mkEnv Tryz.prog (fun _ => false) (fun _ => none) (fun _ => none)
noncomputable def zIntr : FuncId → Option (List Value → M Value) :=fun f =>
 cond (Nat.beq f 57) (some (sortedM 87 9)) (cond (Nat.beq f 201) (some (fitsM zE0 130)) (cond (Nat.beq f 172) (some sumM) none))
noncomputable def zExt : FuncId → Option (List Value → M Value) :=fun f =>
 cond (Nat.beq f 276) (some compareM) (cond (Nat.beq f 88) (some cloneM) none)
noncomputable def zE : Env :=mkEnv Tryz.prog (fun _ => false) zIntr zExt
theorem zMixed : Tryz.prog.follows .mixedOrders = true :=by kernel_rfl
theorem zNames : (Tryz.prog.funcs.toList.all fun fn => !(fn.name == "runtime.NumGoroutine")) = true := by kernel_rfl
theorem zIntr_cases {f : FuncId} {g : List Value → M Value} (h : zIntr f = some g) : (f = 57 ∧ g = sortedM 87 9) ∨ (f = 201 ∧ g = fitsM zE0 130) ∨ (f = 172 ∧ g = sumM) :=by
 unfold zIntr at h
 cases h1 : Nat.beq f 57 with
 | true => rw [h1] at h;cases h;exact .inl ⟨Nat.eq_of_beq_eq_true h1,rfl⟩
 | false =>
  rw [h1] at h
  cases h2 : Nat.beq f 201 with
  | true => rw [h2] at h;cases h;exact .inr (.inl ⟨Nat.eq_of_beq_eq_true h2,rfl⟩)
  | false =>
   rw [h2] at h
   cases h3 : Nat.beq f 172 with
   | true => rw [h3] at h;cases h;exact .inr (.inr ⟨Nat.eq_of_beq_eq_true h3,rfl⟩)
   | false => rw [h3] at h;cases h
theorem zExt_cases {f : FuncId} {g : List Value → M Value} (h : zExt f = some g) : (f = 276 ∧ g = compareM) ∨ (f = 88 ∧ g = cloneM) :=by
 unfold zExt at h
 cases h1 : Nat.beq f 276 with
 | true => rw [h1] at h;cases h;exact .inl ⟨Nat.eq_of_beq_eq_true h1,rfl⟩
 | false =>
  rw [h1] at h
  cases h2 : Nat.beq f 88 with
  | true => rw [h2] at h;cases h;exact .inr ⟨Nat.eq_of_beq_eq_true h2,rfl⟩
  | false => rw [h2] at h;cases h
theorem enters {f : FuncId} {fn : Func} (h : Tryz.prog.funcs[f]? = some fn) (h1 : (fn.name == "runtime.NumGoroutine") = false) (h2 : fn.body.isNone = false) : Ideal.Enters Tryz.prog f := ⟨fn, h, h1, h2⟩
theorem zGood : Ideal.Good Tryz.prog zE :=by
 refine ⟨mkEnv_ok zMixed,⟨fun f g h => ?_,fun f g h => ?_⟩,fun N0 => ⟨fun f g h => ?_,fun f g h => ?_,names_ok zNames⟩,fun _ => rfl⟩
 ·rcases zIntr_cases h with ⟨rfl,rfl⟩ | ⟨rfl,rfl⟩ | ⟨rfl,rfl⟩
  ·exact resp_sortedM _ _
  ·exact resp_fitsM _
  ·exact resp_sumM
 ·rcases zExt_cases h with ⟨rfl,rfl⟩ | ⟨rfl,rfl⟩
  ·exact resp_compareM
  ·exact resp_cloneM
 ·rcases zExt_cases h with ⟨rfl,rfl⟩ | ⟨rfl,rfl⟩
  ·exact ext_compare Tryz.func276 (by kernel_rfl) (by kernel_rfl) (by kernel_rfl) (by kernel_rfl)
  ·exact ext_clone Tryz.func88 (by kernel_rfl) (by kernel_rfl) (by kernel_rfl) (by kernel_rfl)
 ·rcases zIntr_cases h with ⟨rfl,rfl⟩ | ⟨rfl,rfl⟩ | ⟨rfl,rfl⟩
  ·exact sorted_ok Tryz.underlying9 (enters Tryz.func57 (by kernel_rfl) (by kernel_rfl)) Tryz.sortedAt
  ·exact fits_ok (E :=zE0) (mkEnv_ok zMixed) (enters Tryz.func201 (by kernel_rfl) (by kernel_rfl)) fitsAt
  ·exact sum_ok (enters Tryz.func172 (by kernel_rfl) (by kernel_rfl)) sumAt
theorem zTrue {E : Env} (hG : Ideal.Good Tryz.prog E) {w : World} {f : FuncId} {l : List Value} (h : isTrue (callM E 100 f l S0) = true) (hl : l.all simple = true) {l' : Array Value} (e : l' = l.toArray) :
  Calls Tryz.prog f l' w fun e w' => e = .returned (.bool true) ∧ RowKit.Below w.heap.size w w' :=
 law_true hG.env hG.resp (hG.link _) hG.glob h hl e
end Go.Proofs.YtlafgnanfkhobaaGreatDoor

namespace Go.Proofs.YtlafgnanfkhobaaGreatDoor
set_option linter.all false
set_option linter.unusedSimpArgs false
set_option linter.unusedVariables false
open Go Go.Ideal
set_option maxRecDepth 100000
noncomputable def run5 : Bool :=isTrue (callM zE 100 5 [] S0)
theorem ran5 : run5 = true :=by kernel_rfl
theorem yes5 (w : World) : Calls Tryz.prog 5 #[] w fun e w' => e = .returned (.bool true) ∧ RowKit.Below w.heap.size w w' :=
 zTrue zGood (l :=[]) ran5 rfl rfl
end Go.Proofs.YtlafgnanfkhobaaGreatDoor

