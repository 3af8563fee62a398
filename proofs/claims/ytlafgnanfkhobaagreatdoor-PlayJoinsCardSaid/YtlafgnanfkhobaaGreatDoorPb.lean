import Derived.Test.YtlafgnanfkhobaaGreatDoorPa
import Derived.Test.YtlafgnanfkhobaaGreatDoorQE
namespace Go.Proofs.YtlafgnanfkhobaaGreatDoor.P2
open Go.RowKit Go.Proofs.YtlafgnanfkhobaaGreatDoorW.PrintWords Go.Proofs.YtlafgnanfkhobaaGreatDoorW.PrintLast Go.Proofs.YtlafgnanfkhobaaGreatDoorW.PrintMore
set_option linter.unusedVariables false
set_option linter.unusedSimpArgs false
def G (m : Nat) (s : ByteArray) : Prop :=∃ ys,V ys ∧ ys.length ≤ m ∧ s = strOfNums ys
theorem num_t {xs : List Int} (hx : V xs) (hl : xs.length ≤ 1000000000000) (b : Bool) (n : Nat) (h8 : n ≤ 8) : T (fun k => play_reader_num.f k (strOfNums xs) b n) (fun r => 0 ≤ r.1 ∧ r.1 < (256 : Int) ^ n ∧ G (xs.length - n) r.2.1) :=by
 by_cases hn : n ≤ xs.length
 ·have hb :=numOf_bound n (xs.take n) (by rw [List.length_take];omega) (hx.take n)
  exact T.of (num_ok hx hl b hn h8) ⟨hb.1,hb.2,xs.drop n,hx.drop n,by rw [List.length_drop];exact Nat.le_refl _,rfl⟩
 ·exact T.of (num_short hx b (by omega)) ⟨Int.le_refl _,p256pos n,[],V.nil,Nat.zero_le _,rfl⟩
theorem G.mono {m m' : Nat} {s : ByteArray} (h : G m s) (hm : m ≤ m') : G m' s :=by
 obtain ⟨ys,h1,h2,h3⟩ :=h
 exact ⟨ys,h1,by omega,h3⟩
theorem text_t {xs : List Int} (hx : V xs) (hl : xs.length ≤ 1000000000000) (b : Bool) : T (fun k => play_reader_text.f k (strOfNums xs) b) (fun r => V r.1 ∧ r.1.length ≤ 255 ∧ G xs.length r.2.1) :=by
 unfold play_reader_text.f
 refine T.bind (num_t hx hl b 1 (by decide)) ?_
 rintro ⟨x,s,b'⟩ ⟨h0,h1,ys,hy,hyl,rfl⟩
 have h1' : x < 256 :=h1
 have e : wrap64 x = ((x.toNat : Nat) : Int) :=by unfold wrap64;omega
 by_cases hn : x.toNat ≤ ys.length
 ·refine T.bind (Q :=fun r => r = (ys.take x.toNat,strOfNums (ys.drop x.toNat),b')) (T.congr (fun k => by show play_reader_bytes.f (strOfNums ys) b' (wrap64 x) = _;rw [e];exact bytes_ok hy (by omega) b' hn) (T.now _ rfl)) ?_
  rintro r rfl
  exact T.now _ ⟨hy.take _,by rw [List.length_take];show min x.toNat ys.length ≤ 255;omega,ys.drop x.toNat,hy.drop _,by rw [List.length_drop];omega,rfl⟩
 ·refine T.bind (Q :=fun r => r = ([],strOfNums [],true)) (T.congr (fun k => by show play_reader_bytes.f (strOfNums ys) b' (wrap64 x) = _;rw [e];exact bytes_short hy b' (by omega)) (T.now _ rfl)) ?_
  rintro r rfl
  exact T.now _ ⟨V.nil,by decide,[],V.nil,Nat.zero_le _,rfl⟩
def i64 (x : Int) : Prop :=-9223372036854775808 ≤ x ∧ x ≤ 9223372036854775807
def NEv (e : S85) : Prop :=okEv e ∧ V e.f1
def NPart (p : S83) : Prop :=p.f0.size ≤ 255 ∧ i64 p.f1 ∧ p.f2.length ≤ 6 ∧ ∀ e ∈ p.f2,NEv e
structure NReq (q : S46) : Prop where
 f0 : 0 ≤ q.f0 ∧ q.f0 ≤ 255
 id : q.f1.f0.size ≤ 255
 parts : q.f1.f1.length ≤ 5
 part : ∀ p ∈ q.f1.f1,NPart p
 f2 : q.f2.size ≤ 255
 f3 : q.f3.length ≤ 9
 f3s : ∀ s ∈ q.f3,s.size ≤ 255
 f4 : i64 q.f4
 f5 : V q.f5 ∧ q.f5.length ≤ 255
 f6 : 0 ≤ q.f6 ∧ q.f6 ≤ 65535
 f7 : 0 ≤ q.f7 ∧ q.f7 ≤ 65535
 f9 : V q.f9 ∧ q.f9.length ≤ 255
theorem i64_wrap (x : Int) : i64 (wrap64 x) :=by
 unfold i64 wrap64
 omega
theorem uwrap {x : Int} (h0 : 0 ≤ x) (h1 : x < 18446744073709551616) : IntKind.u64.wrap x = x :=by
 have : IntKind.u64.wrap x = x % 18446744073709551616 :=rfl
 omega
theorem tmod_small {x m : Int} (h0 : 0 ≤ x) (hm : 0 < m) : 0 ≤ Int.tmod x m ∧ Int.tmod x m < m :=⟨Int.tmod_nonneg _ h0,Int.tmod_lt_of_pos _ hm⟩
theorem l1_t {R : ByteArray × List S83 × ByteArray × Bool → Prop} {x5 : Int} {id : ByteArray} {ps : List S83} (hps : ps.length ≤ 100) {pn : ByteArray} {pe : Int} (hpn : pn.size ≤ 255) (hpe : i64 pe) (M : Nat)
  (hcont : ∀ ys b' p,V ys → ys.length ≤ M → NPart p → T (fun k => play_reader_commit.l0 k (IntKind.u64.wrap (x5 - 1)) (strOfNums ys) b' id (ps ++ [p])) R) :
  ∀ (m : Nat) (xs : List Int) (b : Bool) (acc : List S85),V xs → xs.length ≤ M → M ≤ 1000000000000 → m + acc.length ≤ 6 → (∀ e ∈ acc,NEv e) → T (fun k => play_reader_commit.l1 k x5 (m : Int) (strOfNums xs) b id ps pn pe acc) R
 | 0,xs,b,acc,hx,hl,hM,hm,ha => T.step (fun k => rfl) (T.no (by omega) (T.yes (by omega) (hcont xs b _ hx hl ⟨hpn,hpe,by show acc.length ≤ 6;omega,ha⟩)))
 | m + 1,xs,b,acc,hx,hl,hM,hm,ha => T.step (fun k => rfl) (T.yes (by omega) (by
   refine T.bind (text_t hx (by omega) b) ?_
   rintro ⟨t,s,b1⟩ ⟨t1,t2,ys,hy,hyl,rfl⟩
   refine T.bind (text_t hy (by omega) b1) ?_
   rintro ⟨d,s2,b2⟩ ⟨d1,d2,zs,hz,hzl,rfl⟩
   refine T.yes (by omega) ?_
   have e : IntKind.u64.wrap (((m + 1 : Nat) : Int) - 1) = (m : Int) :=by rw [uwrap (by omega) (by omega)];omega
   show T (fun k => play_reader_commit.l1 k x5 (IntKind.u64.wrap (((m + 1 : Nat) : Int) - 1)) (strOfNums zs) b2 id ps pn pe (acc ++ [⟨strOfNums t,d⟩])) R
   rw [e]
   refine l1_t hps hpn hpe M hcont m zs b2 _ hz (Nat.le_trans hzl (Nat.le_trans hyl hl)) hM (by simp only [List.length_append,List.length_singleton];omega) ?_
   intro x hxm
   rcases List.mem_append.1 hxm with h | h
   ·exact ha x h
   ·rw [List.mem_singleton.1 h]
    exact ⟨⟨by rw [st_size];exact t2,d2⟩,d1⟩))
theorem l0_t (id : ByteArray) (M : Nat) (hM : M ≤ 1000000000000) : ∀ (n : Nat) (xs : List Int) (b : Bool) (ps : List S83),V xs → xs.length ≤ M → n + ps.length ≤ 5 → (∀ p ∈ ps,NPart p) →
  T (fun k => play_reader_commit.l0 k (n : Int) (strOfNums xs) b id ps) (fun r => r.1 = id ∧ r.2.1.length ≤ 5 ∧ (∀ p ∈ r.2.1,NPart p) ∧ G M r.2.2.1)
 | 0,xs,b,ps,hx,hl,hn,hp => by
  refine T.congr (g :=fun k => play_reader_commit.l0 k ((0 : Nat) : Int) (strOfNums xs) b id ps) (fun k => rfl) (T.step (f :=fun k => some (id,ps,strOfNums xs,b)) (fun k => ?_) (T.now _ ⟨rfl,by show ps.length ≤ 5;omega,hp,xs,hx,hl,rfl⟩))
  unfold play_reader_commit.l0
  exact if_neg (by decide)
 | n + 1,xs,b,ps,hx,hl,hn,hp => T.step (fun k => rfl) (T.yes (by omega) (by
   refine T.bind (text_t hx (by omega) b) ?_
   rintro ⟨t,s,b1⟩ ⟨t1,t2,ys,hy,hyl,rfl⟩
   refine T.bind (num_t hy (by omega) b1 8 (by decide)) ?_
   rintro ⟨x,s2,b2⟩ ⟨_,_,zs,hz,hzl,rfl⟩
   refine T.bind (num_t hz (by omega) b2 1 (by decide)) ?_
   rintro ⟨c,s3,b3⟩ ⟨c0,_,us,hu,hul,rfl⟩
   obtain ⟨m0,m1⟩ :=tmod_small (m :=7) c0 (by decide)
   obtain ⟨m,hm⟩ :=Int.eq_ofNat_of_zero_le m0
   show T (fun k => play_reader_commit.l1 k _ (Int.tmod c 7) (strOfNums us) b3 id ps (strOfNums t) (wrap64 x) []) _
   rw [hm]
   refine l1_t (by omega) (by rw [st_size];exact t2) (i64_wrap x) M ?_ m us b3 [] hu (by omega) hM (by simp only [List.length_nil];omega) (fun e he => by cases he)
   intro vs b' p hv hvl hpp
   have e : IntKind.u64.wrap (((n + 1 : Nat) : Int) - 1) = (n : Int) :=by rw [uwrap (by omega) (by omega)];omega
   rw [e]
   refine l0_t id M hM n vs b' _ hv hvl (by simp only [List.length_append,List.length_singleton];omega) ?_
   intro z hzm
   rcases List.mem_append.1 hzm with h | h
   ·exact hp z h
   ·rw [List.mem_singleton.1 h];exact hpp))
theorem commit_t {xs : List Int} (hx : V xs) (hl : xs.length ≤ 1000000000000) (b : Bool) : T (fun k => play_reader_commit.f k (strOfNums xs) b) (fun r => r.1.size ≤ 255 ∧ r.2.1.length ≤ 5 ∧ (∀ p ∈ r.2.1,NPart p) ∧ G xs.length r.2.2.1) :=by
 unfold play_reader_commit.f
 refine T.bind (text_t hx hl b) ?_
 rintro ⟨t,s,b1⟩ ⟨t1,t2,ys,hy,hyl,rfl⟩
 refine T.bind (num_t hy (by omega) b1 1 (by decide)) ?_
 rintro ⟨c,s3,b3⟩ ⟨c0,_,us,hu,hul,rfl⟩
 obtain ⟨m0,m1⟩ :=tmod_small (m :=6) c0 (by decide)
 obtain ⟨m,hm⟩ :=Int.eq_ofNat_of_zero_le m0
 show T (fun k => play_reader_commit.l0 k (Int.tmod c 6) (strOfNums us) b3 (strOfNums t) []) _
 rw [hm]
 refine (l0_t (strOfNums t) xs.length hl m us b3 [] hu (by omega) (by simp only [List.length_nil];omega) (fun e he => by cases he)).mono ?_
 rintro ⟨i,ps,s4,b4⟩ ⟨h1,h2,h3,h4⟩
 exact ⟨by rw [h1,st_size];exact t2,h2,h3,h4⟩
end Go.Proofs.YtlafgnanfkhobaaGreatDoor.P2
