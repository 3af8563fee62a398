/- Texts of this claim, joined. -/
import Derived.Test.YtlafgnanfkhobaaGreatDoorQ4
import Derived.Test.YtlafgnanfkhobaaGreatDoorQE
import Derived.LoopTactic
import Derived.LoopN
import Derived.Test.YtlafgnanfkhobaaGreatDoorQA3
import Derived.Test.YtlafgnanfkhobaaGreatDoorQT
set_option linter.all false
namespace Go.Proofs.YtlafgnanfkhobaaGreatDoor.P2
open Go.RowKit Go.Proofs.YtlafgnanfkhobaaGreatDoorW.PrintWords Go.Proofs.YtlafgnanfkhobaaGreatDoorW.PrintLast Go.Proofs.YtlafgnanfkhobaaGreatDoorW.PrintMore
def T {α : Type} (g : Nat → Option α) (Q : α → Prop) : Prop :=∃ r,Ev g r ∧ Q r
theorem T.of {α : Type} {g : Nat → Option α} {Q : α → Prop} {r : α} (h : Ev g r) (hq : Q r) : T g Q :=⟨r,h,hq⟩
theorem T.now {α : Type} {Q : α → Prop} (r : α) (h : Q r) : T (fun _ => some r) Q :=⟨r,Ev.now r,h⟩
theorem T.bind {α β : Type} {g : Nat → Option α} {f : Nat → α → Option β} {Q : α → Prop} {R : β → Prop} (h : T g Q) (k : ∀ a,Q a → T (fun n => f n a) R) : T (fun n => (g n).bind (f n)) R :=by
 obtain ⟨a,ha,hq⟩ :=h
 obtain ⟨r,hr,hR⟩ :=k a hq
 exact ⟨r,Ev.bind ha hr,hR⟩
theorem T.step {α : Type} {g f : Nat → Option α} {Q : α → Prop} (h : ∀ k,g (k + 1) = f k) (k : T f Q) : T g Q :=by
 obtain ⟨r,hr,hq⟩ :=k
 exact ⟨r,Ev.step h hr,hq⟩
theorem T.congr {α : Type} {g f : Nat → Option α} {Q : α → Prop} (h : ∀ k,g k = f k) (k : T f Q) : T g Q :=by
 obtain ⟨r,hr,hq⟩ :=k
 exact ⟨r,Ev.congr h hr,hq⟩
theorem T.yes {α : Type} {c : Prop} [Decidable c] {g f : Nat → Option α} {Q : α → Prop} (h : c) (k : T g Q) : T (fun n => if c then g n else f n) Q :=T.congr (fun n => if_pos h) k
theorem T.no {α : Type} {c : Prop} [Decidable c] {g f : Nat → Option α} {Q : α → Prop} (h : ¬ c) (k : T f Q) : T (fun n => if c then g n else f n) Q :=T.congr (fun n => if_neg h) k
theorem T.mono {α : Type} {g : Nat → Option α} {Q R : α → Prop} (h : T g Q) (k : ∀ r,Q r → R r) : T g R :=by
 obtain ⟨r,hr,hq⟩ :=h
 exact ⟨r,hr,k r hq⟩
theorem Ev.yes {α : Type} {c : Prop} [Decidable c] {g f : Nat → Option α} {r : α} (h : c) (k : Ev g r) : Ev (fun n => if c then g n else f n) r :=Ev.congr (fun n => if_pos h) k
theorem Ev.no {α : Type} {c : Prop} [Decidable c] {g f : Nat → Option α} {r : α} (h : ¬ c) (k : Ev f r) : Ev (fun n => if c then g n else f n) r :=Ev.congr (fun n => if_neg h) k
def V (xs : List Int) : Prop :=∀ x ∈ xs,0 ≤ x ∧ x ≤ 255
theorem V.append {xs ys : List Int} (h : V xs) (k : V ys) : V (xs ++ ys) :=fun x hx => (List.mem_append.1 hx).elim (h x) (k x)
theorem V.take {xs : List Int} (h : V xs) (n : Nat) : V (xs.take n) :=fun x hx => h x (List.mem_of_mem_take hx)
theorem V.drop {xs : List Int} (h : V xs) (n : Nat) : V (xs.drop n) :=fun x hx => h x (List.mem_of_mem_drop hx)
theorem V.nil : V [] :=fun x hx => by cases hx
theorem st_size (xs : List Int) : (strOfNums xs).size = xs.length :=by simp [strOfNums,ByteArray.size]
theorem st_bytes (s : ByteArray) : strOfNums (bytesOf s) = s :=by
 cases s with
 | mk d =>
  simp [strOfNums,bytesOf,List.map_map,Function.comp_def]
theorem V_bytes (s : ByteArray) : V (bytesOf s) :=bytesOf_range s
theorem bytes_ok {xs : List Int} (hx : V xs) (hl : xs.length ≤ 1000000000000) (b : Bool) {n : Nat} (hn : n ≤ xs.length) :
  pr_bytes.f (strOfNums xs) b n = some (xs.take n,strOfNums (xs.drop n),b) :=by
 unfold pr_bytes.f
 rw [bytesOf_strOfNums xs hx,if_neg (by omega),if_pos (by omega),if_pos (by rw [List.length_take];omega),Int.toNat_natCast]
theorem bytes_short {xs : List Int} (hx : V xs) (b : Bool) {n : Nat} (hn : xs.length < n) :
  pr_bytes.f (strOfNums xs) b n = some ([],strOfNums [],true) :=by
 unfold pr_bytes.f
 rw [bytesOf_strOfNums xs hx,if_pos (by omega)]
theorem p256pos : ∀ n : Nat,0 < (256 : Int) ^ n
 | 0 => by decide
 | n + 1 => by
  have :=p256pos n
  rw [Int.pow_succ]
  omega
theorem p256 : ∀ d i : Nat,(256 : Int) ^ i ≤ 256 ^ (i + d)
 | 0,i => Int.le_refl _
 | d + 1,i => by
  have h1 :=p256 d i
  have h2 :=p256pos (i + d)
  rw [← Nat.add_assoc,Int.pow_succ]
  omega
def numOf (xs : List Int) : Int :=xs.foldl (fun v c => v * 256 + c) 0
theorem numOf_snoc (xs : List Int) (c : Int) : numOf (xs ++ [c]) = numOf xs * 256 + c :=by simp [numOf,List.foldl_append]
theorem numOf_bound : ∀ (n : Nat) (xs : List Int),xs.length = n → V xs → 0 ≤ numOf xs ∧ numOf xs < (256 : Int) ^ n
 | 0,xs,h,_ => by
  rw [List.eq_nil_of_length_eq_zero h]
  exact ⟨by decide,by decide⟩
 | n + 1,xs,h,hx => by
  obtain ⟨ys,c,rfl⟩ : ∃ ys c,xs = ys ++ [c] :=⟨xs.dropLast,xs.getLast (by intro e;rw [e] at h;cases h),(List.dropLast_concat_getLast _).symm⟩
  have hy : ys.length = n :=by simpa using h
  obtain ⟨h0,h1⟩ :=numOf_bound n ys hy (fun x hx' => hx x (List.mem_append_left _ hx'))
  obtain ⟨c0,c1⟩ :=hx c (by simp)
  rw [numOf_snoc,Int.pow_succ]
  omega
theorem or_bytes {v c : Int} (h0 : 0 ≤ v) (h1 : v < 72057594037927936) (c0 : 0 ≤ c) (c1 : c ≤ 255) : Go.bits .or .u64 (IntKind.u64.wrap (v * 256)) (IntKind.u64.wrap c) = v * 256 + c :=by
 have e1 : IntKind.u64.wrap (v * 256) = v * 256 :=by
  have : IntKind.u64.wrap (v * 256) = (v * 256) % 18446744073709551616 :=rfl
  omega
 have e2 : IntKind.u64.wrap c = c :=by
  have : IntKind.u64.wrap c = c % 18446744073709551616 :=rfl
  omega
 rw [e1,e2,Go.u64_or _ _ (by omega) (by omega) (by omega) (by omega)]
 obtain ⟨a,rfl⟩ :=Int.eq_ofNat_of_zero_le h0
 obtain ⟨d,rfl⟩ :=Int.eq_ofNat_of_zero_le c0
 have hd : d < 2 ^ 8 :=by omega
 have :=Nat.shiftLeft_add_eq_or_of_lt hd a
 rw [Nat.shiftLeft_eq] at this
 have e3 : ((a : Int) * 256).toNat = a * 2 ^ 8 :=by omega
 rw [e3,Int.toNat_natCast,← this]
 omega
theorem num_loop {ys : List Int} (hy : V ys) (hl : ys.length ≤ 8) (s : ByteArray) (b : Bool) : ∀ (d i : Nat),i + d = ys.length → Ev (fun k => pr_num.l0 k (numOf (ys.take i)) ys (ys.length : Int) (i : Int) s b) (numOf ys,s,b)
 | 0,i,h => Ev.step (fun k => rfl) (Ev.no (by omega) (by
   have hi : i = ys.length :=by omega
   rw [hi,List.take_length]
   exact Ev.now _))
 | d + 1,i,h => Ev.step (fun k => rfl) (Ev.yes (by omega) (Ev.yes (by omega) (Ev.yes (by omega) (by
   have hlt : i < ys.length :=by omega
   have hr : rd ys (i : Int) = ys[i] :=by simp [rd,hlt]
   obtain ⟨c0,c1⟩ :=hy _ (List.getElem_mem hlt)
   have hb :=numOf_bound i (ys.take i) (by rw [List.length_take];omega) (hy.take i)
   have hp : (256 : Int) ^ i ≤ 256 ^ 7 :=by
    have :=p256 (7 - i) i
    rwa [show i + (7 - i) = 7 by omega] at this
   have e : numOf (ys.take (i + 1)) = Go.bits .or .u64 (IntKind.u64.wrap (numOf (ys.take i) * 256)) (IntKind.u64.wrap (rd ys (i : Int))) :=by
    rw [List.take_succ_eq_append_getElem hlt,numOf_snoc,hr,or_bytes hb.1 (Int.lt_of_lt_of_le hb.2 hp) c0 c1]
   have e2 : wrap64 ((i : Int) + 1) = ((i + 1 : Nat) : Int) :=by unfold wrap64;omega
   rw [← e,e2]
   exact num_loop hy hl s b d (i + 1) (by omega)))))
theorem num_ok {xs : List Int} (hx : V xs) (hl : xs.length ≤ 1000000000000) (b : Bool) {n : Nat} (hn : n ≤ xs.length) (h8 : n ≤ 8) :
  Ev (fun k => pr_num.f k (strOfNums xs) b n) (numOf (xs.take n),strOfNums (xs.drop n),b) :=by
 unfold pr_num.f
 refine Ev.bind (a :=(xs.take n,strOfNums (xs.drop n),b)) (Ev.congr (fun k => bytes_ok hx hl b hn) (Ev.now _)) ?_
 exact num_loop (hx.take n) (by rw [List.length_take];omega) _ _ (xs.take n).length 0 (by omega)
theorem num_short {xs : List Int} (hx : V xs) (b : Bool) {n : Nat} (hn : xs.length < n) : Ev (fun k => pr_num.f k (strOfNums xs) b n) (0,strOfNums [],true) :=by
 unfold pr_num.f
 refine Ev.bind (a :=([],strOfNums [],true)) (Ev.congr (fun k => bytes_short hx b hn) (Ev.now _)) ?_
 exact num_loop (ys :=[]) V.nil (by decide) _ _ 0 0 rfl
end Go.Proofs.YtlafgnanfkhobaaGreatDoor.P2
namespace Go.Proofs.YtlafgnanfkhobaaGreatDoor.P2
open Go.RowKit Go.Proofs.YtlafgnanfkhobaaGreatDoorW.PrintWords Go.Proofs.YtlafgnanfkhobaaGreatDoorW.PrintLast Go.Proofs.YtlafgnanfkhobaaGreatDoorW.PrintMore
def G (m : Nat) (s : ByteArray) : Prop :=∃ ys,V ys ∧ ys.length ≤ m ∧ s = strOfNums ys
theorem num_t {xs : List Int} (hx : V xs) (hl : xs.length ≤ 1000000000000) (b : Bool) (n : Nat) (h8 : n ≤ 8) : T (fun k => pr_num.f k (strOfNums xs) b n) (fun r => 0 ≤ r.1 ∧ r.1 < (256 : Int) ^ n ∧ G (xs.length - n) r.2.1) :=by
 by_cases hn : n ≤ xs.length
 ·have hb :=numOf_bound n (xs.take n) (by rw [List.length_take];omega) (hx.take n)
  exact T.of (num_ok hx hl b hn h8) ⟨hb.1,hb.2,xs.drop n,hx.drop n,by rw [List.length_drop];exact Nat.le_refl _,rfl⟩
 ·exact T.of (num_short hx b (by omega)) ⟨Int.le_refl _,p256pos n,[],V.nil,Nat.zero_le _,rfl⟩
theorem G.mono {m m' : Nat} {s : ByteArray} (h : G m s) (hm : m ≤ m') : G m' s :=by
 obtain ⟨ys,h1,h2,h3⟩ :=h
 exact ⟨ys,h1,by omega,h3⟩
theorem text_t {xs : List Int} (hx : V xs) (hl : xs.length ≤ 1000000000000) (b : Bool) : T (fun k => pr_text.f k (strOfNums xs) b) (fun r => V r.1 ∧ r.1.length ≤ 255 ∧ G xs.length r.2.1) :=by
 unfold pr_text.f
 refine T.bind (num_t hx hl b 1 (by decide)) ?_
 rintro ⟨x,s,b'⟩ ⟨h0,h1,ys,hy,hyl,rfl⟩
 have h1' : x < 256 :=h1
 have e : wrap64 x = ((x.toNat : Nat) : Int) :=by unfold wrap64;omega
 by_cases hn : x.toNat ≤ ys.length
 ·refine T.bind (Q :=fun r => r = (ys.take x.toNat,strOfNums (ys.drop x.toNat),b')) (T.congr (fun k => by show pr_bytes.f (strOfNums ys) b' (wrap64 x) = _;rw [e];exact bytes_ok hy (by omega) b' hn) (T.now _ rfl)) ?_
  rintro r rfl
  exact T.now _ ⟨hy.take _,by rw [List.length_take];show min x.toNat ys.length ≤ 255;omega,ys.drop x.toNat,hy.drop _,by rw [List.length_drop];omega,rfl⟩
 ·refine T.bind (Q :=fun r => r = ([],strOfNums [],true)) (T.congr (fun k => by show pr_bytes.f (strOfNums ys) b' (wrap64 x) = _;rw [e];exact bytes_short hy b' (by omega)) (T.now _ rfl)) ?_
  rintro r rfl
  exact T.now _ ⟨V.nil,by decide,[],V.nil,Nat.zero_le _,rfl⟩
def i64 (x : Int) : Prop :=-9223372036854775808 ≤ x ∧ x ≤ 9223372036854775807
def NEv (e : S85) : Prop :=okEv e ∧ V e.f1
def NPart (p : S83) : Prop :=p.f0.size ≤ 255 ∧ i64 p.f1 ∧ p.f2.length ≤ 6 ∧ ∀ e ∈ p.f2,NEv e
structure NReq (q : S46) : Prop where
 f0 : 0 ≤ q.f0 ∧ q.f0 ≤ 255
 id : q.f1.f0.size ≤ 255
 parts : q.f1.f1.length ≤ 5
 part : ∀ p ∈ q.f1.f1,NPart p
 f2 : q.f2.size ≤ 255
 f3 : q.f3.length ≤ 9
 f3s : ∀ s ∈ q.f3,s.size ≤ 255
 f4 : i64 q.f4
 f5 : V q.f5 ∧ q.f5.length ≤ 255
 f6 : 0 ≤ q.f6 ∧ q.f6 ≤ 65535
 f7 : 0 ≤ q.f7 ∧ q.f7 ≤ 65535
 f9 : V q.f9 ∧ q.f9.length ≤ 255
theorem i64_wrap (x : Int) : i64 (wrap64 x) :=by
 unfold i64 wrap64
 omega
theorem uwrap {x : Int} (h0 : 0 ≤ x) (h1 : x < 18446744073709551616) : IntKind.u64.wrap x = x :=by
 have : IntKind.u64.wrap x = x % 18446744073709551616 :=rfl
 omega
theorem tmod_small {x m : Int} (h0 : 0 ≤ x) (hm : 0 < m) : 0 ≤ Int.tmod x m ∧ Int.tmod x m < m :=⟨Int.tmod_nonneg _ h0,Int.tmod_lt_of_pos _ hm⟩
theorem l1_t {R : ByteArray × List S83 × ByteArray × Bool → Prop} {x5 : Int} {id : ByteArray} {ps : List S83} (hps : ps.length ≤ 100) {pn : ByteArray} {pe : Int} (hpn : pn.size ≤ 255) (hpe : i64 pe) (M : Nat)
  (hcont : ∀ ys b' p,V ys → ys.length ≤ M → NPart p → T (fun k => pr_commit.l0 k (IntKind.u64.wrap (x5 - 1)) (strOfNums ys) b' id (ps ++ [p])) R) :
  ∀ (m : Nat) (xs : List Int) (b : Bool) (acc : List S85),V xs → xs.length ≤ M → M ≤ 1000000000000 → m + acc.length ≤ 6 → (∀ e ∈ acc,NEv e) → T (fun k => pr_commit.l1 k x5 (m : Int) (strOfNums xs) b id ps pn pe acc) R
 | 0,xs,b,acc,hx,hl,hM,hm,ha => T.step (fun k => rfl) (T.no (by omega) (T.yes (by omega) (hcont xs b _ hx hl ⟨hpn,hpe,by show acc.length ≤ 6;omega,ha⟩)))
 | m + 1,xs,b,acc,hx,hl,hM,hm,ha => T.step (fun k => rfl) (T.yes (by omega) (by
   refine T.bind (text_t hx (by omega) b) ?_
   rintro ⟨t,s,b1⟩ ⟨t1,t2,ys,hy,hyl,rfl⟩
   refine T.bind (text_t hy (by omega) b1) ?_
   rintro ⟨d,s2,b2⟩ ⟨d1,d2,zs,hz,hzl,rfl⟩
   refine T.yes (by omega) ?_
   have e : IntKind.u64.wrap (((m + 1 : Nat) : Int) - 1) = (m : Int) :=by rw [uwrap (by omega) (by omega)];omega
   show T (fun k => pr_commit.l1 k x5 (IntKind.u64.wrap (((m + 1 : Nat) : Int) - 1)) (strOfNums zs) b2 id ps pn pe (acc ++ [⟨strOfNums t,d⟩])) R
   rw [e]
   refine l1_t hps hpn hpe M hcont m zs b2 _ hz (Nat.le_trans hzl (Nat.le_trans hyl hl)) hM (by simp only [List.length_append,List.length_singleton];omega) ?_
   intro x hxm
   rcases List.mem_append.1 hxm with h | h
   ·exact ha x h
   ·rw [List.mem_singleton.1 h]
    exact ⟨⟨by rw [st_size];exact t2,d2⟩,d1⟩))
theorem l0_t (id : ByteArray) (M : Nat) (hM : M ≤ 1000000000000) : ∀ (n : Nat) (xs : List Int) (b : Bool) (ps : List S83),V xs → xs.length ≤ M → n + ps.length ≤ 5 → (∀ p ∈ ps,NPart p) →
  T (fun k => pr_commit.l0 k (n : Int) (strOfNums xs) b id ps) (fun r => r.1 = id ∧ r.2.1.length ≤ 5 ∧ (∀ p ∈ r.2.1,NPart p) ∧ G M r.2.2.1)
 | 0,xs,b,ps,hx,hl,hn,hp => by
  refine T.congr (g :=fun k => pr_commit.l0 k ((0 : Nat) : Int) (strOfNums xs) b id ps) (fun k => rfl) (T.step (f :=fun k => some (id,ps,strOfNums xs,b)) (fun k => ?_) (T.now _ ⟨rfl,by show ps.length ≤ 5;omega,hp,xs,hx,hl,rfl⟩))
  unfold pr_commit.l0
  exact if_neg (by decide)
 | n + 1,xs,b,ps,hx,hl,hn,hp => T.step (fun k => rfl) (T.yes (by omega) (by
   refine T.bind (text_t hx (by omega) b) ?_
   rintro ⟨t,s,b1⟩ ⟨t1,t2,ys,hy,hyl,rfl⟩
   refine T.bind (num_t hy (by omega) b1 8 (by decide)) ?_
   rintro ⟨x,s2,b2⟩ ⟨_,_,zs,hz,hzl,rfl⟩
   refine T.bind (num_t hz (by omega) b2 1 (by decide)) ?_
   rintro ⟨c,s3,b3⟩ ⟨c0,_,us,hu,hul,rfl⟩
   obtain ⟨m0,m1⟩ :=tmod_small (m :=7) c0 (by decide)
   obtain ⟨m,hm⟩ :=Int.eq_ofNat_of_zero_le m0
   show T (fun k => pr_commit.l1 k _ (Int.tmod c 7) (strOfNums us) b3 id ps (strOfNums t) (wrap64 x) []) _
   rw [hm]
   refine l1_t (by omega) (by rw [st_size];exact t2) (i64_wrap x) M ?_ m us b3 [] hu (by omega) hM (by simp only [List.length_nil];omega) (fun e he => by cases he)
   intro vs b' p hv hvl hpp
   have e : IntKind.u64.wrap (((n + 1 : Nat) : Int) - 1) = (n : Int) :=by rw [uwrap (by omega) (by omega)];omega
   rw [e]
   refine l0_t id M hM n vs b' _ hv hvl (by simp only [List.length_append,List.length_singleton];omega) ?_
   intro z hzm
   rcases List.mem_append.1 hzm with h | h
   ·exact hp z h
   ·rw [List.mem_singleton.1 h];exact hpp))
theorem commit_t {xs : List Int} (hx : V xs) (hl : xs.length ≤ 1000000000000) (b : Bool) : T (fun k => pr_commit.f k (strOfNums xs) b) (fun r => r.1.size ≤ 255 ∧ r.2.1.length ≤ 5 ∧ (∀ p ∈ r.2.1,NPart p) ∧ G xs.length r.2.2.1) :=by
 unfold pr_commit.f
 refine T.bind (text_t hx hl b) ?_
 rintro ⟨t,s,b1⟩ ⟨t1,t2,ys,hy,hyl,rfl⟩
 refine T.bind (num_t hy (by omega) b1 1 (by decide)) ?_
 rintro ⟨c,s3,b3⟩ ⟨c0,_,us,hu,hul,rfl⟩
 obtain ⟨m0,m1⟩ :=tmod_small (m :=6) c0 (by decide)
 obtain ⟨m,hm⟩ :=Int.eq_ofNat_of_zero_le m0
 show T (fun k => pr_commit.l0 k (Int.tmod c 6) (strOfNums us) b3 (strOfNums t) []) _
 rw [hm]
 refine (l0_t (strOfNums t) xs.length hl m us b3 [] hu (by omega) (by simp only [List.length_nil];omega) (fun e he => by cases he)).mono ?_
 rintro ⟨i,ps,s4,b4⟩ ⟨h1,h2,h3,h4⟩
 exact ⟨by rw [h1,st_size];exact t2,h2,h3,h4⟩
end Go.Proofs.YtlafgnanfkhobaaGreatDoor.P2
namespace Go.Proofs.YtlafgnanfkhobaaGreatDoor.P2
open Go.RowKit Go.Proofs.YtlafgnanfkhobaaGreatDoorW.PrintWords Go.Proofs.YtlafgnanfkhobaaGreatDoorW.PrintLast Go.Proofs.YtlafgnanfkhobaaGreatDoorW.PrintMore
def NStep (s : S48) : Prop :=(s.f0 = 1 ∧ NReq s.f1 ∧ s.f2 = 0 ∧ s.f3 = []) ∨ (s.f0 = 2 ∧ s.f1 = z46 ∧ (0 ≤ s.f2 ∧ s.f2 ≤ 65535) ∧ s.f3 = []) ∨ (s.f0 = 3 ∧ s.f1 = z46 ∧ s.f2 = 0 ∧ V s.f3 ∧ s.f3.length ≤ 255) ∨ (s.f0 = 4 ∧ s.f1 = z46 ∧ s.f2 = 0 ∧ s.f3 = [])
abbrev RQ :=Int × ByteArray × List S83 × ByteArray × List ByteArray × Int × List Int × Int × Int × Bool × List Int × ByteArray × Bool
def asReq (r : RQ) : S46 :=⟨r.1,⟨r.2.1,r.2.2.1⟩,r.2.2.2.1,r.2.2.2.2.1,r.2.2.2.2.2.1,r.2.2.2.2.2.2.1,r.2.2.2.2.2.2.2.1,r.2.2.2.2.2.2.2.2.1,r.2.2.2.2.2.2.2.2.2.1,r.2.2.2.2.2.2.2.2.2.2.1⟩
theorem wrap_small {x : Int} (h0 : -9223372036854775808 ≤ x) (h1 : x ≤ 9223372036854775807) : wrap64 x = x :=by unfold wrap64;omega
theorem req_l0_t (M : Nat) (hM : M ≤ 1000000000000) {f0 : Int} (hf0 : 0 ≤ f0 ∧ f0 ≤ 255) {id : ByteArray} (hid : id.size ≤ 255) {ps : List S83} (hps : ps.length ≤ 5) (hp : ∀ p ∈ ps,NPart p) {nm : ByteArray} (hnm : nm.size ≤ 255) :
  ∀ (n : Nat) (xs : List Int) (b : Bool) (ns : List ByteArray),V xs → xs.length ≤ M → n + ns.length ≤ 9 → (∀ s ∈ ns,s.size ≤ 255) →
   T (fun k => pr_request.l0 k (n : Int) (strOfNums xs) b f0 id ps nm ns 0 0 0 false) (fun r => NReq (asReq r) ∧ G M r.2.2.2.2.2.2.2.2.2.2.2.1)
 | 0,xs,b,ns,hx,hl,hn,hs => T.step (fun k => rfl) (T.no (by omega) (by
   refine T.bind (num_t hx (by omega) b 8 (by decide)) ?_
   rintro ⟨at_,s1,b1⟩ ⟨_,_,y1,v1,l1,rfl⟩
   refine T.bind (text_t v1 (by omega) b1) ?_
   rintro ⟨d,s2,b2⟩ ⟨d1,d2,y2,v2,l2,rfl⟩
   refine T.bind (num_t v2 (by omega) b2 2 (by decide)) ?_
   rintro ⟨N,s3,b3⟩ ⟨N0,N1,y3,v3,l3,rfl⟩
   refine T.bind (num_t v3 (by omega) b3 2 (by decide)) ?_
   rintro ⟨L,s4,b4⟩ ⟨L0,L1,y4,v4,l4,rfl⟩
   refine T.bind (num_t v4 (by omega) b4 1 (by decide)) ?_
   rintro ⟨k9,s5,b5⟩ ⟨_,_,y5,v5,l5,rfl⟩
   refine T.bind (text_t v5 (by omega) b5) ?_
   rintro ⟨t,s6,b6⟩ ⟨t1,t2,y6,v6,l6,rfl⟩
   have N1' : N < 65536 :=N1
   have L1' : L < 65536 :=L1
   refine T.now _ ⟨⟨hf0,hid,hps,hp,hnm,by show ns.length ≤ 9;omega,hs,i64_wrap at_,⟨d1,d2⟩,?_,?_,⟨t1,t2⟩⟩,y6,v6,by omega,rfl⟩
   ·show 0 ≤ wrap64 N ∧ wrap64 N ≤ 65535
    rw [wrap_small (by omega) (by omega)]
    omega
   ·show 0 ≤ wrap64 L ∧ wrap64 L ≤ 65535
    rw [wrap_small (by omega) (by omega)]
    omega))
 | n + 1,xs,b,ns,hx,hl,hn,hs => T.step (fun k => rfl) (T.yes (by omega) (by
   refine T.bind (text_t hx (by omega) b) ?_
   rintro ⟨t,s,b1⟩ ⟨t1,t2,ys,hy,hyl,rfl⟩
   refine T.yes (by omega) ?_
   have e : IntKind.u64.wrap (((n + 1 : Nat) : Int) - 1) = (n : Int) :=by rw [uwrap (by omega) (by omega)];omega
   show T (fun k => pr_request.l0 k (IntKind.u64.wrap (((n + 1 : Nat) : Int) - 1)) (strOfNums ys) b1 f0 id ps nm (ns ++ [strOfNums t]) 0 0 0 false) _
   rw [e]
   refine req_l0_t M hM hf0 hid hps hp hnm n ys b1 _ hy (Nat.le_trans hyl hl) (by simp only [List.length_append,List.length_singleton];omega) ?_
   intro z hzm
   rcases List.mem_append.1 hzm with h | h
   ·exact hs z h
   ·rw [List.mem_singleton.1 h,st_size];exact t2))
theorem req_t {xs : List Int} (hx : V xs) (hl : xs.length ≤ 1000000000000) (b : Bool) : T (fun k => pr_request.f k (strOfNums xs) b) (fun r => NReq (asReq r) ∧ G xs.length r.2.2.2.2.2.2.2.2.2.2.2.1) :=by
 unfold pr_request.f
 refine T.bind (num_t hx hl b 1 (by decide)) ?_
 rintro ⟨x,s,b1⟩ ⟨x0,x1,y1,v1,l1,rfl⟩
 have x1' : x < 256 :=x1
 refine T.bind (commit_t v1 (by omega) b1) ?_
 rintro ⟨id,ps,s2,b2⟩ ⟨h1,h2,h3,y2,v2,l2,rfl⟩
 refine T.bind (text_t v2 (by omega) b2) ?_
 rintro ⟨t,s3,b3⟩ ⟨t1,t2,y3,v3,l3,rfl⟩
 refine T.bind (num_t v3 (by omega) b3 1 (by decide)) ?_
 rintro ⟨c,s4,b4⟩ ⟨c0,_,y4,v4,l4,rfl⟩
 obtain ⟨m0,m1⟩ :=tmod_small (m :=10) c0 (by decide)
 obtain ⟨m,hm⟩ :=Int.eq_ofNat_of_zero_le m0
 show T (fun k => pr_request.l0 k (Int.tmod c 10) (strOfNums y4) b4 (wrap64 x) id ps (strOfNums t) [] 0 0 0 false) _
 rw [hm]
 exact req_l0_t xs.length hl (by rw [wrap_small (by omega) (by omega)];omega) h1 h2 h3 (by rw [st_size];exact t2) m y4 b4 [] v4 (by omega) (by simp only [List.length_nil];omega) (fun e he => by cases he)
theorem dec_l0_t : ∀ (m : Nat) (xs : List Int) (b : Bool) (acc : List S48),V xs → xs.length ≤ m → m ≤ 1000000000000 → acc.length + xs.length ≤ 1000 → (∀ s ∈ acc,NStep s) →
  T (fun k => pDe.l0 k acc (strOfNums xs) b) (fun r => (∀ s ∈ r,NStep s) ∧ r.length ≤ acc.length + xs.length) :=by
 intro m
 induction m with
 | zero =>
  intro xs b acc hx hl hm ha hs
  have h0 : xs = [] :=List.eq_nil_of_length_eq_zero (by omega)
  subst h0
  exact T.step (fun k => rfl) (T.no (by simp [st_size]) (T.now _ ⟨hs,Nat.le_add_right _ _⟩))
 | succ m ih =>
  intro xs b acc hx hl hm ha hs
  by_cases h0 : xs.length = 0
  ·have h0 : xs = [] :=List.eq_nil_of_length_eq_zero h0
   subst h0
   exact T.step (fun k => rfl) (T.no (by simp [st_size]) (T.now _ ⟨hs,Nat.le_add_right _ _⟩))
  ·refine T.step (fun k => rfl) (T.yes (by rw [st_size];omega) ?_)
   refine T.bind (num_t hx (by omega) b 1 (by decide)) ?_
   rintro ⟨x,s,b1⟩ ⟨x0,_,ys,hy,hyl,rfl⟩
   obtain ⟨m0,m1⟩ :=tmod_small (x :=x) (m :=5) x0 (by decide)
   have ew : wrap64 (Int.tmod x 5) = Int.tmod x 5 :=wrap_small (by omega) (by omega)
   have hlast : ∀ (zs : List Int) (b' : Bool) (st : S48),V zs → zs.length ≤ ys.length → NStep st → T (fun k => pDe.l0 k (acc ++ [st]) (strOfNums zs) b') (fun r => (∀ s ∈ r,NStep s) ∧ r.length ≤ acc.length + xs.length) :=by
    intro zs b' st hz hzl hst
    refine (ih zs b' (acc ++ [st]) hz (by omega) (by omega) (by simp only [List.length_append,List.length_singleton];omega) ?_).mono ?_
    ·intro z hzm
     rcases List.mem_append.1 hzm with h | h
     ·exact hs z h
     ·rw [List.mem_singleton.1 h];exact hst
    ·rintro r ⟨h1,h2⟩
     exact ⟨h1,by simp only [List.length_append,List.length_singleton] at h2;omega⟩
   have hnow : T (fun _ => some acc) (fun r => (∀ s ∈ r,NStep s) ∧ r.length ≤ acc.length + xs.length) :=T.now _ ⟨hs,Nat.le_add_right _ _⟩
   by_cases c0 : wrap64 (Int.tmod x 5) = 0
   ·refine T.yes c0 ((ih ys b1 acc hy (by omega) (by omega) (by omega) hs).mono ?_)
    rintro r ⟨h1,h2⟩
    exact ⟨h1,by omega⟩
   ·refine T.no c0 ?_
    by_cases c1 : wrap64 (Int.tmod x 5) = 1
    ·refine T.yes c1 (T.bind (req_t hy (by omega) b1) ?_)
     rintro r ⟨hr,zs,hz,hzl,hrs⟩
     by_cases cb : r.2.2.2.2.2.2.2.2.2.2.2.2 = true
     ·exact T.yes cb hnow
     ·refine T.no cb (T.yes (by omega) ?_)
      rw [hrs]
      exact hlast zs _ _ hz hzl (.inl ⟨c1,hr,rfl,rfl⟩)
    ·refine T.no c1 ?_
     by_cases c2 : wrap64 (Int.tmod x 5) = 2
     ·refine T.yes c2 (T.bind (num_t hy (by omega) b1 2 (by decide)) ?_)
      rintro ⟨y,s2,b2⟩ ⟨y0,y1,zs,hz,hzl,rfl⟩
      have y1' : y < 65536 :=y1
      by_cases cb : b2 = true
      ·exact T.yes cb hnow
      ·exact T.no cb (T.yes (by omega) (hlast zs _ _ hz (by omega) (.inr (.inl ⟨c2,rfl,by show 0 ≤ wrap64 y ∧ wrap64 y ≤ 65535;rw [wrap_small (by omega) (by omega)];omega,rfl⟩))))
     ·refine T.no c2 ?_
      by_cases c3 : wrap64 (Int.tmod x 5) = 3
      ·refine T.yes c3 (T.bind (text_t hy (by omega) b1) ?_)
       rintro ⟨t,s2,b2⟩ ⟨t1,t2,zs,hz,hzl,rfl⟩
       by_cases cb : b2 = true
       ·exact T.yes cb hnow
       ·exact T.no cb (T.yes (by omega) (hlast zs _ _ hz hzl (.inr (.inr (.inl ⟨c3,rfl,rfl,t1,t2⟩)))))
      ·refine T.no c3 ?_
       by_cases cb : b1 = true
       ·exact T.yes cb hnow
       ·exact T.no cb (T.yes (by omega) (hlast ys _ _ hy (Nat.le_refl _) (.inr (.inr (.inr ⟨by show wrap64 (Int.tmod x 5) = 4;omega,rfl,rfl,rfl⟩)))))
theorem dec_t {xs : List Int} (hx : V xs) (hl : xs.length ≤ 1000) : T (fun k => pDe.f k xs) (fun r => (∀ s ∈ r,NStep s) ∧ r.length ≤ xs.length) :=by
 unfold pDe.f
 refine T.bind (Q :=fun r => r = (strOfNums xs,false)) (T.congr (fun k => if_pos hx) (T.now _ rfl)) ?_
 rintro r rfl
 refine (dec_l0_t xs.length xs false [] hx (Nat.le_refl _) (by omega) (by simpa using hl) (fun s hs => by cases hs)).mono ?_
 rintro r ⟨h1,h2⟩
 exact ⟨h1,by simpa using h2⟩
end Go.Proofs.YtlafgnanfkhobaaGreatDoor.P2
namespace Go.Proofs.YtlafgnanfkhobaaGreatDoor.P2
open Go.RowKit Go.Proofs.YtlafgnanfkhobaaGreatDoorW.PrintWords Go.Proofs.YtlafgnanfkhobaaGreatDoorW.PrintLast Go.Proofs.YtlafgnanfkhobaaGreatDoorW.PrintMore
theorem be_V (x : Int) : ∀ n,V (be x n)
 | 0 => V.nil
 | n + 1 => fun y hy => by
  rcases List.mem_cons.1 hy with h | h
  ·rw [h];unfold byteAt;omega
  ·exact be_V x n y h
theorem numOf_be1 {x : Int} (h0 : 0 ≤ x) (h1 : x < 256) : numOf (be x 1) = x :=by
 simp [be,numOf,byteAt]
 omega
theorem numOf_be2 {x : Int} (h0 : 0 ≤ x) (h1 : x < 65536) : numOf (be x 2) = x :=by
 simp [be,numOf,byteAt]
 omega
theorem numOf_be8 {x : Int} (h0 : 0 ≤ x) (h1 : x < 18446744073709551616) : numOf (be x 8) = x :=by
 simp [be,numOf,byteAt]
 omega
theorem num_be {x : Int} {n : Nat} (hn : n ≤ 8) (hb : numOf (be x n) = x) {r : List Int} (hr : V r) (hl : r.length ≤ 999000000000) (b : Bool) :
  Ev (fun k => pr_num.f k (strOfNums (be x n ++ r)) b n) (x,strOfNums r,b) :=by
 have h :=num_ok ((be_V x n).append hr) (by rw [List.length_append,be_length];omega) b (n :=n) (by rw [List.length_append,be_length];omega) hn
 rwa [List.take_left' (be_length x n),List.drop_left' (be_length x n),hb] at h
theorem txt_V {xs : List Int} (h : V xs) (hl : xs.length ≤ 255) : V (txt xs) :=fun y hy => by
 rcases List.mem_cons.1 hy with e | e
 ·rw [e];omega
 ·exact h y e
theorem txt_be (xs : List Int) (hl : xs.length ≤ 255) : txt xs = be (xs.length : Int) 1 ++ xs :=by
 have : byteAt (xs.length : Int) 0 = (xs.length : Int) :=by unfold byteAt;simp;omega
 simp [txt,be,this]
theorem text_txt {xs : List Int} (hx : V xs) (hl : xs.length ≤ 255) {r : List Int} (hr : V r) (hrl : r.length ≤ 900000000000) (b : Bool) : Ev (fun k => pr_text.f k (strOfNums (txt xs ++ r)) b) (xs,strOfNums r,b) :=by
 unfold pr_text.f
 rw [txt_be xs hl,List.append_assoc]
 refine Ev.bind (num_be (by decide) (numOf_be1 (by omega) (by omega)) (hx.append hr) (by rw [List.length_append];omega) b) ?_
 have e : wrap64 (xs.length : Int) = ((xs.length : Nat) : Int) :=wrap_small (by omega) (by omega)
 refine Ev.bind (a :=(xs,strOfNums r,b)) (Ev.congr (fun k => ?_) (Ev.now _)) (Ev.now _)
 show pr_bytes.f (strOfNums (xs ++ r)) b (wrap64 (xs.length : Int)) = _
 rw [e,bytes_ok (hx.append hr) (by rw [List.length_append];omega) b (by rw [List.length_append];omega),List.take_left,List.drop_left]
theorem wrap_back {x : Int} (h : i64 x) : wrap64 (IntKind.u64.wrap x) = x :=by
 have : IntKind.u64.wrap x = x % 18446744073709551616 :=rfl
 rw [this]
 unfold i64 at h
 unfold wrap64
 omega
theorem tmod_lt {x m : Int} (h0 : 0 ≤ x) (h1 : x < m) : Int.tmod x m = x :=Int.tmod_eq_of_lt h0 h1
theorem encEv_V {e : S85} (h : NEv e) : V (encEv e) :=(txt_V (V_bytes _) (by rw [bytesOf_length];exact h.1.1)).append (txt_V h.2 h.1.2)
theorem encEv_len {e : S85} (h : NEv e) : (encEv e).length ≤ 512 :=by
 have h1 :=h.1.1
 have h2 :=h.1.2
 simp only [encEv,txt,List.length_append,List.length_cons,bytesOf_length]
 omega
theorem flat_V {α : Type} {f : α → List Int} {P : α → Prop} (hf : ∀ a,P a → V (f a)) : ∀ l : List α,(∀ a ∈ l,P a) → V (l.flatMap f)
 | [],_ => V.nil
 | a :: l,h => by
  rw [List.flatMap_cons]
  exact (hf a (h a (by simp))).append (flat_V hf l fun x hx => h x (by simp [hx]))
theorem flat_len {α : Type} {f : α → List Int} {P : α → Prop} {m : Nat} (hf : ∀ a,P a → (f a).length ≤ m) : ∀ l : List α,(∀ a ∈ l,P a) → (l.flatMap f).length ≤ m * l.length
 | [],_ => by simp
 | a :: l,h => by
  have h1 :=hf a (h a (by simp))
  have h2 :=flat_len hf l fun x hx => h x (by simp [hx])
  rw [List.flatMap_cons,List.length_append,List.length_cons,Nat.mul_succ]
  omega
theorem encPart_V {p : S83} (h : NPart p) : V (encPart p) :=(txt_V (V_bytes _) (by rw [bytesOf_length];exact h.1)).append ((be_V _ _).append ((be_V _ _).append (flat_V (f :=encEv) (fun _ => encEv_V) _ h.2.2.2)))
theorem encPart_len {p : S83} (h : NPart p) : (encPart p).length ≤ 4000 :=by
 have h1 :=h.1
 have h2 :=h.2.2.1
 have h3 :=flat_len (f :=encEv) (fun _ => encEv_len) _ h.2.2.2
 simp only [encPart,txt,List.length_append,List.length_cons,bytesOf_length,be_length]
 omega
theorem l1_e {R : ByteArray × List S83 × ByteArray × Bool} {x5 : Int} {b : Bool} {id : ByteArray} {ps : List S83} (hps : ps.length ≤ 100) {pn : ByteArray} {pe : Int} {r : List Int} (hr : V r) (hrl : r.length ≤ 800000000000) :
  ∀ (es acc : List S85),(∀ e ∈ es,NEv e) → es.length ≤ 6 → acc.length + es.length ≤ 100 →
   Ev (fun k => pr_commit.l0 k (IntKind.u64.wrap (x5 - 1)) (strOfNums r) b id (ps ++ [⟨pn,pe,acc ++ es⟩])) R →
   Ev (fun k => pr_commit.l1 k x5 (es.length : Int) (strOfNums (es.flatMap encEv ++ r)) b id ps pn pe acc) R
 | [],acc,he,hl,ha,hc => by
  rw [List.append_nil] at hc
  exact Ev.step (fun k => rfl) (Ev.no (by simp) (Ev.yes (by omega) hc))
 | e :: es,acc,he,hl,ha,hc => by
  have hE :=he e (by simp)
  have hes : ∀ x ∈ es,NEv x :=fun x hx => he x (by simp [hx])
  have hV : V (es.flatMap encEv ++ r) :=(flat_V (f :=encEv) (fun _ => encEv_V) _ hes).append hr
  have hL :=flat_len (f :=encEv) (fun _ => encEv_len) _ hes
  simp only [List.length_cons] at hl ha ⊢
  have h1 :=hE.1.1
  have h2 :=hE.1.2
  refine Ev.step (fun k => rfl) (Ev.yes (by omega) ?_)
  rw [List.flatMap_cons,encEv,List.append_assoc,List.append_assoc]
  refine Ev.bind (text_txt (V_bytes _) (by rw [bytesOf_length];exact h1) ((txt_V hE.2 h2).append hV) (by simp only [List.length_append,txt,List.length_cons];omega) b) ?_
  refine Ev.bind (text_txt hE.2 h2 hV (by rw [List.length_append];omega) b) ?_
  refine Ev.yes (by omega) ?_
  have ew : IntKind.u64.wrap (((es.length + 1 : Nat) : Int) - 1) = (es.length : Int) :=by rw [uwrap (by omega) (by omega)];omega
  show Ev (fun k => pr_commit.l1 k x5 (IntKind.u64.wrap (((es.length + 1 : Nat) : Int) - 1)) (strOfNums (es.flatMap encEv ++ r)) b id ps pn pe (acc ++ [⟨strOfNums (bytesOf e.f0),e.f1⟩])) R
  rw [ew,st_bytes]
  exact l1_e hps hr hrl es _ hes (by omega) (by simp only [List.length_append,List.length_singleton];omega) (by simpa using hc)
theorem l0_e {b : Bool} {id : ByteArray} {r : List Int} (hr : V r) (hrl : r.length ≤ 700000000000) : ∀ (ps acc : List S83),(∀ p ∈ ps,NPart p) → ps.length ≤ 5 → acc.length + ps.length ≤ 50 →
  Ev (fun k => pr_commit.l0 k (ps.length : Int) (strOfNums (ps.flatMap encPart ++ r)) b id acc) (id,acc ++ ps,strOfNums r,b)
 | [],acc,hp,hl,ha => by
  rw [List.append_nil]
  refine Ev.step (f :=fun k => some (id,acc,strOfNums r,b)) (fun k => ?_) (Ev.now _)
  unfold pr_commit.l0
  exact if_neg (by decide)
 | p :: ps,acc,hp,hl,ha => by
  have hP :=hp p (by simp)
  have hps : ∀ x ∈ ps,NPart x :=fun x hx => hp x (by simp [hx])
  have hV : V (ps.flatMap encPart ++ r) :=(flat_V (f :=encPart) (fun _ => encPart_V) _ hps).append hr
  have hL :=flat_len (f :=encPart) (fun _ => encPart_len) _ hps
  have hVe : V (p.f2.flatMap encEv) :=flat_V (f :=encEv) (fun _ => encEv_V) _ hP.2.2.2
  have hLe :=flat_len (f :=encEv) (fun _ => encEv_len) _ hP.2.2.2
  obtain ⟨h1,h2,h3,h4⟩ :=hP
  simp only [List.length_cons] at hl ha ⊢
  refine Ev.step (fun k => rfl) (Ev.yes (by omega) ?_)
  rw [List.flatMap_cons,encPart]
  simp only [List.append_assoc]
  refine Ev.bind (text_txt (V_bytes _) (by rw [bytesOf_length];exact h1) ((be_V _ _).append ((be_V _ _).append (hVe.append hV))) (by simp only [List.length_append,be_length];omega) b) ?_
  refine Ev.bind (num_be (by decide) (numOf_be8 (u64_rng _).1 (u64_rng _).2) ((be_V _ _).append (hVe.append hV)) (by simp only [List.length_append,be_length];omega) b) ?_
  refine Ev.bind (num_be (by decide) (numOf_be1 (by omega) (by omega)) (hVe.append hV) (by simp only [List.length_append];omega) b) ?_
  show Ev (fun k => pr_commit.l1 k ((ps.length + 1 : Nat) : Int) (Int.tmod (p.f2.length : Int) 7) (strOfNums (p.f2.flatMap encEv ++ (ps.flatMap encPart ++ r))) b id acc (strOfNums (bytesOf p.f0)) (wrap64 (IntKind.u64.wrap p.f1)) []) _
  rw [tmod_lt (by omega) (by omega),st_bytes,wrap_back h2]
  refine l1_e (by omega) hV (by rw [List.length_append];omega) p.f2 [] h4 h3 (by simp only [List.length_nil];omega) ?_
  have ew : IntKind.u64.wrap (((ps.length + 1 : Nat) : Int) - 1) = (ps.length : Int) :=by rw [uwrap (by omega) (by omega)];omega
  rw [ew,List.nil_append]
  have :=l0_e (b :=b) (id :=id) hr hrl ps (acc ++ [p]) hps (by omega) (by simp only [List.length_append,List.length_singleton];omega)
  rwa [List.append_assoc,List.singleton_append] at this
end Go.Proofs.YtlafgnanfkhobaaGreatDoor.P2
namespace Go.Proofs.YtlafgnanfkhobaaGreatDoor.P2
open Go.RowKit Go.Proofs.YtlafgnanfkhobaaGreatDoorW.PrintWords Go.Proofs.YtlafgnanfkhobaaGreatDoorW.PrintLast Go.Proofs.YtlafgnanfkhobaaGreatDoorW.PrintMore
theorem commit_e {b : Bool} {c : S43} (hid : c.f0.size ≤ 255) (hpl : c.f1.length ≤ 5) (hp : ∀ p ∈ c.f1,NPart p) {r : List Int} (hr : V r) (hrl : r.length ≤ 600000000000) :
  Ev (fun k => pr_commit.f k (strOfNums (txt (bytesOf c.f0) ++ (be (c.f1.length : Int) 1 ++ (c.f1.flatMap encPart ++ r)))) b) (c.f0,c.f1,strOfNums r,b) :=by
 have hV :=(flat_V (f :=encPart) (fun _ => encPart_V) _ hp).append hr
 have hL :=flat_len (f :=encPart) (fun _ => encPart_len) _ hp
 unfold pr_commit.f
 refine Ev.bind (text_txt (V_bytes _) (by rw [bytesOf_length];exact hid) ((be_V _ _).append hV) (by simp only [List.length_append,be_length];omega) b) ?_
 refine Ev.bind (num_be (by decide) (numOf_be1 (by omega) (by omega)) hV (by rw [List.length_append];omega) b) ?_
 show Ev (fun k => pr_commit.l0 k (Int.tmod (c.f1.length : Int) 6) (strOfNums (c.f1.flatMap encPart ++ r)) b (strOfNums (bytesOf c.f0)) []) _
 rw [tmod_lt (by omega) (by omega),st_bytes]
 exact l0_e hr (by omega) c.f1 [] hp hpl (by simp only [List.length_nil];omega)
def encName (s : ByteArray) : List Int :=txt (bytesOf s)
theorem encName_V {s : ByteArray} (h : s.size ≤ 255) : V (encName s) :=txt_V (V_bytes _) (by rw [bytesOf_length];exact h)
theorem encName_len {s : ByteArray} (h : s.size ≤ 255) : (encName s).length ≤ 256 :=by
 simp only [encName,txt,List.length_cons,bytesOf_length]
 omega
def encTail (q : S46) : List Int :=be (IntKind.u64.wrap q.f4) 8 ++ (txt q.f5 ++ (be (IntKind.u64.wrap q.f6) 2 ++ (be (IntKind.u64.wrap q.f7) 2 ++ (be (if q.f8 then 1 else 0) 1 ++ txt q.f9))))
theorem encReq_eq (q : S46) : encReq q = be (IntKind.u64.wrap q.f0) 1 ++ (txt (bytesOf q.f1.f0) ++ (be (q.f1.f1.length : Int) 1 ++ (q.f1.f1.flatMap encPart ++ (txt (bytesOf q.f2) ++ (be (q.f3.length : Int) 1 ++ (q.f3.flatMap encName ++ encTail q)))))) :=rfl
theorem encTail_V {q : S46} (h : NReq q) : V (encTail q) :=(be_V _ _).append ((txt_V h.f5.1 h.f5.2).append ((be_V _ _).append ((be_V _ _).append ((be_V _ _).append (txt_V h.f9.1 h.f9.2)))))
theorem encTail_len {q : S46} (h : NReq q) : (encTail q).length ≤ 600 :=by
 have h5 :=h.f5.2
 have h9 :=h.f9.2
 simp only [encTail,txt,List.length_append,List.length_cons,be_length]
 omega
theorem req_l0_e {q : S46} (h : NReq q) {b : Bool} {r : List Int} (hr : V r) (hrl : r.length ≤ 500000000000) : ∀ (ns acc : List ByteArray),(∀ s ∈ ns,s.size ≤ 255) → ns.length ≤ 9 → acc.length + ns.length ≤ 50 →
  Ev (fun k => pr_request.l0 k (ns.length : Int) (strOfNums (ns.flatMap encName ++ (encTail q ++ r))) b q.f0 q.f1.f0 q.f1.f1 q.f2 acc 0 0 0 false) (q.f0,q.f1.f0,q.f1.f1,q.f2,acc ++ ns,q.f4,q.f5,q.f6,q.f7,q.f8,q.f9,strOfNums r,b)
 | [],acc,hs,hl,ha => by
  obtain ⟨d1,d2⟩ :=h.f5
  obtain ⟨t1,t2⟩ :=h.f9
  obtain ⟨N0,N1⟩ :=h.f6
  obtain ⟨L0,L1⟩ :=h.f7
  have v9 :=(txt_V t1 t2).append hr
  have l9 : (txt q.f9 ++ r).length ≤ 500000000256 :=by simp only [List.length_append,txt,List.length_cons];omega
  have l5 : (txt q.f5).length ≤ 256 :=by simp only [txt,List.length_cons];omega
  refine Ev.step (fun k => rfl) (Ev.no (by simp) ?_)
  rw [List.append_nil,List.flatMap_nil,List.nil_append,encTail]
  simp only [List.append_assoc]
  refine Ev.bind (num_be (by decide) (numOf_be8 (u64_rng _).1 (u64_rng _).2) ((txt_V d1 d2).append ((be_V _ _).append ((be_V _ _).append ((be_V _ _).append v9)))) (by simp only [List.length_append,be_length] at l9 ⊢;omega) b) ?_
  refine Ev.bind (text_txt d1 d2 ((be_V _ _).append ((be_V _ _).append ((be_V _ _).append v9))) (by simp only [List.length_append,be_length] at l9 ⊢;omega) b) ?_
  refine Ev.bind (num_be (by decide) (by rw [uwrap N0 (by omega)];exact numOf_be2 N0 (by omega)) ((be_V _ _).append ((be_V _ _).append v9)) (by simp only [List.length_append,be_length] at l9 ⊢;omega) b) ?_
  refine Ev.bind (num_be (by decide) (by rw [uwrap L0 (by omega)];exact numOf_be2 L0 (by omega)) ((be_V _ _).append v9) (by simp only [List.length_append,be_length] at l9 ⊢;omega) b) ?_
  refine Ev.bind (num_be (by decide) (by cases q.f8 <;> decide) v9 (by omega) b) ?_
  refine Ev.bind (text_txt t1 t2 hr (by omega) b) ?_
  have e4 :=wrap_back h.f4
  have e6 : wrap64 (IntKind.u64.wrap q.f6) = q.f6 :=by rw [uwrap N0 (by omega)];exact wrap_small (by omega) (by omega)
  have e7 : wrap64 (IntKind.u64.wrap q.f7) = q.f7 :=by rw [uwrap L0 (by omega)];exact wrap_small (by omega) (by omega)
  have e8 : (Int.tmod (if q.f8 then 1 else 0) 2 == 1) = q.f8 :=by cases q.f8 <;> rfl
  refine Ev.congr (fun k => ?_) (Ev.now _)
  show some (q.f0,q.f1.f0,q.f1.f1,q.f2,acc,wrap64 (IntKind.u64.wrap q.f4),q.f5,wrap64 (IntKind.u64.wrap q.f6),wrap64 (IntKind.u64.wrap q.f7),(Int.tmod (if q.f8 then 1 else 0) 2 == 1),q.f9,strOfNums r,b) = _
  rw [e4,e6,e7,e8]
 | s :: ns,acc,hs,hl,ha => by
  have hS :=hs s (by simp)
  have hns : ∀ x ∈ ns,x.size ≤ 255 :=fun x hx => hs x (by simp [hx])
  have hV : V (ns.flatMap encName ++ (encTail q ++ r)) :=(flat_V (f :=encName) (fun _ => encName_V) _ hns).append ((encTail_V h).append hr)
  have hL :=flat_len (f :=encName) (fun _ => encName_len) _ hns
  have hT :=encTail_len h
  simp only [List.length_cons] at hl ha ⊢
  refine Ev.step (fun k => rfl) (Ev.yes (by omega) ?_)
  rw [List.flatMap_cons,List.append_assoc]
  refine Ev.bind (text_txt (V_bytes s) (by rw [bytesOf_length];exact hS) hV (by simp only [List.length_append];omega) b) ?_
  refine Ev.yes (by omega) ?_
  have ew : IntKind.u64.wrap (((ns.length + 1 : Nat) : Int) - 1) = (ns.length : Int) :=by rw [uwrap (by omega) (by omega)];omega
  show Ev (fun k => pr_request.l0 k (IntKind.u64.wrap (((ns.length + 1 : Nat) : Int) - 1)) (strOfNums (ns.flatMap encName ++ (encTail q ++ r))) b q.f0 q.f1.f0 q.f1.f1 q.f2 (acc ++ [strOfNums (bytesOf s)]) 0 0 0 false) _
  rw [ew,st_bytes]
  have :=req_l0_e h (b :=b) hr hrl ns (acc ++ [s]) hns (by omega) (by simp only [List.length_append,List.length_singleton];omega)
  rwa [List.append_assoc,List.singleton_append] at this
theorem req_e {q : S46} (h : NReq q) {b : Bool} {r : List Int} (hr : V r) (hrl : r.length ≤ 400000000000) :
  Ev (fun k => pr_request.f k (strOfNums (encReq q ++ r)) b) (q.f0,q.f1.f0,q.f1.f1,q.f2,q.f3,q.f4,q.f5,q.f6,q.f7,q.f8,q.f9,strOfNums r,b) :=by
 obtain ⟨f0,f1⟩ :=h.f0
 have v1 :=(encTail_V h).append hr
 have v2 :=(flat_V (f :=encName) (fun _ => encName_V) _ h.f3s).append v1
 have hT :=encTail_len h
 have hN :=flat_len (f :=encName) (fun _ => encName_len) _ h.f3s
 have hP :=flat_len (f :=encPart) (fun _ => encPart_len) _ h.part
 have n3 :=h.f3
 have n5 :=h.parts
 have t2 : (txt (bytesOf q.f2)).length ≤ 256 :=by have :=h.f2;simp only [txt,List.length_cons,bytesOf_length];omega
 have t0 : (txt (bytesOf q.f1.f0)).length ≤ 256 :=by have :=h.id;simp only [txt,List.length_cons,bytesOf_length];omega
 have v3 :=(be_V (q.f3.length : Int) 1).append v2
 have v4 :=(txt_V (V_bytes q.f2) (by rw [bytesOf_length];exact h.f2)).append v3
 unfold pr_request.f
 rw [encReq_eq]
 simp only [List.append_assoc]
 refine Ev.bind (num_be (by decide) (by rw [uwrap f0 (by omega)];exact numOf_be1 f0 (by omega)) ((txt_V (V_bytes _) (by rw [bytesOf_length];exact h.id)).append ((be_V _ _).append ((flat_V (f :=encPart) (fun _ => encPart_V) _ h.part).append v4))) (by simp only [List.length_append,be_length];omega) b) ?_
 refine Ev.bind (commit_e (c :=q.f1) h.id h.parts h.part v4 (by simp only [List.length_append,be_length];omega)) ?_
 refine Ev.bind (text_txt (V_bytes _) (by rw [bytesOf_length];exact h.f2) v3 (by simp only [List.length_append,be_length];omega) b) ?_
 refine Ev.bind (num_be (by decide) (numOf_be1 (by omega) (by omega)) v2 (by simp only [List.length_append];omega) b) ?_
 show Ev (fun k => pr_request.l0 k (Int.tmod (q.f3.length : Int) 10) (strOfNums (q.f3.flatMap encName ++ (encTail q ++ r))) b (wrap64 (IntKind.u64.wrap q.f0)) q.f1.f0 q.f1.f1 (strOfNums (bytesOf q.f2)) [] 0 0 0 false) _
 rw [tmod_lt (by omega) (by omega),st_bytes,uwrap f0 (by omega),wrap_small (by omega) (by omega)]
 exact req_l0_e h hr (by omega) q.f3 [] h.f3s h.f3 (by simp only [List.length_nil];omega)
end Go.Proofs.YtlafgnanfkhobaaGreatDoor.P2
namespace Go.Proofs.YtlafgnanfkhobaaGreatDoor.P2
open Go.RowKit Go.Proofs.YtlafgnanfkhobaaGreatDoorW.PrintWords Go.Proofs.YtlafgnanfkhobaaGreatDoorW.PrintLast Go.Proofs.YtlafgnanfkhobaaGreatDoorW.PrintMore
attribute [local go_sem] max2_int min2_int max_two min_two max_three min_three max_four min_four
theorem encStep_V {s : S48} (h : NStep s) : V (encStep s) :=by
 unfold encStep
 refine (be_V _ _).append ?_
 rcases h with ⟨h1,h2,_,_⟩ | ⟨h1,_,h2,_⟩ | ⟨h1,_,_,h2,h3⟩ | ⟨h1,_,_,_⟩
 ·rw [if_pos h1]
  have hq : V (encReq s.f1) :=by
   rw [encReq_eq]
   exact (be_V _ _).append ((txt_V (V_bytes _) (by rw [bytesOf_length];exact h2.id)).append ((be_V _ _).append ((flat_V (f :=encPart) (fun _ => encPart_V) _ h2.part).append ((txt_V (V_bytes _) (by rw [bytesOf_length];exact h2.f2)).append ((be_V _ _).append ((flat_V (f :=encName) (fun _ => encName_V) _ h2.f3s).append (encTail_V h2)))))))
  exact hq
 ·rw [if_neg (by omega),if_pos h1];exact be_V _ _
 ·rw [if_neg (by omega),if_neg (by omega),if_pos h1];exact txt_V h2 h3
 ·rw [if_neg (by omega),if_neg (by omega),if_neg (by omega)];exact V.nil
theorem encStep_len {s : S48} (h : NStep s) : (encStep s).length ≤ 100000 :=by
 unfold encStep
 rw [List.length_append,be_length]
 rcases h with ⟨h1,h2,_,_⟩ | ⟨h1,_,h2,_⟩ | ⟨h1,_,_,h2,h3⟩ | ⟨h1,_,_,_⟩
 ·rw [if_pos h1,encReq_eq]
  have a1 :=encTail_len h2
  have a2 :=flat_len (f :=encName) (fun _ => encName_len) _ h2.f3s
  have a3 :=flat_len (f :=encPart) (fun _ => encPart_len) _ h2.part
  have a4 :=h2.f3
  have a5 :=h2.parts
  have a6 :=h2.f2
  have a7 :=h2.id
  simp only [List.length_append,be_length,txt,List.length_cons,bytesOf_length]
  omega
 ·rw [if_neg (by omega),if_pos h1,be_length];omega
 ·rw [if_neg (by omega),if_neg (by omega),if_pos h1];simp only [txt,List.length_cons];omega
 ·rw [if_neg (by omega),if_neg (by omega),if_neg (by omega)];simp
theorem kk {c : Int} (h0 : 0 ≤ c) (h1 : c < 5) : wrap64 (Int.tmod c 5) = c :=by
 rw [tmod_lt h0 h1]
 exact wrap_small (by omega) (by omega)
theorem num_kind {c : Int} (h0 : 0 ≤ c) (h1 : c < 5) {r : List Int} (hr : V r) (hl : r.length ≤ 999000000000) (b : Bool) : Ev (fun k => pr_num.f k (strOfNums (be (IntKind.u64.wrap c) 1 ++ r)) b 1) (c,strOfNums r,b) :=by
 rw [uwrap h0 (by omega)]
 exact num_be (n :=1) (by decide) (numOf_be1 h0 (by omega)) hr hl b
theorem dec_one {s : S48} (h : NStep s) {acc : List S48} {r : List Int} (hr : V r) (hrl : r.length ≤ 300000000000) (ha : acc.length ≤ 100000) {R : List S48}
  (hc : Ev (fun k => pDe.l0 k (acc ++ [s]) (strOfNums r) false) R) : Ev (fun k => pDe.l0 k acc (strOfNums (encStep s ++ r)) false) R :=by
 have hv :=encStep_V h
 have hl :=encStep_len h
 have hpos : 0 < (encStep s).length :=by unfold encStep;rw [List.length_append,be_length];omega
 refine Ev.step (fun k => rfl) (Ev.yes (by rw [st_size,List.length_append];omega) ?_)
 obtain ⟨f0,f1,f2,f3⟩ :=s
 rcases h with ⟨h1,h2,h3,h4⟩ | ⟨h1,h2,h3,h4⟩ | ⟨h1,h2,h3,h4,h5⟩ | ⟨h1,h2,h3,h4⟩
 all_goals
  simp only at h1 h2 h3 h4
  subst h1
 ·subst h3
  subst h4
  have he : encStep ⟨1,f1,0,[]⟩ = be (IntKind.u64.wrap 1) 1 ++ encReq f1 :=rfl
  rw [he] at hv hl ⊢
  have hq : V (encReq f1) :=fun x hx => hv x (List.mem_append_right _ hx)
  rw [List.length_append] at hl
  rw [List.append_assoc]
  refine Ev.bind (num_kind (by decide) (by decide) (hq.append hr) (by rw [List.length_append];omega) false) ?_
  refine Ev.no (show ¬ wrap64 (Int.tmod 1 5) = 0 by rw [kk (by decide) (by decide)];decide) (Ev.yes (show wrap64 (Int.tmod 1 5) = 1 from kk (by decide) (by decide)) ?_)
  refine Ev.bind (req_e h2 hr (by omega)) ?_
  refine Ev.no (show ¬ false = true by decide) (Ev.yes (by omega) ?_)
  show Ev (fun k => pDe.l0 k (acc ++ [⟨wrap64 (Int.tmod 1 5),f1,0,[]⟩]) (strOfNums r) false) R
  rw [show wrap64 (Int.tmod 1 5) = 1 from kk (by decide) (by decide)]
  exact hc
 ·subst h2
  subst h4
  have he : encStep ⟨2,z46,f2,[]⟩ = be (IntKind.u64.wrap 2) 1 ++ be (IntKind.u64.wrap f2) 2 :=rfl
  rw [he,List.append_assoc]
  refine Ev.bind (num_kind (by decide) (by decide) ((be_V _ _).append hr) (by rw [List.length_append,be_length];omega) false) ?_
  refine Ev.no (show ¬ wrap64 (Int.tmod 2 5) = 0 by rw [kk (by decide) (by decide)];decide) (Ev.no (show ¬ wrap64 (Int.tmod 2 5) = 1 by rw [kk (by decide) (by decide)];decide) (Ev.yes (show wrap64 (Int.tmod 2 5) = 2 from kk (by decide) (by decide)) ?_))
  refine Ev.bind (num_be (n :=2) (by decide) (by rw [uwrap h3.1 (by omega)];exact numOf_be2 h3.1 (by omega)) hr (by omega) false) ?_
  refine Ev.no (show ¬ false = true by decide) (Ev.yes (by omega) ?_)
  have e : wrap64 (IntKind.u64.wrap f2) = f2 :=by rw [uwrap h3.1 (by omega)];exact wrap_small (by omega) (by omega)
  show Ev (fun k => pDe.l0 k (acc ++ [⟨wrap64 (Int.tmod 2 5),z46,wrap64 (IntKind.u64.wrap f2),[]⟩]) (strOfNums r) false) R
  rw [e,show wrap64 (Int.tmod 2 5) = 2 from kk (by decide) (by decide)]
  exact hc
 ·subst h2
  subst h3
  simp only at h5
  have he : encStep ⟨3,z46,0,f3⟩ = be (IntKind.u64.wrap 3) 1 ++ txt f3 :=rfl
  rw [he,List.append_assoc]
  refine Ev.bind (num_kind (by decide) (by decide) ((txt_V h4 h5).append hr) (by simp only [List.length_append,txt,List.length_cons];omega) false) ?_
  refine Ev.no (show ¬ wrap64 (Int.tmod 3 5) = 0 by rw [kk (by decide) (by decide)];decide) (Ev.no (show ¬ wrap64 (Int.tmod 3 5) = 1 by rw [kk (by decide) (by decide)];decide) (Ev.no (show ¬ wrap64 (Int.tmod 3 5) = 2 by rw [kk (by decide) (by decide)];decide) (Ev.yes (show wrap64 (Int.tmod 3 5) = 3 from kk (by decide) (by decide)) ?_)))
  refine Ev.bind (text_txt h4 h5 hr (by omega) false) ?_
  refine Ev.no (show ¬ false = true by decide) (Ev.yes (by omega) ?_)
  show Ev (fun k => pDe.l0 k (acc ++ [⟨wrap64 (Int.tmod 3 5),z46,0,f3⟩]) (strOfNums r) false) R
  rw [show wrap64 (Int.tmod 3 5) = 3 from kk (by decide) (by decide)]
  exact hc
 ·subst h2
  subst h3
  subst h4
  have he : encStep ⟨4,z46,0,[]⟩ = be (IntKind.u64.wrap 4) 1 ++ [] :=rfl
  rw [he,List.append_assoc,List.nil_append]
  refine Ev.bind (num_kind (by decide) (by decide) hr (by omega) false) ?_
  refine Ev.no (show ¬ wrap64 (Int.tmod 4 5) = 0 by rw [kk (by decide) (by decide)];decide) (Ev.no (show ¬ wrap64 (Int.tmod 4 5) = 1 by rw [kk (by decide) (by decide)];decide) (Ev.no (show ¬ wrap64 (Int.tmod 4 5) = 2 by rw [kk (by decide) (by decide)];decide) (Ev.no (show ¬ wrap64 (Int.tmod 4 5) = 3 by rw [kk (by decide) (by decide)];decide) (Ev.no (show ¬ false = true by decide) (Ev.yes (by omega) ?_)))))
  show Ev (fun k => pDe.l0 k (acc ++ [⟨wrap64 (Int.tmod 4 5),z46,0,[]⟩]) (strOfNums r) false) R
  rw [show wrap64 (Int.tmod 4 5) = 4 from kk (by decide) (by decide)]
  exact hc
theorem dec_flat : ∀ (l acc : List S48),(∀ s ∈ l,NStep s) → acc.length + l.length ≤ 1000 → Ev (fun k => pDe.l0 k acc (strOfNums (l.flatMap encStep)) false) (acc ++ l)
 | [],acc,hl,ha => by
  rw [List.append_nil,List.flatMap_nil]
  exact Ev.step (fun k => rfl) (Ev.no (by simp [st_size]) (Ev.now _))
 | s :: l,acc,hl,ha => by
  have hs : ∀ x ∈ l,NStep x :=fun x hx => hl x (by simp [hx])
  have hL :=flat_len (f :=encStep) (fun _ => encStep_len) _ hs
  simp only [List.length_cons] at ha
  rw [List.flatMap_cons]
  refine dec_one (hl s (by simp)) (flat_V (f :=encStep) (fun _ => encStep_V) _ hs) (by omega) (by omega) ?_
  have :=dec_flat l (acc ++ [s]) hs (by simp only [List.length_append,List.length_singleton];omega)
  rwa [List.append_assoc,List.singleton_append] at this
theorem dec_e {l : List S48} (hl : ∀ s ∈ l,NStep s) (hn : l.length ≤ 1000) : Ev (fun k => pDe.f k (l.flatMap encStep)) l :=by
 have hv :=flat_V (f :=encStep) (fun _ => encStep_V) _ hl
 unfold pDe.f
 exact Ev.bind (a :=(strOfNums (l.flatMap encStep),false)) (Ev.congr (fun k => if_pos hv) (Ev.now _)) (dec_flat l [] hl (by simpa using hn))
theorem ok_of {s : S48} (h : NStep s) : okStep s :=by
 have hd :=dec_e (l :=[s]) (fun x hx => by rw [List.mem_singleton.1 hx];exact h) (by simp)
 rw [List.flatMap_cons,List.flatMap_nil,List.append_nil] at hd
 obtain ⟨k,hk⟩ :=hd.rounds
 have hz : okReq z46 :=⟨by decide,by decide,(fun p hp => by cases hp),by decide,by decide,(fun p hp => by cases hp),by decide,by decide⟩
 have hq : okReq s.f1 :=by
  rcases h with ⟨_,h2,_,_⟩ | ⟨_,h2,_,_⟩ | ⟨_,h2,_,_,_⟩ | ⟨_,h2,_,_⟩
  ·exact ⟨h2.id,h2.parts,fun p hp => ⟨(h2.part p hp).1,(h2.part p hp).2.2.1,fun e he => ((h2.part p hp).2.2.2 e he).1⟩,h2.f2,h2.f3,h2.f3s,h2.f5.2,h2.f9.2⟩
  ·rw [h2];exact hz
  ·rw [h2];exact hz
  ·rw [h2];exact hz
 have h3 : s.f3.length ≤ 255 :=by
  rcases h with ⟨_,_,_,h⟩ | ⟨_,_,_,h⟩ | ⟨_,_,_,_,h⟩ | ⟨_,_,_,h⟩
  ·rw [h];decide
  ·rw [h];decide
  ·exact h
  ·rw [h];decide
 exact ⟨hq,h3,encStep_len h,k,hk⟩
theorem T.succ {α : Type} {g : Nat → Option α} {Q : α → Prop} (h : T (fun k => g (k + 1)) Q) : T g Q :=T.step (fun k => rfl) h
end Go.Proofs.YtlafgnanfkhobaaGreatDoor.P2
namespace Go.Proofs.YtlafgnanfkhobaaGreatDoor.P2
open Go.RowKit Go.Proofs.YtlafgnanfkhobaaGreatDoorW.PrintWords Go.Proofs.YtlafgnanfkhobaaGreatDoorW.PrintLast Go.Proofs.YtlafgnanfkhobaaGreatDoorW.PrintMore
attribute [local go_sem] max2_int min2_int max_two min_two max_three min_three max_four min_four
def Mid (ys : List Int) (b : Bool) (z : List Int) : Prop :=V z ∧ z.length ≤ 200000 ∧ ((b = false ∧ ∃ k,k < z.length ∧ ys = z.take k) ∨ (b = true ∧ ys = []))
theorem Mid.V {ys : List Int} {b : Bool} {z : List Int} (h : Mid ys b z) : V ys :=by
 rcases h with ⟨hv,_,⟨_,k,_,rfl⟩ | ⟨_,rfl⟩⟩
 ·exact hv.take k
 ·exact P2.V.nil
theorem Mid.len {ys : List Int} {b : Bool} {z : List Int} (h : Mid ys b z) : ys.length ≤ 200000 :=by
 rcases h with ⟨_,hl,⟨_,k,_,rfl⟩ | ⟨_,rfl⟩⟩
 ·rw [List.length_take];omega
 ·exact Nat.zero_le _
theorem V.right {a z : List Int} (h : V (a ++ z)) : V z :=fun x hx => h x (List.mem_append_right _ hx)
theorem V.left {a z : List Int} (h : V (a ++ z)) : V a :=fun x hx => h x (List.mem_append_left _ hx)
theorem Mid.dead {ys : List Int} {b : Bool} {a z : List Int} (h : Mid ys b (a ++ z)) : Mid [] true z :=
 ⟨h.1.right,by have :=h.2.1;rw [List.length_append] at this;omega,.inr ⟨rfl,rfl⟩⟩
theorem Mid.cut {ys : List Int} {b : Bool} {a z : List Int} (h : Mid ys b (a ++ z)) : (b = false ∧ ys.length < a.length) ∨ (b = false ∧ ∃ zs,ys = a ++ zs ∧ Mid zs false z) ∨ (b = true ∧ ys = []) :=by
 have hd :=h.dead
 rcases h with ⟨hv,hl,⟨rfl,k,hk,rfl⟩ | ⟨rfl,rfl⟩⟩
 ·rw [List.length_append] at hk
  by_cases hka : k < a.length
  ·exact .inl ⟨rfl,by rw [List.length_take,List.length_append];omega⟩
  ·refine .inr (.inl ⟨rfl,z.take (k - a.length),?_,hd.1,hd.2.1,.inl ⟨rfl,k - a.length,by omega,rfl⟩⟩)
   rw [List.take_append,List.take_of_length_le (by omega)]
 ·exact .inr (.inr ⟨rfl,rfl⟩)
theorem Mid.none {ys : List Int} {b : Bool} (h : Mid ys b []) : b = true :=by
 rcases h with ⟨_,_,⟨_,k,hk,_⟩ | ⟨h,_⟩⟩
 ·simp at hk
 ·exact h
theorem num_c {x : Int} {n : Nat} (hn : n ≤ 8) (h1 : 1 ≤ n) (hb : numOf (be x n) = x) {ys : List Int} {b : Bool} {z : List Int} (h : Mid ys b (be x n ++ z)) :
  T (fun k => pr_num.f k (strOfNums ys) b n) (fun r => (∃ zs,r = (x,strOfNums zs,false) ∧ Mid zs false z) ∨ (r = (0,strOfNums [],true) ∧ Mid [] true z)) :=by
 rcases h.cut with ⟨rfl,hl⟩ | ⟨rfl,zs,rfl,hs⟩ | ⟨rfl,rfl⟩
 ·exact T.of (num_short h.V false (by rwa [be_length] at hl)) (.inr ⟨rfl,h.dead⟩)
 ·exact T.of (num_be hn hb hs.V (by have :=hs.len;omega) false) (.inl ⟨zs,rfl,hs⟩)
 ·exact T.of (num_short V.nil true (by rw [List.length_nil];omega)) (.inr ⟨rfl,h.dead⟩)
theorem num_s {x : Int} {n : Nat} (hn : n ≤ 8) (h1 : 1 ≤ n) (hb : numOf (be x n) = x) {ys : List Int} {b : Bool} {z : List Int} (h : Mid ys b (be x n ++ z)) :
  T (fun k => pr_num.f k (strOfNums ys) b n) (fun r => ∃ v zs b',r = (v,strOfNums zs,b') ∧ Mid zs b' z) :=by
 refine (num_c hn h1 hb h).mono ?_
 rintro r (⟨zs,rfl,hs⟩ | ⟨rfl,hs⟩)
 ·exact ⟨_,_,_,rfl,hs⟩
 ·exact ⟨_,_,_,rfl,hs⟩
theorem text_c {xs : List Int} (hl : xs.length ≤ 255) {ys : List Int} {b : Bool} {z : List Int} (h : Mid ys b (txt xs ++ z)) :
  T (fun k => pr_text.f k (strOfNums ys) b) (fun r => ∃ v zs b',r = (v,strOfNums zs,b') ∧ Mid zs b' z) :=by
 rw [txt_be xs hl,List.append_assoc] at h
 unfold pr_text.f
 refine T.bind (num_c (n :=1) (by decide) (by decide) (numOf_be1 (by omega) (by omega)) h) ?_
 rintro r (⟨zs,rfl,hs⟩ | ⟨rfl,hs⟩)
 ·have e : wrap64 (xs.length : Int) = ((xs.length : Nat) : Int) :=wrap_small (by omega) (by omega)
  rcases hs.cut with ⟨_,hk⟩ | ⟨_,us,rfl,hu⟩ | ⟨h2,_⟩
  ·refine T.bind (Q :=fun r => r = ([],strOfNums [],true)) (T.congr (fun k => by show pr_bytes.f (strOfNums zs) false (wrap64 (xs.length : Int)) = _;rw [e];exact bytes_short hs.V false hk) (T.now _ rfl)) ?_
   rintro r rfl
   exact T.now _ ⟨_,_,_,rfl,hs.dead⟩
  ·refine T.bind (Q :=fun r => r = (xs,strOfNums us,false)) (T.congr (fun k => by show pr_bytes.f (strOfNums (xs ++ us)) false (wrap64 (xs.length : Int)) = _;rw [e,bytes_ok hs.V (by have :=hs.len;omega) false (by rw [List.length_append];omega),List.take_left,List.drop_left]) (T.now _ rfl)) ?_
   rintro r rfl
   exact T.now _ ⟨_,_,_,rfl,hu⟩
  ·exact absurd h2 (by decide)
 ·refine T.bind (Q :=fun r => r = ([],strOfNums [],true)) (T.congr (fun k => by show pr_bytes.f (strOfNums []) true (wrap64 0) = _;rw [show wrap64 0 = ((0 : Nat) : Int) from wrap_small (by omega) (by omega)];exact bytes_ok (xs :=[]) (n :=0) V.nil (by decide) true (by decide)) (T.now _ rfl)) ?_
  rintro r rfl
  exact T.now _ ⟨_,_,_,rfl,hs.dead⟩
theorem l1_c {R : ByteArray × List S83 × ByteArray × Bool → Prop} {x5 : Int} {id : ByteArray} {ps : List S83} (hps : ps.length ≤ 100) {pn : ByteArray} {pe : Int} {z : List Int}
  (hcont : ∀ ys b p,Mid ys b z → T (fun k => pr_commit.l0 k (IntKind.u64.wrap (x5 - 1)) (strOfNums ys) b id (ps ++ [p])) R) :
  ∀ (es acc : List S85) (ys : List Int) (b : Bool),(∀ e ∈ es,NEv e) → es.length ≤ 6 → acc.length + es.length ≤ 100 → Mid ys b (es.flatMap encEv ++ z) → T (fun k => pr_commit.l1 k x5 (es.length : Int) (strOfNums ys) b id ps pn pe acc) R
 | [],acc,ys,b,he,hl,ha,h => T.step (fun k => rfl) (T.no (by simp) (T.yes (by omega) (hcont ys b _ h)))
 | e :: es,acc,ys,b,he,hl,ha,h => by
  have hE :=he e (by simp)
  have h1 :=hE.1.1
  simp only [List.length_cons] at hl ha ⊢
  refine T.step (fun k => rfl) (T.yes (by omega) ?_)
  rw [List.flatMap_cons,encEv,List.append_assoc,List.append_assoc] at h
  refine T.bind (text_c (by rw [bytesOf_length];exact h1) h) ?_
  rintro r ⟨v,zs,b',rfl,hs⟩
  refine T.bind (text_c hE.1.2 hs) ?_
  rintro r ⟨v2,zs2,b2,rfl,hs2⟩
  refine T.yes (by omega) ?_
  have ew : IntKind.u64.wrap (((es.length + 1 : Nat) : Int) - 1) = (es.length : Int) :=by rw [uwrap (by omega) (by omega)];omega
  show T (fun k => pr_commit.l1 k x5 (IntKind.u64.wrap (((es.length + 1 : Nat) : Int) - 1)) (strOfNums zs2) b2 id ps pn pe (acc ++ [⟨strOfNums v,v2⟩])) R
  rw [ew]
  exact l1_c hps hcont es _ zs2 b2 (fun x hx => he x (by simp [hx])) (by omega) (by simp only [List.length_append,List.length_singleton];omega) hs2
theorem l0_c {id : ByteArray} {z : List Int} : ∀ (ps acc : List S83) (ys : List Int) (b : Bool),(∀ p ∈ ps,NPart p) → ps.length ≤ 5 → acc.length + ps.length ≤ 50 → Mid ys b (ps.flatMap encPart ++ z) →
  T (fun k => pr_commit.l0 k (ps.length : Int) (strOfNums ys) b id acc) (fun r => ∃ i qs zs b',r = (i,qs,strOfNums zs,b') ∧ Mid zs b' z)
 | [],acc,ys,b,hp,hl,ha,h => by
  refine T.step (f :=fun k => some (id,acc,strOfNums ys,b)) (fun k => ?_) (T.now _ ⟨_,_,_,_,rfl,h⟩)
  unfold pr_commit.l0
  exact if_neg (by decide)
 | p :: ps,acc,ys,b,hp,hl,ha,h => by
  obtain ⟨h1,h2,h3,h4⟩ :=hp p (by simp)
  have hps : ∀ x ∈ ps,NPart x :=fun x hx => hp x (by simp [hx])
  simp only [List.length_cons] at hl ha ⊢
  refine T.step (fun k => rfl) (T.yes (by omega) ?_)
  rw [List.flatMap_cons,encPart] at h
  simp only [List.append_assoc] at h
  have ew : IntKind.u64.wrap (((ps.length + 1 : Nat) : Int) - 1) = (ps.length : Int) :=by rw [uwrap (by omega) (by omega)];omega
  refine T.bind (text_c (by rw [bytesOf_length];exact h1) h) ?_
  rintro r ⟨v,zs,b1,rfl,hs⟩
  refine T.bind (num_s (by decide) (by decide) (numOf_be8 (u64_rng _).1 (u64_rng _).2) hs) ?_
  rintro r ⟨v2,zs2,b2,rfl,hs2⟩
  have hcont : ∀ ys b q,Mid ys b (ps.flatMap encPart ++ z) → T (fun k => pr_commit.l0 k (IntKind.u64.wrap (((ps.length + 1 : Nat) : Int) - 1)) (strOfNums ys) b id (acc ++ [q])) (fun r => ∃ i qs zs b',r = (i,qs,strOfNums zs,b') ∧ Mid zs b' z) :=by
   intro us c q hu
   rw [ew]
   exact l0_c ps (acc ++ [q]) us c hps (by omega) (by simp only [List.length_append,List.length_singleton];omega) hu
  refine T.bind (num_c (n :=1) (by decide) (by decide) (numOf_be1 (by omega) (by omega)) hs2) ?_
  rintro r (⟨zs3,rfl,hs3⟩ | ⟨rfl,hs3⟩)
  ·show T (fun k => pr_commit.l1 k ((ps.length + 1 : Nat) : Int) (Int.tmod (p.f2.length : Int) 7) (strOfNums zs3) false id acc (strOfNums v) (wrap64 v2) []) _
   rw [tmod_lt (by omega) (by omega)]
   exact l1_c (by omega) hcont p.f2 [] zs3 false h4 h3 (by simp only [List.length_nil];omega) hs3
  ·exact l1_c (by omega) hcont [] [] [] true (fun e he => by cases he) (by decide) (by decide) hs3.dead
theorem commit_c {id : List Int} (hid : id.length ≤ 255) {ps : List S83} (hp : ∀ p ∈ ps,NPart p) (hl : ps.length ≤ 5) {ys : List Int} {b : Bool} {z : List Int} (h : Mid ys b (txt id ++ (be (ps.length : Int) 1 ++ (ps.flatMap encPart ++ z)))) :
  T (fun k => pr_commit.f k (strOfNums ys) b) (fun r => ∃ i qs zs b',r = (i,qs,strOfNums zs,b') ∧ Mid zs b' z) :=by
 unfold pr_commit.f
 refine T.bind (text_c hid h) ?_
 rintro r ⟨v,zs,b1,rfl,hs⟩
 refine T.bind (num_c (n :=1) (by decide) (by decide) (numOf_be1 (by omega) (by omega)) hs) ?_
 rintro r (⟨zs3,rfl,hs3⟩ | ⟨rfl,hs3⟩)
 ·show T (fun k => pr_commit.l0 k (Int.tmod (ps.length : Int) 6) (strOfNums zs3) false (strOfNums v) []) _
  rw [tmod_lt (by omega) (by omega)]
  exact l0_c ps [] zs3 false hp hl (by simp only [List.length_nil];omega) hs3
 ·exact l0_c [] [] [] true (fun e he => by cases he) (by decide) (by decide) hs3.dead
abbrev RQS (z : List Int) (r : RQ) : Prop :=∃ zs,r.2.2.2.2.2.2.2.2.2.2.2.1 = strOfNums zs ∧ Mid zs r.2.2.2.2.2.2.2.2.2.2.2.2 z
theorem req_l0_c {q : S46} (h : NReq q) {f0 : Int} {id : ByteArray} {ps : List S83} {nm : ByteArray} : ∀ (ns acc : List ByteArray) (ys : List Int) (b : Bool),(∀ s ∈ ns,s.size ≤ 255) → ns.length ≤ 9 → acc.length + ns.length ≤ 50 →
  Mid ys b (ns.flatMap encName ++ encTail q) → T (fun k => pr_request.l0 k (ns.length : Int) (strOfNums ys) b f0 id ps nm acc 0 0 0 false) (RQS [])
 | [],acc,ys,b,hs,hl,ha,h0 => by
  obtain ⟨d1,d2⟩ :=h.f5
  obtain ⟨t1,t2⟩ :=h.f9
  obtain ⟨N0,N1⟩ :=h.f6
  obtain ⟨L0,L1⟩ :=h.f7
  have h1 : Mid ys b (encTail q ++ []) :=by simpa using h0
  rw [encTail] at h1
  simp only [List.append_assoc] at h1
  refine T.step (fun k => rfl) (T.no (by simp) ?_)
  refine T.bind (num_s (by decide) (by decide) (numOf_be8 (u64_rng _).1 (u64_rng _).2) h1) ?_
  rintro r ⟨v1,z1,b1,rfl,s1⟩
  refine T.bind (text_c d2 s1) ?_
  rintro r ⟨v2,z2,b2,rfl,s2⟩
  refine T.bind (num_s (by decide) (by decide) (by rw [uwrap N0 (by omega)];exact numOf_be2 N0 (by omega)) s2) ?_
  rintro r ⟨v3,z3,b3,rfl,s3⟩
  refine T.bind (num_s (by decide) (by decide) (by rw [uwrap L0 (by omega)];exact numOf_be2 L0 (by omega)) s3) ?_
  rintro r ⟨v4,z4,b4,rfl,s4⟩
  refine T.bind (num_s (by decide) (by decide) (by cases q.f8 <;> decide) s4) ?_
  rintro r ⟨v5,z5,b5,rfl,s5⟩
  refine T.bind (text_c t2 s5) ?_
  rintro r ⟨v6,z6,b6,rfl,s6⟩
  exact T.now _ ⟨z6,rfl,s6⟩
 | s :: ns,acc,ys,b,hs,hl,ha,h0 => by
  have hS :=hs s (by simp)
  simp only [List.length_cons] at hl ha ⊢
  refine T.step (fun k => rfl) (T.yes (by omega) ?_)
  rw [List.flatMap_cons,encName,List.append_assoc] at h0
  refine T.bind (text_c (by rw [bytesOf_length];exact hS) h0) ?_
  rintro r ⟨v,zs,b1,rfl,s1⟩
  refine T.yes (by omega) ?_
  have ew : IntKind.u64.wrap (((ns.length + 1 : Nat) : Int) - 1) = (ns.length : Int) :=by rw [uwrap (by omega) (by omega)];omega
  show T (fun k => pr_request.l0 k (IntKind.u64.wrap (((ns.length + 1 : Nat) : Int) - 1)) (strOfNums zs) b1 f0 id ps nm (acc ++ [strOfNums v]) 0 0 0 false) _
  rw [ew]
  exact req_l0_c h ns _ zs b1 (fun x hx => hs x (by simp [hx])) (by omega) (by simp only [List.length_append,List.length_singleton];omega) s1
theorem req_c {q : S46} (h : NReq q) {ys : List Int} {b : Bool} (h0 : Mid ys b (encReq q)) : T (fun k => pr_request.f k (strOfNums ys) b) (RQS []) :=by
 obtain ⟨f0,f1⟩ :=h.f0
 rw [encReq_eq] at h0
 unfold pr_request.f
 refine T.bind (num_s (by decide) (by decide) (by rw [uwrap f0 (by omega)];exact numOf_be1 f0 (by omega)) h0) ?_
 rintro r ⟨v1,z1,b1,rfl,s1⟩
 refine T.bind (commit_c (by rw [bytesOf_length];exact h.id) h.part h.parts s1) ?_
 rintro r ⟨i,qs,z2,b2,rfl,s2⟩
 refine T.bind (text_c (by rw [bytesOf_length];exact h.f2) s2) ?_
 rintro r ⟨v3,z3,b3,rfl,s3⟩
 have n3 :=h.f3
 refine T.bind (num_c (n :=1) (by decide) (by decide) (numOf_be1 (by omega) (by omega)) s3) ?_
 rintro r (⟨z4,rfl,s4⟩ | ⟨rfl,s4⟩)
 ·show T (fun k => pr_request.l0 k (Int.tmod (q.f3.length : Int) 10) (strOfNums z4) false (wrap64 v1) i qs (strOfNums v3) [] 0 0 0 false) _
  rw [tmod_lt (by omega) (by omega)]
  exact req_l0_c h q.f3 [] z4 false h.f3s n3 (by simp only [List.length_nil];omega) s4
 ·exact req_l0_c h [] [] [] true (fun s hs => by cases hs) (by decide) (by decide) s4.dead
theorem step_cut {s : S48} (h : NStep s) {ys : List Int} (h0 : Mid ys false (encStep s)) (acc : List S48) : T (fun k => pDe.l0 k acc (strOfNums ys) false) (fun r => r = acc) :=by
 by_cases hy : ys = []
 ·subst hy
  exact T.step (fun k => rfl) (T.no (by simp [st_size]) (T.now _ rfl))
 have hpos : 0 < ys.length :=Nat.pos_of_ne_zero fun e => hy (List.eq_nil_of_length_eq_zero e)
 refine T.step (fun k => rfl) (T.yes (by rw [st_size];omega) ?_)
 obtain ⟨f0,f1,f2,f3⟩ :=s
 have hc : ∀ (c : Int) (body : List Int),0 ≤ c → c < 5 → Mid ys false (be (IntKind.u64.wrap c) 1 ++ body) → ∃ zs,ys = be (IntKind.u64.wrap c) 1 ++ zs ∧ Mid zs false body :=by
  intro c body _ _ hs
  rcases hs.cut with ⟨_,hk⟩ | ⟨_,zs,rfl,hz⟩ | ⟨hk,_⟩
  ·rw [be_length] at hk;omega
  ·exact ⟨zs,rfl,hz⟩
  ·exact absurd hk (by decide)
 rcases h with ⟨h1,h2,h3,h4⟩ | ⟨h1,h2,h3,h4⟩ | ⟨h1,h2,h3,h4,h5⟩ | ⟨h1,h2,h3,h4⟩
 all_goals
  simp only at h1 h2 h3 h4
  subst h1
 ·obtain ⟨zs,rfl,hs⟩ :=hc 1 (encReq f1) (by decide) (by decide) h0
  refine T.bind (T.of (num_kind (by decide) (by decide) hs.V (by have :=hs.len;omega) false) (Q :=fun r => r = (1,strOfNums zs,false)) rfl) ?_
  rintro r rfl
  refine T.no (show ¬ wrap64 (Int.tmod 1 5) = 0 by rw [kk (by decide) (by decide)];decide) (T.yes (show wrap64 (Int.tmod 1 5) = 1 from kk (by decide) (by decide)) ?_)
  refine T.bind (req_c h2 hs) ?_
  rintro r ⟨us,_,hu⟩
  exact T.yes hu.none (T.now _ rfl)
 ·obtain ⟨zs,rfl,hs⟩ :=hc 2 (be (IntKind.u64.wrap f2) 2 ++ []) (by decide) (by decide) (by rw [List.append_nil];exact h0)
  refine T.bind (T.of (num_kind (by decide) (by decide) hs.V (by have :=hs.len;omega) false) (Q :=fun r => r = (2,strOfNums zs,false)) rfl) ?_
  rintro r rfl
  refine T.no (show ¬ wrap64 (Int.tmod 2 5) = 0 by rw [kk (by decide) (by decide)];decide) (T.no (show ¬ wrap64 (Int.tmod 2 5) = 1 by rw [kk (by decide) (by decide)];decide) (T.yes (show wrap64 (Int.tmod 2 5) = 2 from kk (by decide) (by decide)) ?_))
  refine T.bind (num_s (n :=2) (by decide) (by decide) (by rw [uwrap h3.1 (by omega)];exact numOf_be2 h3.1 (by omega)) hs) ?_
  rintro r ⟨v,us,b,rfl,hu⟩
  exact T.yes hu.none (T.now _ rfl)
 ·simp only at h5
  obtain ⟨zs,rfl,hs⟩ :=hc 3 (txt f3 ++ []) (by decide) (by decide) (by rw [List.append_nil];exact h0)
  refine T.bind (T.of (num_kind (by decide) (by decide) hs.V (by have :=hs.len;omega) false) (Q :=fun r => r = (3,strOfNums zs,false)) rfl) ?_
  rintro r rfl
  refine T.no (show ¬ wrap64 (Int.tmod 3 5) = 0 by rw [kk (by decide) (by decide)];decide) (T.no (show ¬ wrap64 (Int.tmod 3 5) = 1 by rw [kk (by decide) (by decide)];decide) (T.no (show ¬ wrap64 (Int.tmod 3 5) = 2 by rw [kk (by decide) (by decide)];decide) (T.yes (show wrap64 (Int.tmod 3 5) = 3 from kk (by decide) (by decide)) ?_)))
  refine T.bind (text_c h5 hs) ?_
  rintro r ⟨v,us,b,rfl,hu⟩
  exact T.yes hu.none (T.now _ rfl)
 ·obtain ⟨zs,rfl,hs⟩ :=hc 4 [] (by decide) (by decide) h0
  exact absurd hs.none (by decide)
theorem dec_cut : ∀ (l acc : List S48) (k : Nat),(∀ s ∈ l,NStep s) → acc.length + l.length ≤ 1000 → k < (l.flatMap encStep).length →
  T (fun n => pDe.l0 n acc (strOfNums ((l.flatMap encStep).take k)) false) (fun r => ∃ j,j < l.length ∧ r = acc ++ l.take j)
 | [],acc,k,hl,ha,hk => absurd hk (by simp)
 | s :: l,acc,k,hl,ha,hk => by
  have hS :=hl s (by simp)
  have hs : ∀ x ∈ l,NStep x :=fun x hx => hl x (by simp [hx])
  have hv :=encStep_V hS
  have hln :=encStep_len hS
  have hL :=flat_len (f :=encStep) (fun _ => encStep_len) _ hs
  rw [List.flatMap_cons,List.length_append] at hk
  simp only [List.length_cons] at ha
  rw [List.flatMap_cons,List.take_append]
  by_cases hc : k < (encStep s).length
  ·have e : k - (encStep s).length = 0 :=by omega
   rw [e,List.take_zero,List.append_nil]
   refine (step_cut hS (ys :=(encStep s).take k) ⟨hv,by omega,.inl ⟨rfl,k,hc,rfl⟩⟩ acc).mono ?_
   rintro r rfl
   exact ⟨0,by simp,by simp⟩
  ·rw [List.take_of_length_le (by omega : (encStep s).length ≤ k)]
   obtain ⟨r,hr,j,hj,rfl⟩ :=dec_cut l (acc ++ [s]) (k - (encStep s).length) hs (by simp only [List.length_append,List.length_singleton];omega) (by omega)
   have hvl :=flat_V (f :=encStep) (fun _ => encStep_V) _ hs
   refine T.of (dec_one hS (hvl.take _) (by rw [List.length_take];omega) (by omega) hr) ⟨j + 1,by simp only [List.length_cons];omega,?_⟩
   rw [List.append_assoc,List.singleton_append,List.take_succ_cons]
theorem dec_c {l : List S48} (hl : ∀ s ∈ l,NStep s) (hn : l.length ≤ 1000) {k : Nat} (hk : k < (l.flatMap encStep).length) :
  T (fun n => pDe.f n ((l.flatMap encStep).take k)) (fun r => ∃ j,j < l.length ∧ r = l.take j) :=by
 have hv :=(flat_V (f :=encStep) (fun _ => encStep_V) _ hl).take k
 unfold pDe.f
 refine T.bind (Q :=fun r => r = (strOfNums ((l.flatMap encStep).take k),false)) (T.congr (fun n => if_pos hv) (T.now _ rfl)) ?_
 rintro r rfl
 refine (dec_cut l [] k hl (by simpa using hn) hk).mono ?_
 rintro r ⟨j,hj,rfl⟩
 exact ⟨j,hj,by simp⟩
end Go.Proofs.YtlafgnanfkhobaaGreatDoor.P2
namespace Go.Proofs.YtlafgnanfkhobaaGreatDoor.P2
open Go.RowKit Go.Proofs.YtlafgnanfkhobaaGreatDoorW.PrintWords Go.Proofs.YtlafgnanfkhobaaGreatDoorW.PrintLast Go.Proofs.YtlafgnanfkhobaaGreatDoorW.PrintMore
attribute [local go_sem] max2_int min2_int max_two min_two max_three min_three max_four min_four
theorem nreq_of {q : S46} (h : GReq q) : NReq q :=by
 have h9 :=h.f9
 refine ⟨by have :=h.f0;omega,by have :=h.id;omega,by have :=h.parts;omega,fun p hp => ?_,by have :=h.f2;omega,by have :=h.f3;omega,fun s hs => by have :=h.f3s s hs;omega,by have :=h.f4;unfold i64;omega,⟨h.f5.1,by have :=h.f5.2;omega⟩,by have :=h.f6;omega,by have :=h.f7;omega,by rw [h9];exact ⟨V.nil,by decide⟩⟩
 obtain ⟨h1,h2,h3,h4⟩ :=h.part p hp
 exact ⟨by omega,by unfold i64;omega,by omega,fun e he => by
  obtain ⟨k1,k2,k3⟩ :=h4 e he
  exact ⟨⟨by omega,by omega⟩,k2⟩⟩
theorem nsteps_of {qs : List S46} (h : ∀ q ∈ qs,GReq q) : ∀ s ∈ qs.map mkStep,NStep s :=fun s hs => by
 obtain ⟨q,hq,rfl⟩ :=List.mem_map.1 hs
 exact .inl ⟨rfl,nreq_of (h q hq),rfl,rfl⟩
set_option maxHeartbeats 2000000 in
set_option maxRecDepth 100000 in
theorem playBack_calls {A0 A1 : Option Addr} {c0 c1 : Nat} {l0 l1 : List Int} {cut : Int} {w : World} (h0 : Kd.C (Kd.int .u8) w A0 l0.length l0) (hc0 : l0.length ≤ c0) (h1 : Kd.C (Kd.int .u8) w A1 l1.length l1) (hc1 : l1.length ≤ c1) (v0 : V l0) (v1 : V l1) (hcut : 0 ≤ cut ∧ cut ≤ 65535) :
  Calls Tryz.prog 3 #[.slice A0 l0.length c0,.slice A1 l1.length c1,.int .u16 cut] w fun e w' => e = .returned (.bool true) ∧ Below w.heap.size w w' :=by
 have HB :=Below.refl w.heap.size w
 have v1' : ∀ x ∈ l1,0 ≤ x ∧ x ≤ 255 :=v1
 go_enter Tryz.func3,Tryz.ntmps3
 by_cases k0 : (l0.length : Int) > 200
 ·go_wp2_with (go_at_call 5;(with_reducible refine (pandectlaw27_begun.calls true _ rfl).mono ?_);rintro e w1 ⟨rfl,hb⟩;replace HB :=below_step HB hb;clear hb)
  go_ret
  exact ⟨rfl,HB⟩
 by_cases k1 : (l1.length : Int) > 150
 ·go_wp2_with (go_at_call 5;(with_reducible refine (pandectlaw27_begun.calls true _ rfl).mono ?_);rintro e w1 ⟨rfl,hb⟩;replace HB :=below_step HB hb;clear hb)
  go_ret
  exact ⟨rfl,HB⟩
 obtain ⟨l,hl,hNl,hll⟩ :=dec_t v0 (by omega)
 obtain ⟨n1,hk1⟩ :=hl.rounds
 have ho1 : ∀ s ∈ l,okStep s :=fun s hs => ok_of (hNl s hs)
 obtain ⟨n2,hk2⟩ :=(dec_e hNl (by omega)).rounds
 obtain ⟨bs,hbs⟩ : ∃ bs,bs = l.flatMap encStep :=⟨_,rfl⟩
 rw [← hbs] at hk2
 replace hbs :=AZ.mk hbs
 go_upto_region 6 with (first | (go_at_call 5;(with_reducible refine (pandectlaw27_begun.calls true _ rfl).mono ?_);rintro e w1 ⟨rfl,hb⟩;replace HB :=below_step HB hb;clear hb) | (go_at_call 6;(with_reducible refine (pDe.calls n1 A0 c0 l0 l _ (Kd.C_below h0 HB) hc0 hk1).mono ?_);rintro e w2 ⟨vl,rfl,R,hb⟩;replace HB :=below_step HB hb;clear hb;obtain ⟨Al,cl,rfl⟩ :=Kd.R_slice R))
 have Cl :=(Kd.R_reads' R).2.2
 have hcl :=(Kd.R_reads' R).2.1
 go_upto_region 7 with (go_at_call 7;(with_reducible refine (encode_calls Al cl l _ Cl ho1 (by omega)).mono ?_);rintro e w3 ⟨vc,rfl,RC,hb⟩;replace HB :=below_step HB hb;replace Cl :=Kd.C_below Cl hb;clear hb;rw [← hbs.out] at RC;obtain ⟨Ac,cc,rfl⟩ :=Kd.R_slice RC)
 have Cc :=(Kd.R_reads' RC).2.2
 have hcc :=(Kd.R_reads' RC).2.1
 clear R RC
 go_upto_region 8 with (first | (go_at_call 9;(with_reducible refine (pk_made A1 c1 l1 _ _ (Below.refl _ _) (Kd.C_below h1 HB) hc1 v1' (by omega)).mono ?_);rintro e w4 ⟨g,rfl,P,HB4,hb⟩;clear hb) | (go_at_call 10;(with_reducible refine (pk_asks P HB4).mono ?_);rintro e w5 ⟨Aq,cq,qs,rfl,RQ,hq20,hqs,T⟩;have hb :=T.2.1;replace HB :=below_step HB hb;replace Cl :=Kd.C_below Cl hb;replace Cc :=Kd.C_below Cc hb;clear hb T P HB4) | (go_at_call 8;(with_reducible refine (steps_calls (Kd.R_lower RQ (Nat.zero_le _)) (by omega)).mono ?_);rintro e w6 ⟨Am,cm,rfl,RM,hb⟩;replace HB :=below_step HB hb;replace Cl :=Kd.C_below Cl hb;replace Cc :=Kd.C_below Cc hb;clear hb RQ;obtain ⟨m,hm⟩ : ∃ m,m = qs.map mkStep :=⟨_,rfl⟩;have hml : qs.length = m.length :=(by rw [hm,List.length_map]);rw [← hm] at RM;rw [hml] at RM hq20 ⊢;have hNm : ∀ s ∈ m,NStep s :=(by rw [hm];exact nsteps_of hqs);clear hm hml))
 have Cm :=(Kd.R_reads' RM).2.2
 have hcm :=(Kd.R_reads' RM).2.1
 have ho2 : ∀ s ∈ m,okStep s :=fun s hs => ok_of (hNm s hs)
 obtain ⟨n3,hk3⟩ :=(dec_e hNm (by omega)).rounds
 obtain ⟨bm,hbm⟩ : ∃ bm,bm = m.flatMap encStep :=⟨_,rfl⟩
 rw [← hbm] at hk3
 replace hbm :=AZ.mk hbm
 clear RM
 go_upto_region 9 with (go_at_call 7;(with_reducible refine (encode_calls Am cm m _ Cm ho2 (by omega)).mono ?_);rintro e w7 ⟨vw,rfl,RW,hb⟩;replace HB :=below_step HB hb;replace Cl :=Kd.C_below Cl hb;replace Cc :=Kd.C_below Cc hb;replace Cm :=Kd.C_below Cm hb;clear hb;rw [← hbm.out] at RW;obtain ⟨Aw,cw,rfl⟩ :=Kd.R_slice RW)
 have Cw :=(Kd.R_reads' RW).2.2
 have hcw :=(Kd.R_reads' RW).2.1
 clear RW
 go_upto_region 11 with (first | (go_at_call 6;(with_reducible refine (pDe.calls n2 Ac cc bs l _ Cc hcc hk2).mono ?_);rintro e w8 ⟨vx,rfl,RX,hb⟩;replace HB :=below_step HB hb;replace Cl :=Kd.C_below Cl hb;replace Cm :=Kd.C_below Cm hb;replace Cw :=Kd.C_below Cw hb;clear hb;obtain ⟨Ax,cx,rfl⟩ :=Kd.R_slice RX) | (go_at_call 6;(with_reducible refine (pDe.calls n3 Aw cw bm m _ Cw hcw hk3).mono ?_);rintro e w9 ⟨vy,rfl,RY,hb⟩;replace HB :=below_step HB hb;replace Cm :=Kd.C_below Cm hb;replace Cw :=Kd.C_below Cw hb;clear hb;obtain ⟨Ay,cy,rfl⟩ :=Kd.R_slice RY) | (go_at_call 11;(with_reducible refine (sameSteps_true (Kd.R_reads' RX).2.2 Cl).mono ?_);rintro e w10 ⟨rfl,hb⟩;replace HB :=below_step HB hb;replace Cm :=Kd.C_below Cm hb;replace Cw :=Kd.C_below Cw hb;clear hb RX) | (go_at_call 11;(with_reducible refine (sameSteps_true (Kd.R_reads' RY).2.2 Cm).mono ?_);rintro e w11 ⟨rfl,hb⟩;replace HB :=below_step HB hb;replace Cm :=Kd.C_below Cm hb;replace Cw :=Kd.C_below Cw hb;clear hb RY))
 by_cases kb : bm.length = 0
 ·have hm0 : m.length = 0 :=by
   cases m with
   | nil => rfl
   | cons s t =>
    have h1 :=hbm.out
    rw [List.flatMap_cons] at h1
    have h2 :=congrArg List.length h1
    rw [List.length_append,kb] at h2
    have h3 : 0 < (encStep s).length :=by unfold encStep;rw [List.length_append,be_length];omega
    omega
  go_wp2
  go_ret
  exact ⟨by simp [hm0],HB⟩
 ·have hbl : bm.length ≤ 100000 * m.length :=by rw [hbm.out];exact flat_len (f :=encStep) (fun _ => encStep_len) _ hNm
  have kb' : ¬ (bm.length : Int) = 0 :=by omega
  have kw : wrap64 cut = cut :=by unfold wrap64;omega
  obtain ⟨t0,t1⟩ :=tmod_small hcut.1 (show 0 < (bm.length : Int) by omega)
  generalize hkk : Int.tmod cut (bm.length : Int) = kk at t0 t1
  obtain ⟨x,hx,j,hj,hxe⟩ :=dec_c hNm (by omega) (k :=kk.toNat) (by rw [← hbm.out];omega)
  obtain ⟨n4,hk4⟩ :=hx.rounds
  rw [← hbm.out] at hk4
  obtain ⟨bt,hbt⟩ : ∃ bt,bt = bm.take kk.toNat :=⟨_,rfl⟩
  have hbtl : kk.toNat = bt.length :=by rw [hbt,List.length_take];omega
  have Ct :=Kd.C_take Cw (show kk.toNat ≤ bm.length by omega)
  rw [← hbt] at hk4 Ct
  replace hbtl :=AZ.mk hbtl
  have hct : bt.length ≤ cw :=by have :=hbtl.out;omega
  have hxl : x.length < m.length :=by rw [hxe,List.length_take];omega
  have Cx2 :=Kd.C_take Cm (show j ≤ m.length by omega)
  rw [← hxe] at Cx2
  replace hxe :=AZ.mk hxe
  clear hbt
  go_wp2_with (first | (go_at_call 6;rw [hbtl.out];(with_reducible refine (pDe.calls n4 Aw cw bt x _ Ct hct hk4).mono ?_);rintro e w12 ⟨vz,rfl,RZ,hb⟩;replace HB :=below_step HB hb;replace Cx2 :=Kd.C_below Cx2 hb;clear hb;obtain ⟨Az,cz,rfl⟩ :=Kd.R_slice RZ;have hxc :=(Kd.R_reads' RZ).2.1) | (go_at_call 11;(with_reducible refine (sameSteps_true (Kd.R_reads' RZ).2.2 Cx2).mono ?_);rintro e w13 ⟨rfl,hb⟩;replace HB :=below_step HB hb;clear hb))
  go_ret
  exact ⟨rfl,HB⟩
end Go.Proofs.YtlafgnanfkhobaaGreatDoor.P2
