import Derived.Test.YtlafgnanfkhobaaGreatDoorPb
namespace Go.Proofs.YtlafgnanfkhobaaGreatDoor.P2
open Go.RowKit Go.Proofs.YtlafgnanfkhobaaGreatDoorW.PrintWords Go.Proofs.YtlafgnanfkhobaaGreatDoorW.PrintLast Go.Proofs.YtlafgnanfkhobaaGreatDoorW.PrintMore
set_option linter.unusedVariables false
set_option linter.unusedSimpArgs false
def NStep (s : S48) : Prop :=(s.f0 = 1 ∧ NReq s.f1 ∧ s.f2 = 0 ∧ s.f3 = []) ∨ (s.f0 = 2 ∧ s.f1 = z46 ∧ (0 ≤ s.f2 ∧ s.f2 ≤ 65535) ∧ s.f3 = []) ∨ (s.f0 = 3 ∧ s.f1 = z46 ∧ s.f2 = 0 ∧ V s.f3 ∧ s.f3.length ≤ 255) ∨ (s.f0 = 4 ∧ s.f1 = z46 ∧ s.f2 = 0 ∧ s.f3 = [])
abbrev RQ :=Int × ByteArray × List S83 × ByteArray × List ByteArray × Int × List Int × Int × Int × Bool × List Int × ByteArray × Bool
def asReq (r : RQ) : S46 :=⟨r.1,⟨r.2.1,r.2.2.1⟩,r.2.2.2.1,r.2.2.2.2.1,r.2.2.2.2.2.1,r.2.2.2.2.2.2.1,r.2.2.2.2.2.2.2.1,r.2.2.2.2.2.2.2.2.1,r.2.2.2.2.2.2.2.2.2.1,r.2.2.2.2.2.2.2.2.2.2.1⟩
theorem wrap_small {x : Int} (h0 : -9223372036854775808 ≤ x) (h1 : x ≤ 9223372036854775807) : wrap64 x = x :=by unfold wrap64;omega
theorem req_l0_t (M : Nat) (hM : M ≤ 1000000000000) {f0 : Int} (hf0 : 0 ≤ f0 ∧ f0 ≤ 255) {id : ByteArray} (hid : id.size ≤ 255) {ps : List S83} (hps : ps.length ≤ 5) (hp : ∀ p ∈ ps,NPart p) {nm : ByteArray} (hnm : nm.size ≤ 255) :
  ∀ (n : Nat) (xs : List Int) (b : Bool) (ns : List ByteArray),V xs → xs.length ≤ M → n + ns.length ≤ 9 → (∀ s ∈ ns,s.size ≤ 255) →
   T (fun k => play_reader_request.l0 k (n : Int) (strOfNums xs) b f0 id ps nm ns 0 0 0 false) (fun r => NReq (asReq r) ∧ G M r.2.2.2.2.2.2.2.2.2.2.2.1)
 | 0,xs,b,ns,hx,hl,hn,hs => T.step (fun k => rfl) (T.no (by omega) (by
   refine T.bind (num_t hx (by omega) b 8 (by decide)) ?_
   rintro ⟨at_,s1,b1⟩ ⟨_,_,y1,v1,l1,rfl⟩
   refine T.bind (text_t v1 (by omega) b1) ?_
   rintro ⟨d,s2,b2⟩ ⟨d1,d2,y2,v2,l2,rfl⟩
   refine T.bind (num_t v2 (by omega) b2 2 (by decide)) ?_
   rintro ⟨N,s3,b3⟩ ⟨N0,N1,y3,v3,l3,rfl⟩
   refine T.bind (num_t v3 (by omega) b3 2 (by decide)) ?_
   rintro ⟨L,s4,b4⟩ ⟨L0,L1,y4,v4,l4,rfl⟩
   refine T.bind (num_t v4 (by omega) b4 1 (by decide)) ?_
   rintro ⟨k9,s5,b5⟩ ⟨_,_,y5,v5,l5,rfl⟩
   refine T.bind (text_t v5 (by omega) b5) ?_
   rintro ⟨t,s6,b6⟩ ⟨t1,t2,y6,v6,l6,rfl⟩
   have N1' : N < 65536 :=N1
   have L1' : L < 65536 :=L1
   refine T.now _ ⟨⟨hf0,hid,hps,hp,hnm,by show ns.length ≤ 9;omega,hs,i64_wrap at_,⟨d1,d2⟩,?_,?_,⟨t1,t2⟩⟩,y6,v6,by omega,rfl⟩
   ·show 0 ≤ wrap64 N ∧ wrap64 N ≤ 65535
    rw [wrap_small (by omega) (by omega)]
    omega
   ·show 0 ≤ wrap64 L ∧ wrap64 L ≤ 65535
    rw [wrap_small (by omega) (by omega)]
    omega))
 | n + 1,xs,b,ns,hx,hl,hn,hs => T.step (fun k => rfl) (T.yes (by omega) (by
   refine T.bind (text_t hx (by omega) b) ?_
   rintro ⟨t,s,b1⟩ ⟨t1,t2,ys,hy,hyl,rfl⟩
   refine T.yes (by omega) ?_
   have e : IntKind.u64.wrap (((n + 1 : Nat) : Int) - 1) = (n : Int) :=by rw [uwrap (by omega) (by omega)];omega
   show T (fun k => play_reader_request.l0 k (IntKind.u64.wrap (((n + 1 : Nat) : Int) - 1)) (strOfNums ys) b1 f0 id ps nm (ns ++ [strOfNums t]) 0 0 0 false) _
   rw [e]
   refine req_l0_t M hM hf0 hid hps hp hnm n ys b1 _ hy (Nat.le_trans hyl hl) (by simp only [List.length_append,List.length_singleton];omega) ?_
   intro z hzm
   rcases List.mem_append.1 hzm with h | h
   ·exact hs z h
   ·rw [List.mem_singleton.1 h,st_size];exact t2))
theorem req_t {xs : List Int} (hx : V xs) (hl : xs.length ≤ 1000000000000) (b : Bool) : T (fun k => play_reader_request.f k (strOfNums xs) b) (fun r => NReq (asReq r) ∧ G xs.length r.2.2.2.2.2.2.2.2.2.2.2.1) :=by
 unfold play_reader_request.f
 refine T.bind (num_t hx hl b 1 (by decide)) ?_
 rintro ⟨x,s,b1⟩ ⟨x0,x1,y1,v1,l1,rfl⟩
 have x1' : x < 256 :=x1
 refine T.bind (commit_t v1 (by omega) b1) ?_
 rintro ⟨id,ps,s2,b2⟩ ⟨h1,h2,h3,y2,v2,l2,rfl⟩
 refine T.bind (text_t v2 (by omega) b2) ?_
 rintro ⟨t,s3,b3⟩ ⟨t1,t2,y3,v3,l3,rfl⟩
 refine T.bind (num_t v3 (by omega) b3 1 (by decide)) ?_
 rintro ⟨c,s4,b4⟩ ⟨c0,_,y4,v4,l4,rfl⟩
 obtain ⟨m0,m1⟩ :=tmod_small (m :=10) c0 (by decide)
 obtain ⟨m,hm⟩ :=Int.eq_ofNat_of_zero_le m0
 show T (fun k => play_reader_request.l0 k (Int.tmod c 10) (strOfNums y4) b4 (wrap64 x) id ps (strOfNums t) [] 0 0 0 false) _
 rw [hm]
 exact req_l0_t xs.length hl (by rw [wrap_small (by omega) (by omega)];omega) h1 h2 h3 (by rw [st_size];exact t2) m y4 b4 [] v4 (by omega) (by simp only [List.length_nil];omega) (fun e he => by cases he)
theorem dec_l0_t : ∀ (m : Nat) (xs : List Int) (b : Bool) (acc : List S48),V xs → xs.length ≤ m → m ≤ 1000000000000 → acc.length + xs.length ≤ 1000 → (∀ s ∈ acc,NStep s) →
  T (fun k => play_Decode.l0 k acc (strOfNums xs) b) (fun r => (∀ s ∈ r,NStep s) ∧ r.length ≤ acc.length + xs.length) :=by
 intro m
 induction m with
 | zero =>
  intro xs b acc hx hl hm ha hs
  have h0 : xs = [] :=List.eq_nil_of_length_eq_zero (by omega)
  subst h0
  exact T.step (fun k => rfl) (T.no (by simp [st_size]) (T.now _ ⟨hs,Nat.le_add_right _ _⟩))
 | succ m ih =>
  intro xs b acc hx hl hm ha hs
  by_cases h0 : xs.length = 0
  ·have h0 : xs = [] :=List.eq_nil_of_length_eq_zero h0
   subst h0
   exact T.step (fun k => rfl) (T.no (by simp [st_size]) (T.now _ ⟨hs,Nat.le_add_right _ _⟩))
  ·refine T.step (fun k => rfl) (T.yes (by rw [st_size];omega) ?_)
   refine T.bind (num_t hx (by omega) b 1 (by decide)) ?_
   rintro ⟨x,s,b1⟩ ⟨x0,_,ys,hy,hyl,rfl⟩
   obtain ⟨m0,m1⟩ :=tmod_small (x :=x) (m :=5) x0 (by decide)
   have ew : wrap64 (Int.tmod x 5) = Int.tmod x 5 :=wrap_small (by omega) (by omega)
   have hlast : ∀ (zs : List Int) (b' : Bool) (st : S48),V zs → zs.length ≤ ys.length → NStep st → T (fun k => play_Decode.l0 k (acc ++ [st]) (strOfNums zs) b') (fun r => (∀ s ∈ r,NStep s) ∧ r.length ≤ acc.length + xs.length) :=by
    intro zs b' st hz hzl hst
    refine (ih zs b' (acc ++ [st]) hz (by omega) (by omega) (by simp only [List.length_append,List.length_singleton];omega) ?_).mono ?_
    ·intro z hzm
     rcases List.mem_append.1 hzm with h | h
     ·exact hs z h
     ·rw [List.mem_singleton.1 h];exact hst
    ·rintro r ⟨h1,h2⟩
     exact ⟨h1,by simp only [List.length_append,List.length_singleton] at h2;omega⟩
   have hnow : T (fun _ => some acc) (fun r => (∀ s ∈ r,NStep s) ∧ r.length ≤ acc.length + xs.length) :=T.now _ ⟨hs,Nat.le_add_right _ _⟩
   by_cases c0 : wrap64 (Int.tmod x 5) = 0
   ·refine T.yes c0 ((ih ys b1 acc hy (by omega) (by omega) (by omega) hs).mono ?_)
    rintro r ⟨h1,h2⟩
    exact ⟨h1,by omega⟩
   ·refine T.no c0 ?_
    by_cases c1 : wrap64 (Int.tmod x 5) = 1
    ·refine T.yes c1 (T.bind (req_t hy (by omega) b1) ?_)
     rintro r ⟨hr,zs,hz,hzl,hrs⟩
     by_cases cb : r.2.2.2.2.2.2.2.2.2.2.2.2 = true
     ·exact T.yes cb hnow
     ·refine T.no cb (T.yes (by omega) ?_)
      rw [hrs]
      exact hlast zs _ _ hz hzl (.inl ⟨c1,hr,rfl,rfl⟩)
    ·refine T.no c1 ?_
     by_cases c2 : wrap64 (Int.tmod x 5) = 2
     ·refine T.yes c2 (T.bind (num_t hy (by omega) b1 2 (by decide)) ?_)
      rintro ⟨y,s2,b2⟩ ⟨y0,y1,zs,hz,hzl,rfl⟩
      have y1' : y < 65536 :=y1
      by_cases cb : b2 = true
      ·exact T.yes cb hnow
      ·exact T.no cb (T.yes (by omega) (hlast zs _ _ hz (by omega) (.inr (.inl ⟨c2,rfl,by show 0 ≤ wrap64 y ∧ wrap64 y ≤ 65535;rw [wrap_small (by omega) (by omega)];omega,rfl⟩))))
     ·refine T.no c2 ?_
      by_cases c3 : wrap64 (Int.tmod x 5) = 3
      ·refine T.yes c3 (T.bind (text_t hy (by omega) b1) ?_)
       rintro ⟨t,s2,b2⟩ ⟨t1,t2,zs,hz,hzl,rfl⟩
       by_cases cb : b2 = true
       ·exact T.yes cb hnow
       ·exact T.no cb (T.yes (by omega) (hlast zs _ _ hz hzl (.inr (.inr (.inl ⟨c3,rfl,rfl,t1,t2⟩)))))
      ·refine T.no c3 ?_
       by_cases cb : b1 = true
       ·exact T.yes cb hnow
       ·exact T.no cb (T.yes (by omega) (hlast ys _ _ hy (Nat.le_refl _) (.inr (.inr (.inr ⟨by show wrap64 (Int.tmod x 5) = 4;omega,rfl,rfl,rfl⟩)))))
theorem dec_t {xs : List Int} (hx : V xs) (hl : xs.length ≤ 1000) : T (fun k => play_Decode.f k xs) (fun r => (∀ s ∈ r,NStep s) ∧ r.length ≤ xs.length) :=by
 unfold play_Decode.f
 refine T.bind (Q :=fun r => r = (strOfNums xs,false)) (T.congr (fun k => if_pos hx) (T.now _ rfl)) ?_
 rintro r rfl
 refine (dec_l0_t xs.length xs false [] hx (Nat.le_refl _) (by omega) (by simpa using hl) (fun s hs => by cases hs)).mono ?_
 rintro r ⟨h1,h2⟩
 exact ⟨h1,by simpa using h2⟩
end Go.Proofs.YtlafgnanfkhobaaGreatDoor.P2
