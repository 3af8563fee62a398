import Derived.Test.YtfelkchmeiijfaaRa
namespace Go.Proofs.Ytfelkchmeiijfaa.P2
open Go.RowKit Go.Proofs.YtfelkchmeiijfaaW.PrintWords Go.Proofs.YtfelkchmeiijfaaW.PrintLast Go.Proofs.YtfelkchmeiijfaaW.PrintMore
set_option linter.unusedVariables false
set_option linter.unusedSimpArgs false
/-! What plan tells. -/
def evsOf (A V : Int) (nm : ByteArray) : Nat → Nat → List S49 → List S47
 | _,_,[] => []
 | n,j,e :: es => ⟨A + n,nm,V + j,e.f0,e.f1⟩ :: evsOf A V nm (n + 1) (j + 1) es
def outOf (A V : Int) : Nat → Nat → List S36 → List S47
 | _,_,[] => []
 | n,i,p :: ps => evsOf A (V + i) p.f0 n 0 p.f2 ++ outOf A V (n + p.f2.length) (i + 1) ps
theorem evsOf_len (A V : Int) (nm : ByteArray) : ∀ (n j : Nat) (es : List S49),(evsOf A V nm n j es).length = es.length
 | _,_,[] => rfl
 | n,j,e :: es => by simp [evsOf,evsOf_len A V nm (n + 1) (j + 1) es]
theorem rd36 {ps : List S36} {i : Nat} (h : i < ps.length) : rd_T36 ps (i : Int) = ps[i] :=by
 show ps.getD i z36 = _
 rw [List.getD,List.getElem?_eq_getElem h];rfl
theorem rd49 {ps : List S49} {i : Nat} (h : i < ps.length) : rd_T49 ps (i : Int) = ps[i] :=by
 show ps.getD i z49 = _
 rw [List.getD,List.getElem?_eq_getElem h];rfl
theorem rd47 {ps : List S47} {i : Nat} (h : i < ps.length) : rd_T47 ps (i : Int) = ps[i] :=by
 show ps.getD i z47 = _
 rw [List.getD,List.getElem?_eq_getElem h];rfl
structure Right (A V : Int) (ps : List S36) : Prop where
 a0 : 0 ≤ A
 a1 : A ≤ 4294967295
 v0 : 0 ≤ V
 v1 : V ≤ 65535
 len : ps.length ≤ 4
 any : ∀ p ∈ ps,p.f1 = -1
 few : ∀ p ∈ ps,p.f2.length ≤ 5
 data : ∀ p ∈ ps,∀ e ∈ p.f2,e.f1.length ≤ 100
theorem el1_t {A V : Int} {ps : List S36} (R : Right A V ps) {hs : List S38} {th : List Bool} {i : Nat} (hi : i < ps.length) {Q : List S47 × Int × Int × Bool × Int → Prop} {nm : ByteArray} {ex : Int} {es : List S49}
  (hes : es.length ≤ 5) (hd : ∀ e ∈ es,e.f1.length ≤ 100) : ∀ (d j : Nat) (pre : List S47),j + d = es.length → pre.length ≤ 100 + j →
   T (fun k => plan_Events.l0 k hs th A (pre ++ evsOf A (V + i) nm pre.length j (es.drop j)) ps ps.length ((i + 1 : Nat) : Int)) Q →
   T (fun k => plan_Events.l1 k hs th A pre (V + i + j) ps ps.length (i : Nat) es es.length (j : Nat) nm ex es) Q
 | 0,j,pre,hj,hp,h => by
  obtain ⟨R1,R2,R3,R4,R5,_,_,_⟩ :=R
  refine T.step (fun k => rfl) (T.no (by omega) ?_)
  rw [wrap_small (by omega) (by omega)]
  rw [List.drop_eq_nil_of_le (by omega)] at h
  simpa [evsOf] using h
 | d + 1,j,pre,hj,hp,h => by
  have hjl : j < es.length :=by omega
  have :=R.len;have :=R.a0;have :=R.a1;have :=R.v0;have :=R.v1
  have e0 : es.drop j = es[j] :: es.drop (j + 1) :=List.drop_eq_getElem_cons hjl
  rw [e0,evsOf] at h
  refine T.step (fun k => rfl) (T.yes (by omega) (T.yes (by omega) (T.yes (by omega) ?_)))
  rw [rd49 hjl]
  have hcl : slices_Clone_byte_byte.f (es[j]).f1 = some (es[j]).f1 :=if_pos (by have :=hd _ (List.getElem_mem hjl);omega)
  rw [hcl]
  refine T.bind (T.now _ (Q :=fun t => t = (es[j]).f1) rfl) fun t ht => T.yes (by omega) ?_
  subst ht
  rw [wrap_small (x :=A + _) (by omega) (by omega),wrap_small (x :=V + i + j + 1) (by omega) (by omega),wrap_small (x :=(j : Int) + 1) (by omega) (by omega)]
  have hr :=el1_t R (hs :=hs) (th :=th) hi (Q :=Q) (nm :=nm) (ex :=ex) hes hd d (j + 1) (pre ++ [⟨A + pre.length,nm,V + i + j,(es[j]).f0,(es[j]).f1⟩]) (by omega) (by rw [List.length_append];simp;omega) (by
   rw [List.append_assoc,List.length_append];exact h)
  have e1 : V + i + ((j + 1 : Nat) : Int) = V + i + j + 1 :=by omega
  rw [e1] at hr
  exact hr
theorem el0_t {A V : Int} {ps : List S36} (R : Right A V ps) {hs : List S38} {th : List Bool} (hh : hs.length = ps.length) (ht : th.length = ps.length) (h1 : ∀ j : Nat,j < ps.length → rd_T38 hs (j : Int) = ⟨V + j,0,false⟩) (h2 : ∀ j : Nat,j < ps.length → rdOf false th (j : Int) = true) :
  ∀ (d i : Nat) (pre : List S47),i + d = ps.length → pre.length ≤ 5 * i →
   T (fun k => plan_Events.l0 k hs th A pre ps ps.length (i : Nat)) (fun r => r = (pre ++ outOf A V pre.length i (ps.drop i),A,((pre ++ outOf A V pre.length i (ps.drop i)).length : Int),false,0))
 | 0,i,pre,hi,hp => by
  have :=R.len;have :=R.a0;have :=R.a1
  rw [List.drop_eq_nil_of_le (by omega)]
  refine T.step (fun k => rfl) (T.no (by omega) (T.no ?_ (T.now _ (by simp [outOf]))))
  rw [wrap_small (by omega) (by omega)];omega
 | d + 1,i,pre,hi,hp => by
  have hil : i < ps.length :=by omega
  have :=R.len;have :=R.v0;have :=R.v1
  have e0 : ps.drop i = ps[i] :: ps.drop (i + 1) :=List.drop_eq_getElem_cons hil
  have hw : plan_wrong.f (ps[i]).f1 (V + i) 0 false true = some false :=by
   unfold plan_wrong.f
   rw [if_pos (R.any _ (List.getElem_mem hil))]
  refine T.step (fun k => rfl) (T.yes (by omega) (T.yes (by omega) (T.yes (by omega) (T.yes (by omega) ?_))))
  rw [h1 i hil,h2 i hil,rd36 hil]
  refine T.no (by simp) (T.yes (by omega) ?_)
  rw [hw]
  refine T.bind (T.now _ (Q :=fun t => t = false) rfl) fun t ht' => ?_
  subst ht'
  refine T.no (by simp) (T.yes rfl (T.step (fun k => rfl) ?_))
  have hes :=R.few _ (List.getElem_mem hil)
  have hlen :=evsOf_len A (V + i) (ps[i]).f0 pre.length 0 (ps[i]).f2
  have hr :=el0_t R hh ht h1 h2 d (i + 1) (pre ++ evsOf A (V + i) (ps[i]).f0 pre.length 0 (ps[i]).f2) (by omega) (by rw [List.length_append,hlen];omega)
  have hg :=el1_t R (hs :=hs) (th :=th) hil (nm :=(ps[i]).f0) (ex :=(ps[i]).f1) hes (R.data _ (List.getElem_mem hil)) (ps[i]).f2.length 0 pre (by omega) (by omega) hr
  have e3 : V + (i : Int) + ((0 : Nat) : Int) = V + i :=by omega
  rw [e3] at hg
  refine hg.mono fun r hr => ?_
  rw [hr,e0,outOf,List.length_append,hlen,List.append_assoc]
/-! The law's last loops. -/
theorem ll2_t {A V a1 a2 : Int} {ps : List S36} (R : Right A V ps) (ea : wrap64 a1 = A) (ev : wrap64 a2 = V) {out : List S47} (ho : out.length ≤ 20) {id : ByteArray} {d0 d1 : Int} {d2 : Bool} {i : Nat} (hi : i < ps.length)
  (next : ∀ n : Nat,n ≤ out.length → out.drop n = outOf A V n (i + 1) (ps.drop (i + 1)) → T (fun k => pandectlaw17_PlanRises.l1 k a1 a2 out 0 (n : Nat) ((i + 1 : Nat) : Int) id ps d0 d1 d2) (fun r => r = true)) :
  ∀ (d j n : Nat),j + d = (ps[i]).f2.length → n ≤ out.length → out.drop n = evsOf A (V + i) (ps[i]).f0 n j ((ps[i]).f2.drop j) ++ outOf A V (n + d) (i + 1) (ps.drop (i + 1)) →
   T (fun k => pandectlaw17_PlanRises.l2 k a1 a2 out 0 (n : Nat) (i : Nat) (j : Nat) id ps d0 d1 d2) (fun r => r = true)
 | 0,j,n,hj,hn,h => by
  have :=R.len
  have e9 : (ps[i]).f2.drop j = [] :=List.drop_eq_nil_of_le (by omega)
  rw [e9] at h
  refine T.step (fun k => rfl) (T.yes (by omega) (T.yes (by omega) (T.no (by rw [rd36 hi];omega) ?_)))
  rw [wrap_small (x :=(i : Int) + 1) (by omega) (by omega)]
  exact next n hn (by simpa [evsOf] using h)
 | d + 1,j,n,hj,hn,h => by
  have :=R.len;have :=R.a0;have :=R.a1;have :=R.v0;have :=R.v1
  have hes :=R.few _ (List.getElem_mem hi)
  have hjl : j < (ps[i]).f2.length :=by omega
  have e0 : (ps[i]).f2.drop j = ((ps[i]).f2)[j] :: (ps[i]).f2.drop (j + 1) :=List.drop_eq_getElem_cons hjl
  rw [e0,evsOf] at h
  have hnl : n < out.length :=by
   rcases Nat.lt_or_ge n out.length with hlt | hge
   ·exact hlt
   ·rw [List.drop_eq_nil_of_le hge] at h;simp at h
  have e2 :=List.drop_eq_getElem_cons hnl
  rw [h,List.cons_append] at e2
  have e3 :=(List.cons.inj e2).1
  have e4 :=(List.cons.inj e2).2
  refine T.step (fun k => rfl) (T.yes (by omega) (T.yes (by omega) (T.yes (by rw [rd36 hi];omega) (T.no (by omega) (T.yes (by omega) (T.yes (by omega) ?_))))))
  rw [rd36 hi,rd47 hnl,rd49 hjl,← e3,ea,ev]
  refine T.yes (by show A + n = _;rw [wrap_small (by omega) (by omega)]) (T.yes ?_ (T.yes rfl (T.yes (by omega) (T.yes rfl (T.yes rfl ?_)))))
  ·show V + i + j = _
   rw [wrap_small (x :=(i : Int) + j) (by omega) (by omega),wrap_small (by omega) (by omega)]
   omega
  ·rw [wrap_small (x :=(n : Int) + 1) (by omega) (by omega),wrap_small (x :=(j : Int) + 1) (by omega) (by omega)]
   exact ll2_t R ea ev ho hi next d (j + 1) (n + 1) (by omega) (by omega) (by rw [← e4,show n + (d + 1) = n + 1 + d by omega])
theorem ll1_t {A V a1 a2 : Int} {ps : List S36} (R : Right A V ps) (ea : wrap64 a1 = A) (ev : wrap64 a2 = V) {out : List S47} (ho : out.length ≤ 20) {id : ByteArray} :
  ∀ (d i n : Nat),i + d = ps.length → n ≤ out.length → out.drop n = outOf A V n i (ps.drop i) → T (fun k => pandectlaw17_PlanRises.l1 k a1 a2 out 0 (n : Nat) (i : Nat) id ps A (out.length : Nat) false) (fun r => r = true)
 | 0,i,n,hi,hn,h => by
  have e9 : ps.drop i = [] :=List.drop_eq_nil_of_le (by omega)
  rw [e9] at h
  have hl : out.length ≤ n :=by
   rcases Nat.lt_or_ge n out.length with hlt | hge
   ·have :=congrArg List.length h
    simp [outOf] at this
    omega
   ·exact hge
  have : n = out.length :=by omega
  subst this
  refine T.step (fun k => rfl) (T.no (by omega) (T.yes rfl (T.yes rfl (T.now _ ?_))))
  rw [ea];simp
 | d + 1,i,n,hi,hn,h => by
  have hil : i < ps.length :=by omega
  have e0 : ps.drop i = ps[i] :: ps.drop (i + 1) :=List.drop_eq_getElem_cons hil
  rw [e0,outOf] at h
  refine T.step (fun k => rfl) (T.yes (by omega) ?_)
  exact ll2_t R ea ev ho hil (fun n hn h => ll1_t R ea ev ho d (i + 1) n (by omega) hn h) (ps[i]).f2.length 0 n (by omega) hn h
theorem outOf_len {A V : Int} : ∀ (ps : List S36) (n i : Nat),(∀ p ∈ ps,p.f2.length ≤ 5) → (outOf A V n i ps).length ≤ 5 * ps.length
 | [],_,_,_ => Nat.le_refl _
 | p :: ps,n,i,h => by
  have h1 :=outOf_len (A :=A) (V :=V) ps (n + p.f2.length) (i + 1) fun q hq => h q (List.mem_cons_of_mem _ hq)
  have h2 :=h p List.mem_cons_self
  rw [outOf,List.length_append,evsOf_len,List.length_cons]
  omega
/-! The law. -/
theorem parts_few : ∀ (seen : List (List UInt8)) (ps : List S36),partsOk seen ps = true → ∀ p ∈ ps,p.f2.length ≤ 5 ∧ ∀ e ∈ p.f2,e.f1.length ≤ 100
 | _,[],_,p,hp => by cases hp
 | seen,q :: ps,h,p,hp => by
  unfold partsOk at h
  simp only [Bool.and_eq_true] at h
  rcases List.mem_cons.1 hp with rfl | hp
  ·have h1 :=h.1
   unfold partOk at h1
   simp only [Bool.and_eq_true,decide_eq_true_eq] at h1
   refine ⟨h1.1.2,fun e he => ?_⟩
   have h2 :=h1.2
   unfold evsOk at h2
   have h3 :=List.all_eq_true.1 h2 e he
   unfold evOk at h3
   simp only [Bool.and_eq_true,decide_eq_true_eq] at h3
   exact h3.2
  ·exact parts_few _ ps h.2 p hp
theorem lrest_t {A V a1 a2 : Int} (ea : wrap64 a1 = A) (ev : wrap64 a2 = V) (hA : 0 ≤ A ∧ A ≤ 4294967295) (hV : 0 ≤ V ∧ V ≤ 65535) {ps : List S36} (hany : ∀ p ∈ ps,p.f1 = -1) {hs : List S38} {th : List Bool} {id : ByteArray}
  (hh : hs.length = ps.length) (ht : th.length = ps.length) (h1 : ∀ j : Nat,j < ps.length → rd_T38 hs (j : Int) = ⟨V + j,0,false⟩) (h2 : ∀ j : Nat,j < ps.length → rdOf false th (j : Int) = true) (hlen : ps.length ≤ 3) :
  T (fun k => pandectlaw17_PlanRises.l0 k a1 a2 hs th (ps.length : Nat) id ps) (fun r => r = true) :=by
 refine T.step (fun k => rfl) (T.no (by omega) ?_)
 rw [ea]
 have hm : plan_MayCommit.f id ps = some (mayCommit id ps) :=rfl
 rw [hm]
 cases hb : mayCommit id ps with
 | false =>
  refine T.bind (Q :=fun r => r = ([],0,0,false,1)) ?_ fun r hr => ?_
  ·unfold plan_Events.f
   rw [hm,hb]
   exact T.bind (T.now _ (Q :=fun t => t = false) rfl) fun t ht => T.no (by rw [ht];decide) (T.step (f :=fun _ => some ([],0,0,false,1)) (fun k => rfl) (T.now _ rfl))
  ·subst hr
   exact T.bind (T.now _ (Q :=fun t => t = false) rfl) fun t ht => T.no (by rw [ht];decide) (T.yes rfl (T.now _ rfl))
 | true =>
  have hp : partsOk [] ps = true :=by unfold mayCommit at hb;simp only [Bool.and_eq_true] at hb;exact hb.2
  have R : Right A V ps :=⟨hA.1,hA.2,hV.1,hV.2,by omega,hany,fun p hq => (parts_few _ _ hp p hq).1,fun p hq => (parts_few _ _ hp p hq).2⟩
  refine T.bind (Q :=fun r => r = (outOf A V 0 0 ps,A,((outOf A V 0 0 ps).length : Int),false,0)) ?_ fun r hr => ?_
  ·unfold plan_Events.f
   rw [hm,hb]
   refine T.bind (T.now _ (Q :=fun t => t = true) rfl) fun t ht' => T.yes ht' (T.yes (by omega) ?_)
   refine T.step (fun k => rfl) (T.no (by simp [ht]) ?_)
   exact el0_t R hh ht h1 h2 ps.length 0 [] (by omega) (by simp)
  ·subst hr
   refine T.bind (T.now _ (Q :=fun t => t = true) rfl) fun t ht' => T.yes ht' ?_
   have hol :=outOf_len (A :=A) (V :=V) ps 0 0 R.few
   exact ll1_t R ea ev (by show (outOf A V 0 0 ps).length ≤ 20;omega) ps.length 0 0 (by omega) (Nat.zero_le _) rfl
theorem lh_t {A V a1 a2 : Int} (ea : wrap64 a1 = A) (ev : wrap64 a2 = V) (hA : 0 ≤ A ∧ A ≤ 4294967295) (hV : 0 ≤ V ∧ V ≤ 65535) {id : ByteArray} :
  ∀ (d i : Nat) (ps : List S36) (hs : List S38) (th : List Bool),i + d = ps.length → ps.length ≤ 3 → hs.length = i → th.length = i → (∀ j : Nat,j < i → rd_T38 hs (j : Int) = ⟨V + j,0,false⟩) → (∀ j : Nat,j < i → rdOf false th (j : Int) = true) →
   (∀ (j : Nat) (h : j < ps.length),j < i → (ps[j]).f1 = -1) → T (fun k => pandectlaw17_PlanRises.l0 k a1 a2 hs th (i : Nat) id ps) (fun r => r = true)
 | 0,i,ps,hs,th,hi,hl,hh,ht,h1,h2,h3 => by
  have : i = ps.length :=by omega
  subst this
  refine lrest_t ea ev hA hV (fun p hp => ?_) hh ht h1 h2 hl
  obtain ⟨j,hj,rfl⟩ :=List.getElem_of_mem hp
  exact h3 j hj hj
 | d + 1,i,ps,hs,th,hi,hl,hh,ht,h1,h2,h3 => by
  refine T.step (fun k => rfl) (T.yes (by omega) (T.yes (by omega) (T.yes (by omega) (T.yes (by omega) ?_))))
  rw [ev,wrap_small (x :=(i : Int) + 1) (by omega) (by omega),wrap_small (x :=V + i) (by omega) (by omega)]
  refine lh_t ea ev hA hV d (i + 1) _ _ _ (by rw [List.length_set];omega) (by rw [List.length_set];exact hl) (by simp [hh]) (by simp [ht]) (fun j hj => ?_) (fun j hj => ?_) (fun j hjl hj => ?_)
  ·show (hs ++ [_]).getD j z38 = _
   by_cases e : j < i
   ·rw [List.getD_eq_getElem?_getD,List.getElem?_append_left (by omega),← List.getD_eq_getElem?_getD];exact h1 j e
   ·have : j = hs.length :=by omega
    subst this
    rw [List.getD_eq_getElem?_getD,List.getElem?_append_right (Nat.le_refl _)];simp [hh]
  ·show (th ++ [_]).getD j false = _
   by_cases e : j < i
   ·rw [List.getD_eq_getElem?_getD,List.getElem?_append_left (by omega),← List.getD_eq_getElem?_getD];exact h2 j e
   ·have : j = th.length :=by omega
    subst this
    rw [List.getD_eq_getElem?_getD,List.getElem?_append_right (Nat.le_refl _)];simp
  ·rw [List.getElem_set]
   split
   ·rfl
   ·exact h3 j (by simpa using hjl) (by rename_i hne;simp only [Int.toNat_natCast] at hne;omega)
theorem wf_u32 {x : Int} (h : (Lit.int .u32 x).wf = true) : 0 ≤ x ∧ x ≤ 4294967295 :=by
 have h' : (decide (0 ≤ x) && decide (x ≤ 4294967295)) = true :=h
 simpa using h'
theorem wf_u16 {x : Int} (h : (Lit.int .u16 x).wf = true) : 0 ≤ x ∧ x ≤ 65535 :=by
 have h' : (decide (0 ≤ x) && decide (x ≤ 65535)) = true :=h
 simpa using h'
theorem wf_u8 {x : Int} (h : (Lit.int .u8 x).wf = true) : 0 ≤ x ∧ x ≤ 255 :=by
 have h' : (decide (0 ≤ x) && decide (x ≤ 255)) = true :=h
 simpa using h'
theorem rises : pandectlaw17_PlanRises.Pure :=by
 intro l0 a1 a2 _ _ hb h1 h2
 suffices h : T (fun k => pandectlaw17_PlanRises.f k l0 a1 a2) (fun r => r = true) by
  obtain ⟨r,hr,rfl⟩ :=h
  exact hr.rounds
 have ha1 : 0 ≤ a1 ∧ a1 ≤ 4294967295 :=wf_u32 h1
 have ha2 : 0 ≤ a2 ∧ a2 ≤ 65535 :=wf_u16 h2
 unfold pandectlaw17_PlanRises.f
 refine T.bind (T.now _ (Q :=fun t => t = true) rfl) fun t ht => T.yes ht ?_
 by_cases hl : (l0.length : Int) > 60
 ·exact T.yes hl (T.now _ rfl)
 ·refine T.no hl (T.bind (T.now _ (Q :=fun r => r = (l0,0)) rfl) fun r hr => ?_)
  subst hr
  have hB : Bytes l0 :=⟨by omega,fun x hx => wf_u8 (hb x hx)⟩
  refine T.bind (commit_t hB) fun r hr => ?_
  exact lh_t (A :=a1) (V :=a2) (wrap_small (by omega) (by omega)) (wrap_small (by omega) (by omega)) ha1 ha2 r.2.1.length 0 r.2.1 [] [] (by omega) hr rfl rfl (fun j hj => by omega) (fun j hj => by omega) (fun j _ hj => by omega)
end Go.Proofs.Ytfelkchmeiijfaa.P2
