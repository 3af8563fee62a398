import Derived.Test.YtlafgnanfkhobaaGreatDoorPe
import Derived.Test.YtlafgnanfkhobaaGreatDoorQ5
namespace Go.Proofs.YtlafgnanfkhobaaGreatDoor.P2
open Go.RowKit Go.Proofs.YtlafgnanfkhobaaGreatDoorW.PrintWords Go.Proofs.YtlafgnanfkhobaaGreatDoorW.PrintLast Go.Proofs.YtlafgnanfkhobaaGreatDoorW.PrintMore
set_option linter.unusedVariables false
set_option linter.unusedSimpArgs false
theorem encStep_V {s : S48} (h : NStep s) : V (encStep s) :=by
 unfold encStep
 refine (be_V _ _).append ?_
 rcases h with ⟨h1,h2,_,_⟩ | ⟨h1,_,h2,_⟩ | ⟨h1,_,_,h2,h3⟩ | ⟨h1,_,_,_⟩
 ·rw [if_pos h1]
  have hq : V (encReq s.f1) :=by
   rw [encReq_eq]
   exact (be_V _ _).append ((txt_V (V_bytes _) (by rw [bytesOf_length];exact h2.id)).append ((be_V _ _).append ((flat_V (f :=encPart) (fun _ => encPart_V) _ h2.part).append ((txt_V (V_bytes _) (by rw [bytesOf_length];exact h2.f2)).append ((be_V _ _).append ((flat_V (f :=encName) (fun _ => encName_V) _ h2.f3s).append (encTail_V h2)))))))
  exact hq
 ·rw [if_neg (by omega),if_pos h1];exact be_V _ _
 ·rw [if_neg (by omega),if_neg (by omega),if_pos h1];exact txt_V h2 h3
 ·rw [if_neg (by omega),if_neg (by omega),if_neg (by omega)];exact V.nil
theorem encStep_len {s : S48} (h : NStep s) : (encStep s).length ≤ 100000 :=by
 unfold encStep
 rw [List.length_append,be_length]
 rcases h with ⟨h1,h2,_,_⟩ | ⟨h1,_,h2,_⟩ | ⟨h1,_,_,h2,h3⟩ | ⟨h1,_,_,_⟩
 ·rw [if_pos h1,encReq_eq]
  have a1 :=encTail_len h2
  have a2 :=flat_len (f :=encName) (fun _ => encName_len) _ h2.f3s
  have a3 :=flat_len (f :=encPart) (fun _ => encPart_len) _ h2.part
  have a4 :=h2.f3
  have a5 :=h2.parts
  have a6 :=h2.f2
  have a7 :=h2.id
  simp only [List.length_append,be_length,txt,List.length_cons,bytesOf_length]
  omega
 ·rw [if_neg (by omega),if_pos h1,be_length];omega
 ·rw [if_neg (by omega),if_neg (by omega),if_pos h1];simp only [txt,List.length_cons];omega
 ·rw [if_neg (by omega),if_neg (by omega),if_neg (by omega)];simp
theorem kk {c : Int} (h0 : 0 ≤ c) (h1 : c < 5) : wrap64 (Int.tmod c 5) = c :=by
 rw [tmod_lt h0 h1]
 exact wrap_small (by omega) (by omega)
theorem num_kind {c : Int} (h0 : 0 ≤ c) (h1 : c < 5) {r : List Int} (hr : V r) (hl : r.length ≤ 999000000000) (b : Bool) : Ev (fun k => play_reader_num.f k (strOfNums (be (IntKind.u64.wrap c) 1 ++ r)) b 1) (c,strOfNums r,b) :=by
 rw [uwrap h0 (by omega)]
 exact num_be (n :=1) (by decide) (numOf_be1 h0 (by omega)) hr hl b
theorem dec_one {s : S48} (h : NStep s) {acc : List S48} {r : List Int} (hr : V r) (hrl : r.length ≤ 300000000000) (ha : acc.length ≤ 100000) {R : List S48}
  (hc : Ev (fun k => play_Decode.l0 k (acc ++ [s]) (strOfNums r) false) R) : Ev (fun k => play_Decode.l0 k acc (strOfNums (encStep s ++ r)) false) R :=by
 have hv :=encStep_V h
 have hl :=encStep_len h
 have hpos : 0 < (encStep s).length :=by unfold encStep;rw [List.length_append,be_length];omega
 refine Ev.step (fun k => rfl) (Ev.yes (by rw [st_size,List.length_append];omega) ?_)
 obtain ⟨f0,f1,f2,f3⟩ :=s
 rcases h with ⟨h1,h2,h3,h4⟩ | ⟨h1,h2,h3,h4⟩ | ⟨h1,h2,h3,h4,h5⟩ | ⟨h1,h2,h3,h4⟩
 all_goals
  simp only at h1 h2 h3 h4
  subst h1
 ·subst h3
  subst h4
  have he : encStep ⟨1,f1,0,[]⟩ = be (IntKind.u64.wrap 1) 1 ++ encReq f1 :=rfl
  rw [he] at hv hl ⊢
  have hq : V (encReq f1) :=fun x hx => hv x (List.mem_append_right _ hx)
  rw [List.length_append] at hl
  rw [List.append_assoc]
  refine Ev.bind (num_kind (by decide) (by decide) (hq.append hr) (by rw [List.length_append];omega) false) ?_
  refine Ev.no (show ¬ wrap64 (Int.tmod 1 5) = 0 by rw [kk (by decide) (by decide)];decide) (Ev.yes (show wrap64 (Int.tmod 1 5) = 1 from kk (by decide) (by decide)) ?_)
  refine Ev.bind (req_e h2 hr (by omega)) ?_
  refine Ev.no (show ¬ false = true by decide) (Ev.yes (by omega) ?_)
  show Ev (fun k => play_Decode.l0 k (acc ++ [⟨wrap64 (Int.tmod 1 5),f1,0,[]⟩]) (strOfNums r) false) R
  rw [show wrap64 (Int.tmod 1 5) = 1 from kk (by decide) (by decide)]
  exact hc
 ·subst h2
  subst h4
  have he : encStep ⟨2,z46,f2,[]⟩ = be (IntKind.u64.wrap 2) 1 ++ be (IntKind.u64.wrap f2) 2 :=rfl
  rw [he,List.append_assoc]
  refine Ev.bind (num_kind (by decide) (by decide) ((be_V _ _).append hr) (by rw [List.length_append,be_length];omega) false) ?_
  refine Ev.no (show ¬ wrap64 (Int.tmod 2 5) = 0 by rw [kk (by decide) (by decide)];decide) (Ev.no (show ¬ wrap64 (Int.tmod 2 5) = 1 by rw [kk (by decide) (by decide)];decide) (Ev.yes (show wrap64 (Int.tmod 2 5) = 2 from kk (by decide) (by decide)) ?_))
  refine Ev.bind (num_be (n :=2) (by decide) (by rw [uwrap h3.1 (by omega)];exact numOf_be2 h3.1 (by omega)) hr (by omega) false) ?_
  refine Ev.no (show ¬ false = true by decide) (Ev.yes (by omega) ?_)
  have e : wrap64 (IntKind.u64.wrap f2) = f2 :=by rw [uwrap h3.1 (by omega)];exact wrap_small (by omega) (by omega)
  show Ev (fun k => play_Decode.l0 k (acc ++ [⟨wrap64 (Int.tmod 2 5),z46,wrap64 (IntKind.u64.wrap f2),[]⟩]) (strOfNums r) false) R
  rw [e,show wrap64 (Int.tmod 2 5) = 2 from kk (by decide) (by decide)]
  exact hc
 ·subst h2
  subst h3
  simp only at h5
  have he : encStep ⟨3,z46,0,f3⟩ = be (IntKind.u64.wrap 3) 1 ++ txt f3 :=rfl
  rw [he,List.append_assoc]
  refine Ev.bind (num_kind (by decide) (by decide) ((txt_V h4 h5).append hr) (by simp only [List.length_append,txt,List.length_cons];omega) false) ?_
  refine Ev.no (show ¬ wrap64 (Int.tmod 3 5) = 0 by rw [kk (by decide) (by decide)];decide) (Ev.no (show ¬ wrap64 (Int.tmod 3 5) = 1 by rw [kk (by decide) (by decide)];decide) (Ev.no (show ¬ wrap64 (Int.tmod 3 5) = 2 by rw [kk (by decide) (by decide)];decide) (Ev.yes (show wrap64 (Int.tmod 3 5) = 3 from kk (by decide) (by decide)) ?_)))
  refine Ev.bind (text_txt h4 h5 hr (by omega) false) ?_
  refine Ev.no (show ¬ false = true by decide) (Ev.yes (by omega) ?_)
  show Ev (fun k => play_Decode.l0 k (acc ++ [⟨wrap64 (Int.tmod 3 5),z46,0,f3⟩]) (strOfNums r) false) R
  rw [show wrap64 (Int.tmod 3 5) = 3 from kk (by decide) (by decide)]
  exact hc
 ·subst h2
  subst h3
  subst h4
  have he : encStep ⟨4,z46,0,[]⟩ = be (IntKind.u64.wrap 4) 1 ++ [] :=rfl
  rw [he,List.append_assoc,List.nil_append]
  refine Ev.bind (num_kind (by decide) (by decide) hr (by omega) false) ?_
  refine Ev.no (show ¬ wrap64 (Int.tmod 4 5) = 0 by rw [kk (by decide) (by decide)];decide) (Ev.no (show ¬ wrap64 (Int.tmod 4 5) = 1 by rw [kk (by decide) (by decide)];decide) (Ev.no (show ¬ wrap64 (Int.tmod 4 5) = 2 by rw [kk (by decide) (by decide)];decide) (Ev.no (show ¬ wrap64 (Int.tmod 4 5) = 3 by rw [kk (by decide) (by decide)];decide) (Ev.no (show ¬ false = true by decide) (Ev.yes (by omega) ?_)))))
  show Ev (fun k => play_Decode.l0 k (acc ++ [⟨wrap64 (Int.tmod 4 5),z46,0,[]⟩]) (strOfNums r) false) R
  rw [show wrap64 (Int.tmod 4 5) = 4 from kk (by decide) (by decide)]
  exact hc
theorem dec_flat : ∀ (l acc : List S48),(∀ s ∈ l,NStep s) → acc.length + l.length ≤ 1000 → Ev (fun k => play_Decode.l0 k acc (strOfNums (l.flatMap encStep)) false) (acc ++ l)
 | [],acc,hl,ha => by
  rw [List.append_nil,List.flatMap_nil]
  exact Ev.step (fun k => rfl) (Ev.no (by simp [st_size]) (Ev.now _))
 | s :: l,acc,hl,ha => by
  have hs : ∀ x ∈ l,NStep x :=fun x hx => hl x (by simp [hx])
  have hL :=flat_len (f :=encStep) (fun _ => encStep_len) _ hs
  simp only [List.length_cons] at ha
  rw [List.flatMap_cons]
  refine dec_one (hl s (by simp)) (flat_V (f :=encStep) (fun _ => encStep_V) _ hs) (by omega) (by omega) ?_
  have :=dec_flat l (acc ++ [s]) hs (by simp only [List.length_append,List.length_singleton];omega)
  rwa [List.append_assoc,List.singleton_append] at this
theorem dec_e {l : List S48} (hl : ∀ s ∈ l,NStep s) (hn : l.length ≤ 1000) : Ev (fun k => play_Decode.f k (l.flatMap encStep)) l :=by
 have hv :=flat_V (f :=encStep) (fun _ => encStep_V) _ hl
 unfold play_Decode.f
 exact Ev.bind (a :=(strOfNums (l.flatMap encStep),false)) (Ev.congr (fun k => if_pos hv) (Ev.now _)) (dec_flat l [] hl (by simpa using hn))
theorem ok_of {s : S48} (h : NStep s) : okStep s :=by
 have hd :=dec_e (l :=[s]) (fun x hx => by rw [List.mem_singleton.1 hx];exact h) (by simp)
 rw [List.flatMap_cons,List.flatMap_nil,List.append_nil] at hd
 obtain ⟨k,hk⟩ :=hd.rounds
 have hz : okReq z46 :=⟨by decide,by decide,(fun p hp => by cases hp),by decide,by decide,(fun p hp => by cases hp),by decide,by decide⟩
 have hq : okReq s.f1 :=by
  rcases h with ⟨_,h2,_,_⟩ | ⟨_,h2,_,_⟩ | ⟨_,h2,_,_,_⟩ | ⟨_,h2,_,_⟩
  ·exact ⟨h2.id,h2.parts,fun p hp => ⟨(h2.part p hp).1,(h2.part p hp).2.2.1,fun e he => ((h2.part p hp).2.2.2 e he).1⟩,h2.f2,h2.f3,h2.f3s,h2.f5.2,h2.f9.2⟩
  ·rw [h2];exact hz
  ·rw [h2];exact hz
  ·rw [h2];exact hz
 have h3 : s.f3.length ≤ 255 :=by
  rcases h with ⟨_,_,_,h⟩ | ⟨_,_,_,h⟩ | ⟨_,_,_,_,h⟩ | ⟨_,_,_,h⟩
  ·rw [h];decide
  ·rw [h];decide
  ·exact h
  ·rw [h];decide
 exact ⟨hq,h3,encStep_len h,k,hk⟩
theorem st_append (a b : List Int) : strOfNums a ++ strOfNums b = strOfNums (a ++ b) :=by
 apply ByteArray.ext
 simp [strOfNums,ByteArray.data_append]
theorem enc_f {l : List S48} (hl : ∀ s ∈ l,NStep s) (hn : l.length ≤ 1000) : play_Encode.f l = some (l.flatMap encStep) :=if_pos ⟨fun s hs => ok_of (hl s hs),hn⟩
theorem wf_u8 {x : Int} (h : (Lit.int .u8 x).wf = true) : 0 ≤ x ∧ x ≤ 255 :=by
 have h' : (decide (0 ≤ x) && decide (x ≤ 255)) = true :=h
 simpa using h'
theorem T.succ {α : Type} {g : Nat → Option α} {Q : α → Prop} (h : T (fun k => g (k + 1)) Q) : T g Q :=T.step (fun k => rfl) h
theorem joins : pandectlaw27_PlayJoins.Pure :=by
 intro a b _ _ ha _ _ hb
 have va : V a :=fun x hx => wf_u8 (ha x hx)
 have vb : V b :=fun x hx => wf_u8 (hb x hx)
 suffices h : T (fun k => pandectlaw27_PlayJoins.f k a b) (fun r => r = true) by
  obtain ⟨r,hr,rfl⟩ :=h
  exact hr.rounds
 unfold pandectlaw27_PlayJoins.f
 refine T.bind (Q :=fun r => r = true) (T.now _ rfl) ?_
 rintro r rfl
 refine T.yes rfl ?_
 have yes : T (fun k => pandectlaw27_PlayJoins.j0 k a b true) (fun r => r = true) :=T.step (f :=fun k => some true) (fun k => by unfold pandectlaw27_PlayJoins.j0;exact if_pos rfl) (T.now _ rfl)
 by_cases c1 : (a.length : Int) > 100
 ·exact T.yes c1 yes
 ·refine T.no c1 ?_
  by_cases c2 : (b.length : Int) > 100
  ·rw [show decide ((b.length : Int) > 100) = true from decide_eq_true c2];exact yes
  ·rw [show decide ((b.length : Int) > 100) = false from decide_eq_false c2]
   refine T.succ ?_
   unfold pandectlaw27_PlayJoins.j0
   refine T.no (by decide) ?_
   refine T.bind (dec_t va (by omega)) ?_
   rintro l ⟨hl,hll⟩
   refine T.bind (dec_t vb (by omega)) ?_
   rintro m ⟨hm,hml⟩
   have hlm : ∀ s ∈ l ++ m,NStep s :=fun s hs => (List.mem_append.1 hs).elim (hl s) (hm s)
   have L1 :=flat_len (f :=encStep) (fun _ => encStep_len) _ hl
   have L2 :=flat_len (f :=encStep) (fun _ => encStep_len) _ hm
   refine T.bind (Q :=fun y => y = []) (T.now _ rfl) ?_
   rintro y rfl
   refine T.yes (by simp only [List.length_nil];omega) ?_
   refine T.bind (Q :=fun y => y = l) (T.now _ (List.nil_append l)) ?_
   rintro y rfl
   refine T.yes (by omega) ?_
   refine T.bind (Q :=fun z => z = y ++ m) (T.now _ rfl) ?_
   rintro z rfl
   refine T.bind (Q :=fun z => z = y.flatMap encStep) (T.congr (fun k => enc_f hl (by omega)) (T.now _ rfl)) ?_
   rintro x rfl
   refine T.bind (Q :=fun z => z = m.flatMap encStep) (T.congr (fun k => enc_f hm (by omega)) (T.now _ rfl)) ?_
   rintro x2 rfl
   refine T.bind (Q :=fun y => y = []) (T.now _ rfl) ?_
   rintro z rfl
   refine T.yes (by simp only [List.length_nil];omega) ?_
   refine T.bind (Q :=fun z => z = y.flatMap encStep) (T.now _ (List.nil_append _)) ?_
   rintro z rfl
   refine T.yes (by omega) ?_
   have hd :=dec_e hlm (by rw [List.length_append];omega)
   rw [List.flatMap_append] at hd
   refine T.bind (T.of hd (Q :=fun z => z = y ++ m) rfl) ?_
   rintro z rfl
   refine T.bind (Q :=fun r => r = true) (T.congr (fun k => if_pos rfl) (T.now _ rfl)) ?_
   rintro r rfl
   refine T.yes rfl ?_
   refine T.bind (Q :=fun z => z = (y ++ m).flatMap encStep) (T.congr (fun k => enc_f hlm (by rw [List.length_append];omega)) (T.now _ rfl)) ?_
   rintro z rfl
   refine T.yes (by rw [st_size,st_size];omega) (T.now _ ?_)
   rw [st_append,List.flatMap_append]
   simp
end Go.Proofs.YtlafgnanfkhobaaGreatDoor.P2
