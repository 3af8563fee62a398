import Derived.Test.YtlafgnanfkhobaaGreatDoorPd
namespace Go.Proofs.YtlafgnanfkhobaaGreatDoor.P2
open Go.RowKit Go.Proofs.YtlafgnanfkhobaaGreatDoorW.PrintWords Go.Proofs.YtlafgnanfkhobaaGreatDoorW.PrintLast Go.Proofs.YtlafgnanfkhobaaGreatDoorW.PrintMore
set_option linter.unusedVariables false
set_option linter.unusedSimpArgs false
theorem commit_e {b : Bool} {c : S43} (hid : c.f0.size ≤ 255) (hpl : c.f1.length ≤ 5) (hp : ∀ p ∈ c.f1,NPart p) {r : List Int} (hr : V r) (hrl : r.length ≤ 600000000000) :
  Ev (fun k => play_reader_commit.f k (strOfNums (txt (bytesOf c.f0) ++ (be (c.f1.length : Int) 1 ++ (c.f1.flatMap encPart ++ r)))) b) (c.f0,c.f1,strOfNums r,b) :=by
 have hV :=(flat_V (f :=encPart) (fun _ => encPart_V) _ hp).append hr
 have hL :=flat_len (f :=encPart) (fun _ => encPart_len) _ hp
 unfold play_reader_commit.f
 refine Ev.bind (text_txt (V_bytes _) (by rw [bytesOf_length];exact hid) ((be_V _ _).append hV) (by simp only [List.length_append,be_length];omega) b) ?_
 refine Ev.bind (num_be (by decide) (numOf_be1 (by omega) (by omega)) hV (by rw [List.length_append];omega) b) ?_
 show Ev (fun k => play_reader_commit.l0 k (Int.tmod (c.f1.length : Int) 6) (strOfNums (c.f1.flatMap encPart ++ r)) b (strOfNums (bytesOf c.f0)) []) _
 rw [tmod_lt (by omega) (by omega),st_bytes]
 exact l0_e hr (by omega) c.f1 [] hp hpl (by simp only [List.length_nil];omega)
def encName (s : ByteArray) : List Int :=txt (bytesOf s)
theorem encName_V {s : ByteArray} (h : s.size ≤ 255) : V (encName s) :=txt_V (V_bytes _) (by rw [bytesOf_length];exact h)
theorem encName_len {s : ByteArray} (h : s.size ≤ 255) : (encName s).length ≤ 256 :=by
 simp only [encName,txt,List.length_cons,bytesOf_length]
 omega
def encTail (q : S46) : List Int :=be (IntKind.u64.wrap q.f4) 8 ++ (txt q.f5 ++ (be (IntKind.u64.wrap q.f6) 2 ++ (be (IntKind.u64.wrap q.f7) 2 ++ (be (if q.f8 then 1 else 0) 1 ++ txt q.f9))))
theorem encReq_eq (q : S46) : encReq q = be (IntKind.u64.wrap q.f0) 1 ++ (txt (bytesOf q.f1.f0) ++ (be (q.f1.f1.length : Int) 1 ++ (q.f1.f1.flatMap encPart ++ (txt (bytesOf q.f2) ++ (be (q.f3.length : Int) 1 ++ (q.f3.flatMap encName ++ encTail q)))))) :=rfl
theorem encTail_V {q : S46} (h : NReq q) : V (encTail q) :=(be_V _ _).append ((txt_V h.f5.1 h.f5.2).append ((be_V _ _).append ((be_V _ _).append ((be_V _ _).append (txt_V h.f9.1 h.f9.2)))))
theorem encTail_len {q : S46} (h : NReq q) : (encTail q).length ≤ 600 :=by
 have h5 :=h.f5.2
 have h9 :=h.f9.2
 simp only [encTail,txt,List.length_append,List.length_cons,be_length]
 omega
theorem req_l0_e {q : S46} (h : NReq q) {b : Bool} {r : List Int} (hr : V r) (hrl : r.length ≤ 500000000000) : ∀ (ns acc : List ByteArray),(∀ s ∈ ns,s.size ≤ 255) → ns.length ≤ 9 → acc.length + ns.length ≤ 50 →
  Ev (fun k => play_reader_request.l0 k (ns.length : Int) (strOfNums (ns.flatMap encName ++ (encTail q ++ r))) b q.f0 q.f1.f0 q.f1.f1 q.f2 acc 0 0 0 false) (q.f0,q.f1.f0,q.f1.f1,q.f2,acc ++ ns,q.f4,q.f5,q.f6,q.f7,q.f8,q.f9,strOfNums r,b)
 | [],acc,hs,hl,ha => by
  obtain ⟨d1,d2⟩ :=h.f5
  obtain ⟨t1,t2⟩ :=h.f9
  obtain ⟨N0,N1⟩ :=h.f6
  obtain ⟨L0,L1⟩ :=h.f7
  have v9 :=(txt_V t1 t2).append hr
  have l9 : (txt q.f9 ++ r).length ≤ 500000000256 :=by simp only [List.length_append,txt,List.length_cons];omega
  have l5 : (txt q.f5).length ≤ 256 :=by simp only [txt,List.length_cons];omega
  refine Ev.step (fun k => rfl) (Ev.no (by simp) ?_)
  rw [List.append_nil,List.flatMap_nil,List.nil_append,encTail]
  simp only [List.append_assoc]
  refine Ev.bind (num_be (by decide) (numOf_be8 (u64_rng _).1 (u64_rng _).2) ((txt_V d1 d2).append ((be_V _ _).append ((be_V _ _).append ((be_V _ _).append v9)))) (by simp only [List.length_append,be_length] at l9 ⊢;omega) b) ?_
  refine Ev.bind (text_txt d1 d2 ((be_V _ _).append ((be_V _ _).append ((be_V _ _).append v9))) (by simp only [List.length_append,be_length] at l9 ⊢;omega) b) ?_
  refine Ev.bind (num_be (by decide) (by rw [uwrap N0 (by omega)];exact numOf_be2 N0 (by omega)) ((be_V _ _).append ((be_V _ _).append v9)) (by simp only [List.length_append,be_length] at l9 ⊢;omega) b) ?_
  refine Ev.bind (num_be (by decide) (by rw [uwrap L0 (by omega)];exact numOf_be2 L0 (by omega)) ((be_V _ _).append v9) (by simp only [List.length_append,be_length] at l9 ⊢;omega) b) ?_
  refine Ev.bind (num_be (by decide) (by cases q.f8 <;> decide) v9 (by omega) b) ?_
  refine Ev.bind (text_txt t1 t2 hr (by omega) b) ?_
  have e4 :=wrap_back h.f4
  have e6 : wrap64 (IntKind.u64.wrap q.f6) = q.f6 :=by rw [uwrap N0 (by omega)];exact wrap_small (by omega) (by omega)
  have e7 : wrap64 (IntKind.u64.wrap q.f7) = q.f7 :=by rw [uwrap L0 (by omega)];exact wrap_small (by omega) (by omega)
  have e8 : (Int.tmod (if q.f8 then 1 else 0) 2 == 1) = q.f8 :=by cases q.f8 <;> rfl
  refine Ev.congr (fun k => ?_) (Ev.now _)
  show some (q.f0,q.f1.f0,q.f1.f1,q.f2,acc,wrap64 (IntKind.u64.wrap q.f4),q.f5,wrap64 (IntKind.u64.wrap q.f6),wrap64 (IntKind.u64.wrap q.f7),(Int.tmod (if q.f8 then 1 else 0) 2 == 1),q.f9,strOfNums r,b) = _
  rw [e4,e6,e7,e8]
 | s :: ns,acc,hs,hl,ha => by
  have hS :=hs s (by simp)
  have hns : ∀ x ∈ ns,x.size ≤ 255 :=fun x hx => hs x (by simp [hx])
  have hV : V (ns.flatMap encName ++ (encTail q ++ r)) :=(flat_V (f :=encName) (fun _ => encName_V) _ hns).append ((encTail_V h).append hr)
  have hL :=flat_len (f :=encName) (fun _ => encName_len) _ hns
  have hT :=encTail_len h
  simp only [List.length_cons] at hl ha ⊢
  refine Ev.step (fun k => rfl) (Ev.yes (by omega) ?_)
  rw [List.flatMap_cons,List.append_assoc]
  refine Ev.bind (text_txt (V_bytes s) (by rw [bytesOf_length];exact hS) hV (by simp only [List.length_append];omega) b) ?_
  refine Ev.yes (by omega) ?_
  have ew : IntKind.u64.wrap (((ns.length + 1 : Nat) : Int) - 1) = (ns.length : Int) :=by rw [uwrap (by omega) (by omega)];omega
  show Ev (fun k => play_reader_request.l0 k (IntKind.u64.wrap (((ns.length + 1 : Nat) : Int) - 1)) (strOfNums (ns.flatMap encName ++ (encTail q ++ r))) b q.f0 q.f1.f0 q.f1.f1 q.f2 (acc ++ [strOfNums (bytesOf s)]) 0 0 0 false) _
  rw [ew,st_bytes]
  have :=req_l0_e h (b :=b) hr hrl ns (acc ++ [s]) hns (by omega) (by simp only [List.length_append,List.length_singleton];omega)
  rwa [List.append_assoc,List.singleton_append] at this
theorem req_e {q : S46} (h : NReq q) {b : Bool} {r : List Int} (hr : V r) (hrl : r.length ≤ 400000000000) :
  Ev (fun k => play_reader_request.f k (strOfNums (encReq q ++ r)) b) (q.f0,q.f1.f0,q.f1.f1,q.f2,q.f3,q.f4,q.f5,q.f6,q.f7,q.f8,q.f9,strOfNums r,b) :=by
 obtain ⟨f0,f1⟩ :=h.f0
 have v1 :=(encTail_V h).append hr
 have v2 :=(flat_V (f :=encName) (fun _ => encName_V) _ h.f3s).append v1
 have hT :=encTail_len h
 have hN :=flat_len (f :=encName) (fun _ => encName_len) _ h.f3s
 have hP :=flat_len (f :=encPart) (fun _ => encPart_len) _ h.part
 have n3 :=h.f3
 have n5 :=h.parts
 have t2 : (txt (bytesOf q.f2)).length ≤ 256 :=by have :=h.f2;simp only [txt,List.length_cons,bytesOf_length];omega
 have t0 : (txt (bytesOf q.f1.f0)).length ≤ 256 :=by have :=h.id;simp only [txt,List.length_cons,bytesOf_length];omega
 have v3 :=(be_V (q.f3.length : Int) 1).append v2
 have v4 :=(txt_V (V_bytes q.f2) (by rw [bytesOf_length];exact h.f2)).append v3
 unfold play_reader_request.f
 rw [encReq_eq]
 simp only [List.append_assoc]
 refine Ev.bind (num_be (by decide) (by rw [uwrap f0 (by omega)];exact numOf_be1 f0 (by omega)) ((txt_V (V_bytes _) (by rw [bytesOf_length];exact h.id)).append ((be_V _ _).append ((flat_V (f :=encPart) (fun _ => encPart_V) _ h.part).append v4))) (by simp only [List.length_append,be_length];omega) b) ?_
 refine Ev.bind (commit_e (c :=q.f1) h.id h.parts h.part v4 (by simp only [List.length_append,be_length];omega)) ?_
 refine Ev.bind (text_txt (V_bytes _) (by rw [bytesOf_length];exact h.f2) v3 (by simp only [List.length_append,be_length];omega) b) ?_
 refine Ev.bind (num_be (by decide) (numOf_be1 (by omega) (by omega)) v2 (by simp only [List.length_append];omega) b) ?_
 show Ev (fun k => play_reader_request.l0 k (Int.tmod (q.f3.length : Int) 10) (strOfNums (q.f3.flatMap encName ++ (encTail q ++ r))) b (wrap64 (IntKind.u64.wrap q.f0)) q.f1.f0 q.f1.f1 (strOfNums (bytesOf q.f2)) [] 0 0 0 false) _
 rw [tmod_lt (by omega) (by omega),st_bytes,uwrap f0 (by omega),wrap_small (by omega) (by omega)]
 exact req_l0_e h hr (by omega) q.f3 [] h.f3s h.f3 (by simp only [List.length_nil];omega)
end Go.Proofs.YtlafgnanfkhobaaGreatDoor.P2
