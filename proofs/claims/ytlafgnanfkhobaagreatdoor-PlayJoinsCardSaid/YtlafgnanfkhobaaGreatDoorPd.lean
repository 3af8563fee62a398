import Derived.Test.YtlafgnanfkhobaaGreatDoorPc
namespace Go.Proofs.YtlafgnanfkhobaaGreatDoor.P2
open Go.RowKit Go.Proofs.YtlafgnanfkhobaaGreatDoorW.PrintWords Go.Proofs.YtlafgnanfkhobaaGreatDoorW.PrintLast Go.Proofs.YtlafgnanfkhobaaGreatDoorW.PrintMore
set_option linter.unusedVariables false
set_option linter.unusedSimpArgs false
theorem be_V (x : Int) : ∀ n,V (be x n)
 | 0 => V.nil
 | n + 1 => fun y hy => by
  rcases List.mem_cons.1 hy with h | h
  ·rw [h];unfold byteAt;omega
  ·exact be_V x n y h
theorem numOf_be1 {x : Int} (h0 : 0 ≤ x) (h1 : x < 256) : numOf (be x 1) = x :=by
 simp [be,numOf,byteAt]
 omega
theorem numOf_be2 {x : Int} (h0 : 0 ≤ x) (h1 : x < 65536) : numOf (be x 2) = x :=by
 simp [be,numOf,byteAt]
 omega
theorem numOf_be8 {x : Int} (h0 : 0 ≤ x) (h1 : x < 18446744073709551616) : numOf (be x 8) = x :=by
 simp [be,numOf,byteAt]
 omega
theorem num_be {x : Int} {n : Nat} (hn : n ≤ 8) (hb : numOf (be x n) = x) {r : List Int} (hr : V r) (hl : r.length ≤ 999000000000) (b : Bool) :
  Ev (fun k => play_reader_num.f k (strOfNums (be x n ++ r)) b n) (x,strOfNums r,b) :=by
 have h :=num_ok ((be_V x n).append hr) (by rw [List.length_append,be_length];omega) b (n :=n) (by rw [List.length_append,be_length];omega) hn
 rwa [List.take_left' (be_length x n),List.drop_left' (be_length x n),hb] at h
theorem txt_V {xs : List Int} (h : V xs) (hl : xs.length ≤ 255) : V (txt xs) :=fun y hy => by
 rcases List.mem_cons.1 hy with e | e
 ·rw [e];omega
 ·exact h y e
theorem txt_be (xs : List Int) (hl : xs.length ≤ 255) : txt xs = be (xs.length : Int) 1 ++ xs :=by
 have : byteAt (xs.length : Int) 0 = (xs.length : Int) :=by unfold byteAt;simp;omega
 simp [txt,be,this]
theorem text_txt {xs : List Int} (hx : V xs) (hl : xs.length ≤ 255) {r : List Int} (hr : V r) (hrl : r.length ≤ 900000000000) (b : Bool) : Ev (fun k => play_reader_text.f k (strOfNums (txt xs ++ r)) b) (xs,strOfNums r,b) :=by
 unfold play_reader_text.f
 rw [txt_be xs hl,List.append_assoc]
 refine Ev.bind (num_be (by decide) (numOf_be1 (by omega) (by omega)) (hx.append hr) (by rw [List.length_append];omega) b) ?_
 have e : wrap64 (xs.length : Int) = ((xs.length : Nat) : Int) :=wrap_small (by omega) (by omega)
 refine Ev.bind (a :=(xs,strOfNums r,b)) (Ev.congr (fun k => ?_) (Ev.now _)) (Ev.now _)
 show play_reader_bytes.f (strOfNums (xs ++ r)) b (wrap64 (xs.length : Int)) = _
 rw [e,bytes_ok (hx.append hr) (by rw [List.length_append];omega) b (by rw [List.length_append];omega),List.take_left,List.drop_left]
theorem wrap_back {x : Int} (h : i64 x) : wrap64 (IntKind.u64.wrap x) = x :=by
 have : IntKind.u64.wrap x = x % 18446744073709551616 :=rfl
 rw [this]
 unfold i64 at h
 unfold wrap64
 omega
theorem tmod_lt {x m : Int} (h0 : 0 ≤ x) (h1 : x < m) : Int.tmod x m = x :=Int.tmod_eq_of_lt h0 h1
theorem encEv_V {e : S85} (h : NEv e) : V (encEv e) :=(txt_V (V_bytes _) (by rw [bytesOf_length];exact h.1.1)).append (txt_V h.2 h.1.2)
theorem encEv_len {e : S85} (h : NEv e) : (encEv e).length ≤ 512 :=by
 have h1 :=h.1.1
 have h2 :=h.1.2
 simp only [encEv,txt,List.length_append,List.length_cons,bytesOf_length]
 omega
theorem flat_V {α : Type} {f : α → List Int} {P : α → Prop} (hf : ∀ a,P a → V (f a)) : ∀ l : List α,(∀ a ∈ l,P a) → V (l.flatMap f)
 | [],_ => V.nil
 | a :: l,h => by
  rw [List.flatMap_cons]
  exact (hf a (h a (by simp))).append (flat_V hf l fun x hx => h x (by simp [hx]))
theorem flat_len {α : Type} {f : α → List Int} {P : α → Prop} {m : Nat} (hf : ∀ a,P a → (f a).length ≤ m) : ∀ l : List α,(∀ a ∈ l,P a) → (l.flatMap f).length ≤ m * l.length
 | [],_ => by simp
 | a :: l,h => by
  have h1 :=hf a (h a (by simp))
  have h2 :=flat_len hf l fun x hx => h x (by simp [hx])
  rw [List.flatMap_cons,List.length_append,List.length_cons,Nat.mul_succ]
  omega
theorem encPart_V {p : S83} (h : NPart p) : V (encPart p) :=(txt_V (V_bytes _) (by rw [bytesOf_length];exact h.1)).append ((be_V _ _).append ((be_V _ _).append (flat_V (f :=encEv) (fun _ => encEv_V) _ h.2.2.2)))
theorem encPart_len {p : S83} (h : NPart p) : (encPart p).length ≤ 4000 :=by
 have h1 :=h.1
 have h2 :=h.2.2.1
 have h3 :=flat_len (f :=encEv) (fun _ => encEv_len) _ h.2.2.2
 simp only [encPart,txt,List.length_append,List.length_cons,bytesOf_length,be_length]
 omega
theorem l1_e {R : ByteArray × List S83 × ByteArray × Bool} {x5 : Int} {b : Bool} {id : ByteArray} {ps : List S83} (hps : ps.length ≤ 100) {pn : ByteArray} {pe : Int} {r : List Int} (hr : V r) (hrl : r.length ≤ 800000000000) :
  ∀ (es acc : List S85),(∀ e ∈ es,NEv e) → es.length ≤ 6 → acc.length + es.length ≤ 100 →
   Ev (fun k => play_reader_commit.l0 k (IntKind.u64.wrap (x5 - 1)) (strOfNums r) b id (ps ++ [⟨pn,pe,acc ++ es⟩])) R →
   Ev (fun k => play_reader_commit.l1 k x5 (es.length : Int) (strOfNums (es.flatMap encEv ++ r)) b id ps pn pe acc) R
 | [],acc,he,hl,ha,hc => by
  rw [List.append_nil] at hc
  exact Ev.step (fun k => rfl) (Ev.no (by simp) (Ev.yes (by omega) hc))
 | e :: es,acc,he,hl,ha,hc => by
  have hE :=he e (by simp)
  have hes : ∀ x ∈ es,NEv x :=fun x hx => he x (by simp [hx])
  have hV : V (es.flatMap encEv ++ r) :=(flat_V (f :=encEv) (fun _ => encEv_V) _ hes).append hr
  have hL :=flat_len (f :=encEv) (fun _ => encEv_len) _ hes
  simp only [List.length_cons] at hl ha ⊢
  have h1 :=hE.1.1
  have h2 :=hE.1.2
  refine Ev.step (fun k => rfl) (Ev.yes (by omega) ?_)
  rw [List.flatMap_cons,encEv,List.append_assoc,List.append_assoc]
  refine Ev.bind (text_txt (V_bytes _) (by rw [bytesOf_length];exact h1) ((txt_V hE.2 h2).append hV) (by simp only [List.length_append,txt,List.length_cons];omega) b) ?_
  refine Ev.bind (text_txt hE.2 h2 hV (by rw [List.length_append];omega) b) ?_
  refine Ev.yes (by omega) ?_
  have ew : IntKind.u64.wrap (((es.length + 1 : Nat) : Int) - 1) = (es.length : Int) :=by rw [uwrap (by omega) (by omega)];omega
  show Ev (fun k => play_reader_commit.l1 k x5 (IntKind.u64.wrap (((es.length + 1 : Nat) : Int) - 1)) (strOfNums (es.flatMap encEv ++ r)) b id ps pn pe (acc ++ [⟨strOfNums (bytesOf e.f0),e.f1⟩])) R
  rw [ew,st_bytes]
  exact l1_e hps hr hrl es _ hes (by omega) (by simp only [List.length_append,List.length_singleton];omega) (by simpa using hc)
theorem l0_e {b : Bool} {id : ByteArray} {r : List Int} (hr : V r) (hrl : r.length ≤ 700000000000) : ∀ (ps acc : List S83),(∀ p ∈ ps,NPart p) → ps.length ≤ 5 → acc.length + ps.length ≤ 50 →
  Ev (fun k => play_reader_commit.l0 k (ps.length : Int) (strOfNums (ps.flatMap encPart ++ r)) b id acc) (id,acc ++ ps,strOfNums r,b)
 | [],acc,hp,hl,ha => by
  rw [List.append_nil]
  refine Ev.step (f :=fun k => some (id,acc,strOfNums r,b)) (fun k => ?_) (Ev.now _)
  unfold play_reader_commit.l0
  exact if_neg (by decide)
 | p :: ps,acc,hp,hl,ha => by
  have hP :=hp p (by simp)
  have hps : ∀ x ∈ ps,NPart x :=fun x hx => hp x (by simp [hx])
  have hV : V (ps.flatMap encPart ++ r) :=(flat_V (f :=encPart) (fun _ => encPart_V) _ hps).append hr
  have hL :=flat_len (f :=encPart) (fun _ => encPart_len) _ hps
  have hVe : V (p.f2.flatMap encEv) :=flat_V (f :=encEv) (fun _ => encEv_V) _ hP.2.2.2
  have hLe :=flat_len (f :=encEv) (fun _ => encEv_len) _ hP.2.2.2
  obtain ⟨h1,h2,h3,h4⟩ :=hP
  simp only [List.length_cons] at hl ha ⊢
  refine Ev.step (fun k => rfl) (Ev.yes (by omega) ?_)
  rw [List.flatMap_cons,encPart]
  simp only [List.append_assoc]
  refine Ev.bind (text_txt (V_bytes _) (by rw [bytesOf_length];exact h1) ((be_V _ _).append ((be_V _ _).append (hVe.append hV))) (by simp only [List.length_append,be_length];omega) b) ?_
  refine Ev.bind (num_be (by decide) (numOf_be8 (u64_rng _).1 (u64_rng _).2) ((be_V _ _).append (hVe.append hV)) (by simp only [List.length_append,be_length];omega) b) ?_
  refine Ev.bind (num_be (by decide) (numOf_be1 (by omega) (by omega)) (hVe.append hV) (by simp only [List.length_append];omega) b) ?_
  show Ev (fun k => play_reader_commit.l1 k ((ps.length + 1 : Nat) : Int) (Int.tmod (p.f2.length : Int) 7) (strOfNums (p.f2.flatMap encEv ++ (ps.flatMap encPart ++ r))) b id acc (strOfNums (bytesOf p.f0)) (wrap64 (IntKind.u64.wrap p.f1)) []) _
  rw [tmod_lt (by omega) (by omega),st_bytes,wrap_back h2]
  refine l1_e (by omega) hV (by rw [List.length_append];omega) p.f2 [] h4 h3 (by simp only [List.length_nil];omega) ?_
  have ew : IntKind.u64.wrap (((ps.length + 1 : Nat) : Int) - 1) = (ps.length : Int) :=by rw [uwrap (by omega) (by omega)];omega
  rw [ew,List.nil_append]
  have :=l0_e (b :=b) (id :=id) hr hrl ps (acc ++ [p]) hps (by omega) (by simp only [List.length_append,List.length_singleton];omega)
  rwa [List.append_assoc,List.singleton_append] at this
end Go.Proofs.YtlafgnanfkhobaaGreatDoor.P2
