import Derived.Test.YtfelkchmeiijfaaQ6
namespace Go.Proofs.Ytfelkchmeiijfaa.P2
open Go.RowKit Go.Proofs.YtfelkchmeiijfaaW.PrintWords Go.Proofs.YtfelkchmeiijfaaW.PrintLast Go.Proofs.YtfelkchmeiijfaaW.PrintMore
set_option linter.unusedVariables false
set_option linter.unusedSimpArgs false
/-- With rounds enough there is an answer, and it is right. -/
def T {α : Type} (g : Nat → Option α) (Q : α → Prop) : Prop :=∃ r,Ev g r ∧ Q r
theorem T.now {α : Type} {Q : α → Prop} (r : α) (h : Q r) : T (fun _ => some r) Q :=⟨r,Ev.now r,h⟩
theorem T.bind {α β : Type} {g : Nat → Option α} {f : Nat → α → Option β} {Q : α → Prop} {R : β → Prop} (h : T g Q) (k : ∀ a,Q a → T (fun n => f n a) R) : T (fun n => (g n).bind (f n)) R :=by
 obtain ⟨a,ha,hq⟩ :=h
 obtain ⟨r,hr,hR⟩ :=k a hq
 exact ⟨r,Ev.bind ha hr,hR⟩
theorem T.step {α : Type} {g f : Nat → Option α} {Q : α → Prop} (h : ∀ k,g (k + 1) = f k) (k : T f Q) : T g Q :=by
 obtain ⟨r,hr,hq⟩ :=k
 exact ⟨r,Ev.step h hr,hq⟩
theorem T.congr {α : Type} {g f : Nat → Option α} {Q : α → Prop} (h : ∀ k,g k = f k) (k : T f Q) : T g Q :=by
 obtain ⟨r,hr,hq⟩ :=k
 exact ⟨r,Ev.congr h hr,hq⟩
theorem T.yes {α : Type} {c : Prop} [Decidable c] {g f : Nat → Option α} {Q : α → Prop} (h : c) (k : T g Q) : T (fun n => if c then g n else f n) Q :=T.congr (fun n => if_pos h) k
theorem T.no {α : Type} {c : Prop} [Decidable c] {g f : Nat → Option α} {Q : α → Prop} (h : ¬ c) (k : T f Q) : T (fun n => if c then g n else f n) Q :=T.congr (fun n => if_neg h) k
theorem T.mono {α : Type} {g : Nat → Option α} {Q R : α → Prop} (h : T g Q) (k : ∀ r,Q r → R r) : T g R :=by
 obtain ⟨r,hr,hq⟩ :=h
 exact ⟨r,hr,k r hq⟩
/-- Numbers from which choices are read. -/
def Bytes (l : List Int) : Prop :=l.length ≤ 60 ∧ ∀ x ∈ l,0 ≤ x ∧ x ≤ 255
def Pos (n : Int) : Prop :=0 ≤ n ∧ n ≤ 60
theorem wrap_small {x : Int} (h0 : -9223372036854775808 ≤ x) (h1 : x ≤ 9223372036854775807) : wrap64 x = x :=by unfold wrap64;omega
theorem num_t {l : List Int} (hl : Bytes l) {n m : Int} (hn : Pos n) (h1 : 1 ≤ m) (hm : m ≤ 1000) : T (fun _ => pandectplay_Picks_Num.f l n m) (fun r => (0 ≤ r.1 ∧ r.1 < m) ∧ Pos r.2) :=by
 obtain ⟨hl1,hl2⟩ :=hl
 obtain ⟨n0,n1⟩ :=hn
 unfold pandectplay_Picks_Num.f
 by_cases hc : n ≥ (l.length : Int)
 ·refine T.yes hc (T.now _ ⟨⟨Int.le_refl _,by show (0 : Int) < m;omega⟩,n0,n1⟩)
 ·refine T.no hc ?_
  have e1 : wrap64 (n + 1) = n + 1 :=wrap_small (by omega) (by omega)
  have e2 : wrap64 (wrap64 (n + 1) - 1) = n :=by rw [e1,wrap_small (by omega) (by omega)];omega
  rw [e2,e1]
  refine T.yes n0 (T.yes (by omega) (T.no (by omega) (T.now _ ?_)))
  have hr : rd l n ∈ l :=by
   have hlt : n.toNat < l.length :=by omega
   unfold rd
   rw [List.getD,List.getElem?_eq_getElem hlt]
   exact List.getElem_mem hlt
  obtain ⟨b0,b1⟩ :=hl2 _ hr
  rw [wrap_small (by omega) (by omega)]
  exact ⟨⟨Int.tmod_nonneg _ b0,Int.tmod_lt_of_pos _ (by omega)⟩,by show 0 ≤ n + 1;omega,by show n + 1 ≤ 60;omega⟩
theorem name_t {l : List Int} (hl : Bytes l) {n : Int} (hn : Pos n) : T (fun _ => pandectplay_Picks_Name.f l n) (fun r => Pos r.2) :=by
 unfold pandectplay_Picks_Name.f
 refine T.bind (T.now _ (Q :=fun y => y.length = 6) rfl) fun y hy => T.bind (num_t hl hn (by decide) (by decide)) fun r hr => T.yes hr.1.1 (T.yes ?_ (T.now _ hr.2))
 rw [hy];exact hr.1.2
theorem kind_t {l : List Int} (hl : Bytes l) {n : Int} (hn : Pos n) : T (fun _ => pandectplay_Picks_Kind.f l n) (fun r => Pos r.2) :=by
 unfold pandectplay_Picks_Kind.f
 refine T.bind (T.now _ (Q :=fun y => y.length = 3) rfl) fun y hy => T.bind (num_t hl hn (by decide) (by decide)) fun r hr => T.yes hr.1.1 (T.yes ?_ (T.now _ hr.2))
 rw [hy];exact hr.1.2
theorem dloop_t {l : List Int} {n : Int} (hn : Pos n) : ∀ (d : Nat) (b : List Int) (i : Int),0 ≤ i → (b.length : Int) ≤ 1000 → i ≤ 1000 → (b.length : Int) - i ≤ d → T (fun k => pandectplay_Picks_Data.l0 k b i l n) (fun r => Pos r.2)
 | 0,b,i,h0,h1,h2,h3 => T.step (fun k => rfl) (T.no (by omega) (T.now _ hn))
 | d + 1,b,i,h0,h1,h2,h3 => by
  by_cases hc : i < (b.length : Int)
  ·have e1 : wrap64 (i + 1) = i + 1 :=wrap_small (by omega) (by omega)
   refine T.step (fun k => rfl) (T.yes hc (T.yes h0 ?_))
   rw [e1]
   exact dloop_t hn d _ _ (by omega) (by rw [List.length_set];exact h1) (by omega) (by rw [List.length_set];omega)
  ·exact T.step (fun k => rfl) (T.no hc (T.now _ hn))
theorem data_t {l : List Int} (hl : Bytes l) {n : Int} (hn : Pos n) : T (fun k => pandectplay_Picks_Data.f k l n) (fun r => Pos r.2) :=by
 unfold pandectplay_Picks_Data.f
 refine T.bind (T.now _ (Q :=fun y => y = [0,1,3,20,100]) rfl) fun y hy => T.bind (num_t hl hn (by decide) (by decide)) fun r hr => ?_
 subst hy
 have hb : 0 ≤ rd [0,1,3,20,100] r.1 ∧ rd [0,1,3,20,100] r.1 ≤ 100 :=by
  obtain ⟨⟨a,b⟩,_⟩ :=hr
  have : r.1 = 0 ∨ r.1 = 1 ∨ r.1 = 2 ∨ r.1 = 3 ∨ r.1 = 4 :=by omega
  rcases this with h | h | h | h | h <;> rw [h] <;> decide
 refine T.yes hr.1.1 (T.yes hr.1.2 (T.yes hb.1 (T.yes (by omega) ?_)))
 exact dloop_t hr.2 100 _ _ (by omega) (by rw [List.length_replicate];omega) (by omega) (by rw [List.length_replicate];omega)
/-! Commit ends. -/
theorem l0_done {x4 x5 : Int} {l : List Int} {n : Int} {id : ByteArray} {ps : List S36} (h : ¬ x4 < x5) (hp : ps.length ≤ 3) : T (fun k => pandectplay_Picks_Commit.l0 k x4 x5 l n id ps) (fun r => r.2.1.length ≤ 3) :=
 T.step (fun k => rfl) (T.no h (T.now _ hp))
def L0ok (l : List Int) (d : Nat) : Prop :=∀ (x4 x5 n : Int) (id : ByteArray) (ps : List S36),0 ≤ x4 → x5 ≤ 1000 → x5 - x4 ≤ d → ps.length + d ≤ 3 → Pos n → T (fun k => pandectplay_Picks_Commit.l0 k x4 x5 l n id ps) (fun r => r.2.1.length ≤ 3)
theorem l2_t {l : List Int} (hl : Bytes l) {d : Nat} (hL : L0ok l d) {x4 x5 : Int} (h4 : 0 ≤ x4) (h5 : x5 ≤ 1000) (hd : x5 - x4 ≤ d + 1) (hlt : x4 < x5) (id : ByteArray) (ps : List S36) (hp : ps.length + (d + 1) ≤ 3) (nm : ByteArray) (ex : Int) :
  ∀ (m : Nat) (x9 n : Int) (evs : List S49),x9 ≤ m → (evs.length : Int) ≤ 1000 - m → Pos n → T (fun k => pandectplay_Picks_Commit.l2 k x4 x5 x9 l n id ps nm ex evs) (fun r => r.2.1.length ≤ 3) :=by
 have fin : ∀ (x9 n : Int) (evs : List S49),¬ x9 > 0 → Pos n → T (fun k => pandectplay_Picks_Commit.l2 k x4 x5 x9 l n id ps nm ex evs) (fun r => r.2.1.length ≤ 3) :=fun x9 n evs hc hn => by
  refine T.step (fun k => rfl) (T.no hc (T.yes (by omega) ?_))
  rw [wrap_small (by omega) (by omega)]
  exact hL _ _ _ _ _ (by omega) h5 (by omega) (by rw [List.length_append];simp;omega) hn
 intro m
 induction m with
 | zero => exact fun x9 n evs h9 he hn => fin x9 n evs (by omega) hn
 | succ m ih =>
  intro x9 n evs h9 he hn
  by_cases hc : x9 > 0
  ·refine T.step (fun k => rfl) (T.yes hc (T.bind (kind_t hl hn) fun r1 h1 => T.bind (data_t hl h1) fun r2 h2 => T.yes (by omega) ?_))
   rw [wrap_small (x :=x9 - 1) (by omega) (by omega)]
   exact ih _ _ _ (by omega) (by rw [List.length_append];simp;omega) h2
  ·exact fin x9 n evs hc hn
theorem j3_t {l : List Int} (hl : Bytes l) {d : Nat} (hL : L0ok l d) {x4 x5 : Int} (h4 : 0 ≤ x4) (h5 : x5 ≤ 1000) (hd : x5 - x4 ≤ d + 1) (hlt : x4 < x5) (id : ByteArray) (ps : List S36) (hp : ps.length + (d + 1) ≤ 3) (nm : ByteArray) (ex : Int)
  (b : Bool) {n : Int} (hn : Pos n) : T (fun k => pandectplay_Picks_Commit.j3 k x4 x5 b l n id ps nm ex) (fun r => r.2.1.length ≤ 3) :=by
 by_cases hb : b = true
 ·refine T.step (fun k => rfl) (T.yes hb ?_)
  rw [wrap_small (by omega) (by omega)]
  exact hL _ _ _ _ _ (by omega) h5 (by omega) (by omega) hn
 ·refine T.step (fun k => rfl) (T.no hb (T.bind (num_t hl hn (by decide) (by decide)) fun r hr => ?_))
  obtain ⟨⟨a,b'⟩,hp'⟩ :=hr
  rw [wrap_small (x :=1 + r.1) (by omega) (by omega)]
  exact l2_t hl hL h4 h5 hd hlt id ps hp nm ex 4 _ _ _ (by omega) (by simp) hp'
theorem l1_t {l : List Int} (hl : Bytes l) {d : Nat} (hL : L0ok l d) {x4 x5 : Int} (h4 : 0 ≤ x4) (h5 : x5 ≤ 1000) (hd : x5 - x4 ≤ d + 1) (hlt : x4 < x5) (id : ByteArray) (ps : List S36) (hp : ps.length + (d + 1) ≤ 3) (nm : ByteArray) (ex : Int)
  {n : Int} (hn : Pos n) : ∀ (m : Nat) (b : Bool) (x8 : Int),0 ≤ x8 → x8 ≤ 1000 → (ps.length : Int) - x8 ≤ m → T (fun k => pandectplay_Picks_Commit.l1 k x4 x5 b x8 l n id ps nm ex) (fun r => r.2.1.length ≤ 3) :=by
 have fin : ∀ (b : Bool) (x8 : Int),¬ x8 < (ps.length : Int) → T (fun k => pandectplay_Picks_Commit.l1 k x4 x5 b x8 l n id ps nm ex) (fun r => r.2.1.length ≤ 3) :=fun b x8 hc => by
  by_cases hb : b = true
  ·exact T.step (fun k => rfl) (T.no hc (T.yes hb (T.bind (num_t hl hn (by decide) (by decide)) fun r hr => j3_t hl hL h4 h5 hd hlt id ps hp nm ex _ hr.2)))
  ·exact T.step (fun k => rfl) (T.no hc (T.no hb (j3_t hl hL h4 h5 hd hlt id ps hp nm ex _ hn)))
 intro m
 induction m with
 | zero => exact fun b x8 h0 h8 hm => fin b x8 (by omega)
 | succ m ih =>
  intro b x8 h0 h8 hm
  by_cases hc : x8 < (ps.length : Int)
  ·have e1 : wrap64 (x8 + 1) = x8 + 1 :=wrap_small (by omega) (by omega)
   by_cases hb : b = true
   ·refine T.step (fun k => rfl) (T.yes hc (T.yes hb ?_))
    rw [e1];exact ih _ _ (by omega) (by omega) (by omega)
   ·refine T.step (fun k => rfl) (T.yes hc (T.no hb (T.yes h0 ?_)))
    rw [e1];exact ih _ _ (by omega) (by omega) (by omega)
  ·exact fin b x8 hc
theorem l0_t {l : List Int} (hl : Bytes l) : ∀ d,L0ok l d
 | 0 => fun x4 x5 n id ps h4 h5 hd hp hn => l0_done (by omega) (by omega)
 | d + 1 => fun x4 x5 n id ps h4 h5 hd hp hn => by
  by_cases hc : x4 < x5
  ·refine T.step (fun k => rfl) (T.yes hc (T.bind (name_t hl hn) fun r1 h1 => T.bind (T.now _ (Q :=fun y => y.length = 7) rfl) fun y hy => T.bind (num_t hl h1 (by decide) (by decide)) fun r2 h2 => T.yes h2.1.1 (T.yes (by rw [hy];exact h2.1.2) ?_)))
   exact l1_t hl (l0_t hl d) h4 h5 (by omega) hc _ ps (by omega) _ _ h2.2 ps.length _ _ (by omega) (by omega) (by omega)
  ·exact l0_done hc (by omega)
theorem j0_t {l : List Int} (hl : Bytes l) {n : Int} (hn : Pos n) (id : ByteArray) : T (fun k => pandectplay_Picks_Commit.j0 k l n id) (fun r => r.2.1.length ≤ 3) :=by
 refine T.step (fun k => rfl) (T.bind (num_t hl hn (by decide) (by decide)) fun r hr => ?_)
 obtain ⟨⟨a,b⟩,hp⟩ :=hr
 rw [wrap_small (x :=1 + r.1) (by omega) (by omega)]
 exact l0_t hl 3 _ _ _ _ _ (by omega) (by omega) (by omega) (by simp) hp
theorem commit_t {l : List Int} (hl : Bytes l) : T (fun k => pandectplay_Picks_Commit.f k l 0) (fun r => r.2.1.length ≤ 3) :=by
 unfold pandectplay_Picks_Commit.f
 refine T.bind (num_t hl (n :=0) ⟨by omega,by omega⟩ (by decide) (by decide)) fun r hr => ?_
 by_cases hc : r.1 = 0
 ·refine T.yes hc (T.bind (T.now _ (Q :=fun y => y.length = 3) rfl) fun y hy => T.bind (num_t hl hr.2 (by decide) (by decide)) fun r2 h2 => T.yes h2.1.1 (T.yes (by rw [hy];exact h2.1.2) (j0_t hl h2.2 _)))
 ·exact T.no hc (j0_t hl hr.2 _)
end Go.Proofs.Ytfelkchmeiijfaa.P2
