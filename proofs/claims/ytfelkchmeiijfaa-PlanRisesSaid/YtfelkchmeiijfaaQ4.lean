-- Written for this claim by a program, out of the translation.
import Derived.Test.YtfelkchmeiijfaaQ0
namespace Go.Proofs.Ytfelkchmeiijfaa.P2
open Go.RowKit Go.Proofs.YtfelkchmeiijfaaW.PrintWords Go.Proofs.YtfelkchmeiijfaaW.PrintLast Go.Proofs.YtfelkchmeiijfaaW.PrintMore
attribute [local go_sem] max2_int min2_int max_two min_two max_three min_three max_four min_four
set_option linter.unusedVariables false
set_option linter.unusedSimpArgs false
/-! ### plan_MayCommit: function 8 -/
section
open Go.Maps Go.WideMaps
/-- Is an event right? -/
def evOk (t : ByteArray) (n : Nat) : Bool :=Go.Ideal.mayL (Go.Ideal.bl t) && decide (n ≤ 100)
set_option maxHeartbeats 2000000 in
set_option maxRecDepth 100000 in
theorem may_calls (t : ByteArray) (A : Option Addr) (n c : Nat) (w : World) : Calls Try.prog 19 #[.agg #[.string t,.slice A n c]] w fun e w' => e = .returned (.bool (evOk t n)) ∧ Below w.heap.size w w' :=by
 have hx0 : ∀ w',Below (w.alloc (.cells #[.string t,.slice A n c] 49)).heap.size (w.alloc (.cells #[.string t,.slice A n c] 49)) w' → w'.cell? ⟨w.heap.size,1,none⟩ = some (.slice A n c) :=fun w' hb => by
  have h1 : (w.alloc (.cells #[.string t,.slice A n c] 49)).cell? ⟨w.heap.size,1,none⟩ = some (.slice A n c) :=(blk_cell (blk_new w _) 1).trans rfl
  exact (hb.cell (World.block_lt_of_cell? _ _ h1)).trans h1
 cases hm : Go.Ideal.mayL (Go.Ideal.bl t) <;> by_cases hn : n ≤ 100
 all_goals
  have z : (n : Int) ≤ 100 ↔ n ≤ 100 :=by omega
  go_enter Try.func19,Try.ntmps19
  go_wp2_with (go_at_call 16;refine (Go.Proofs.Ytfelkchmeiijfaa.may_prog t _).mono ?_;rintro e w' ⟨rfl,hb⟩;have hx :=hx0 w' hb;rw [hm])
  all_goals first | (exfalso;omega) | (go_ret;exact ⟨by simp [evOk,hm,hn],below_step (below_alloc (Below.refl _ _) _) hb⟩)
set_option maxHeartbeats 2000000 in
set_option maxRecDepth 100000 in
theorem not_calls (t : ByteArray) (A : Option Addr) (n c : Nat) (w : World) : Calls Try.prog 18 #[.agg #[.string t,.slice A n c]] w fun e w' => e = .returned (.bool (!evOk t n)) ∧ Below w.heap.size w w' :=by
 go_enter Try.func18,Try.ntmps18
 go_wp2_with (go_at_call 19;refine (may_calls t A n c _).mono ?_;rintro e w' ⟨rfl,hb⟩)
 go_ret
 exact ⟨rfl,below_step (below_alloc (Below.refl _ _) _) hb⟩
theorem evAt {w : World} {ad : Addr} {n : Nat} {xs : List S49} (h : Kd.C k49 w (some ad) n xs) (k : Nat) (hk : k < n) :
  ∃ A1 c1,w.cell? (ad.add (k * 2)) = some (.string (rd_T49 xs k).f0) ∧ w.cell? ⟨(ad.add (k * 2)).block,(ad.add (k * 2)).off + 1,none⟩ = some (.slice A1 (rd_T49 xs k).f1.length c1) :=by
 obtain ⟨ad',A1,c1,e,h1,h2,_⟩ :=at_T49 h (k : Int) (by omega) (by omega)
 cases e
 exact ⟨A1,c1,h1,h2⟩
def evsOk (xs : List S49) : Bool :=xs.all fun e => evOk e.f0 e.f1.length
theorem evsOk_iff (xs : List S49) : evsOk xs = true ↔ ∀ j,j < xs.length → evOk (rd_T49 xs j).f0 (rd_T49 xs j).f1.length = true :=by
 unfold evsOk
 rw [List.all_eq_true]
 constructor
 ·intro h j hj
  have : rd_T49 xs (j : Int) = xs[j] :=by simp [rd_T49,hj]
  rw [this];exact h _ (List.getElem_mem hj)
 ·intro h e he
  obtain ⟨j,hj,rfl⟩ :=List.getElem_of_mem he
  have : rd_T49 xs (j : Int) = xs[j] :=by simp [rd_T49,hj]
  rw [← this];exact h j hj
set_option maxHeartbeats 2000000 in
set_option maxRecDepth 100000 in
theorem index_calls (ad : Addr) (n c : Nat) (xs : List S49) (w : World) (hr : Kd.C k49 w (some ad) n xs) : Calls Try.prog 35 #[.slice (some ad) n c,.func (.func 18) #[] #[]] w
  fun e w' => (∃ r : Int,e = .returned (.int .i64 r) ∧ decide (0 ≤ r) = !evsOk xs) ∧ Below w.heap.size w w' :=by
 have hn63 : n ≤ 9223372036854775807 :=hr.2.1
 go_enter Try.func35,Try.ntmps35
 go_wp2
 go_loopw [8] (fun i wr => ∃ k : Nat,k ≤ n ∧ i = .int .i64 k ∧ (∀ j,j < k → evOk (rd_T49 xs j).f0 (rd_T49 xs j).f1.length = true) ∧ Below w.heap.size w wr) (fun i _ => n - (intOf i).toNat)
 case atStart => exact ⟨0,Nat.zero_le _,rfl,fun j hj => by omega,Below.refl _ _⟩
 case round =>
  obtain ⟨k,hk,rfl,hall,hB⟩ :=hrel
  by_cases hkn : k < n
  ·obtain ⟨A1,c1,h1,h2⟩ :=evAt hr k hkn
   replace h1 :=(hB.cell (World.block_lt_of_cell? _ _ h1)).trans h1
   replace h2 :=(hB.cell (World.block_lt_of_cell? _ _ h2)).trans h2
   have z : (k : Int) < (n : Int) :=by omega
   cases hev : evOk (rd_T49 xs k).f0 (rd_T49 xs k).f1.length with
   | true =>
    go_wp2_with (go_at_call 18;refine (not_calls _ A1 _ c1 _).mono ?_;rintro e w' ⟨rfl,hb⟩;rw [hev])
    go_roundw
    case rel => exact ⟨k + 1,by omega,rfl,fun j hj => if e : j = k then e ▸ hev else hall j (by omega),below_step hB hb⟩
    case measure => simp [intOf];omega
   | false =>
    go_wp2_with (go_at_call 18;refine (not_calls _ A1 _ c1 _).mono ?_;rintro e w' ⟨rfl,hb⟩;rw [hev])
    go_ret
    have he : evsOk xs = false :=by
     cases h : evsOk xs with
     | false => rfl
     | true => rw [(evsOk_iff xs).1 h k (by have :=hr.1;omega)] at hev;cases hev
    exact ⟨⟨k,rfl,by rw [he];simp⟩,below_step hB hb⟩
  ·have : k = n :=by omega
   subst this
   go_wp2
   go_ret
   exact ⟨⟨-1,rfl,by rw [(evsOk_iff xs).2 (fun j hj => hall j (by have :=hr.1;omega))];rfl⟩,hB⟩
set_option maxHeartbeats 2000000 in
set_option maxRecDepth 100000 in
theorem contains_calls (ad : Addr) (n c : Nat) (xs : List S49) (w : World) (hr : Kd.C k49 w (some ad) n xs) : Calls Try.prog 17 #[.slice (some ad) n c,.func (.func 18) #[] #[]] w
  fun e w' => e = .returned (.bool (!evsOk xs)) ∧ Below w.heap.size w w' :=by
 have hl : xs.length = n :=hr.1
 go_enter Try.func17,Try.ntmps17
 go_wp2_with (go_at_call 35;refine (index_calls ad n c xs _ hr).mono ?_;rintro e w' ⟨⟨k,rfl,h⟩,hb⟩)
 go_ret
 exact ⟨by rw [← h];rfl,hb⟩
/-! the names that came -/
def seenD {H : Type} : List (List UInt8) → DataW H
 | [] => .map []
 | s :: l => (seenD l).put (.string s) (.lit (.bool true))
theorem seenD_map {H : Type} : ∀ l,IsMap (seenD (H :=H) l)
 | [] => ⟨_,rfl⟩
 | _ :: l => (seenD_map l).put _ _
theorem seenD_at {H : Type} (s : List UInt8) : ∀ l,(seenD (H :=H) l).atKey (.string s) (.lit (.bool false)) = .lit (.bool (l.contains s))
 | [] => rfl
 | t :: l => by
  by_cases h : s = t
  ·subst h
   rw [show seenD (s :: l) = (seenD (H :=H) l).put (.string s) (.lit (.bool true)) from rfl,atKey_put_same (seenD_map l) (by simp [WideAt.IsKeyLit])]
   simp
  ·rw [show seenD (t :: l) = (seenD (H :=H) l).put (.string t) (.lit (.bool true)) from rfl,atKey_put_other (fun e => h (by cases e;rfl)),seenD_at s l]
   have : (s == t) = false :=by simpa using h
   simp [List.contains_cons,this,h]
theorem zero4 (w : World) : (zeroValue 4).run Try.prog w = .ok (.bool false) w :=by kernel_rfl
set_option maxRecDepth 100000 in
theorem plainBool {H : Type} {v : Value} {z : DataW H × List MemPlace} (h : plainElem Try.prog 4 v = some z) : ∃ b,v = .bool b ∧ z = (.lit (.bool b),[]) :=by
 unfold plainElem at h
 rw [Try.underlying4] at h
 cases v <;> simp at h
 exact ⟨_,rfl,h.symm⟩
theorem seen_look {w : World} {b n : Nat} {l : List (List UInt8)} (h : w.ownsMap Try.prog 9 (plainElem (H :=Unit) Try.prog 4) b n (seenD l)) (s : ByteArray) (hs : s.size ≤ maxLen) :
  (Instr.lookup 64 (.map (some b)) (.string s) false).run Try.prog w = .ok (.bool (l.contains s.data.toList)) w :=by
 obtain ⟨v,ps,hrun,hv⟩ :=h.lookup (string_keyed Try.underlying9) Try.underlying64 (zero4 _) (plainElem_bool Try.underlying4 false) (keyOf_string_mk Try.underlying9 hs)
 obtain ⟨x,rfl,hx⟩ :=plainBool hv
 rw [seenD_at] at hx
 simp only [Prod.mk.injEq,DataW.lit.injEq,Lit.bool.injEq] at hx
 rw [hrun,hx.1]
/-- Is a part right, behind others? -/
def partOk (seen : List (List UInt8)) (p : S36) : Bool :=Go.Ideal.mayL (Go.Ideal.bl p.f0) && !seen.contains p.f0.data.toList && decide (-2 ≤ p.f1) && decide (1 ≤ p.f2.length) && decide (p.f2.length ≤ 5) && evsOk p.f2
def partsOk : List (List UInt8) → List S36 → Bool
 | _,[] => true
 | seen,p :: ps => partOk seen p && partsOk (p.f0.data.toList :: seen) ps
def mayCommit (id : ByteArray) (ps : List S36) : Bool :=(id.toList == [] || Go.Ideal.mayL (Go.Ideal.bl id)) && decide (1 ≤ ps.length) && decide (ps.length ≤ 4) && partsOk [] ps
theorem may_size {s : ByteArray} (h : Go.Ideal.mayL (Go.Ideal.bl s) = true) : s.size ≤ maxLen :=by
 unfold Go.Ideal.mayL at h
 simp only [Bool.and_eq_true] at h
 have :=Nat.le_of_ble_eq_true h.1.2
 rw [Go.Proofs.Ytfelkchmeiijfaa.size_bl] at this
 unfold maxLen
 omega
def namesOf (ps : List S36) (k : Nat) : List (List UInt8) :=((ps.take k).map fun p => p.f0.data.toList).reverse
theorem parts_step (ps : List S36) (k : Nat) (hk : k < ps.length) : partsOk (namesOf ps k) (ps.drop k) = (partOk (namesOf ps k) (rd_T36 ps k) && partsOk (namesOf ps (k + 1)) (ps.drop (k + 1))) :=by
 have h1 : ps.drop k = ps[k] :: ps.drop (k + 1) :=List.drop_eq_getElem_cons hk
 have h2 : rd_T36 ps (k : Int) = ps[k] :=by
  show ps.getD k z36 = ps[k]
  rw [List.getD,List.getElem?_eq_getElem hk];rfl
 have h3 : namesOf ps (k + 1) = ps[k].f0.data.toList :: namesOf ps k :=by
  unfold namesOf
  rw [List.take_add_one,List.getElem?_eq_getElem hk,List.map_append,List.reverse_append];rfl
 rw [h1,h2,h3];rfl
theorem names_step (ps : List S36) (k : Nat) (hk : k < ps.length) : seenD (H :=Unit) (namesOf ps (k + 1)) = (seenD (namesOf ps k)).put (.string (rd_T36 ps k).f0.data.toList) (.lit (.bool true)) :=by
 have h2 : rd_T36 ps (k : Int) = ps[k] :=by
  show ps.getD k z36 = ps[k]
  rw [List.getD,List.getElem?_eq_getElem hk];rfl
 have h3 : namesOf ps (k + 1) = ps[k].f0.data.toList :: namesOf ps k :=by
  unfold namesOf
  rw [List.take_add_one,List.getElem?_eq_getElem hk,List.map_append,List.reverse_append];rfl
 rw [h3,h2];rfl
set_option maxHeartbeats 2000000 in
set_option maxRecDepth 100000 in
theorem mc_calls (id : ByteArray) (A : Option Addr) (c : Nat) (ps : List S36) (w : World) (hr : Kd.C k36 w A ps.length ps) : Calls Try.prog 8 #[.agg #[.string id,.slice A ps.length c]] w
  fun e w' => e = .returned (.bool (mayCommit id ps)) ∧ Below w.heap.size w w' :=by
 have hmm :=@run_makeMap Try.prog
 have hB1 : Below w.heap.size w (w.alloc (.cells #[.string id,.slice A ps.length c] 28)) :=below_alloc (Below.refl _ _) _
 have h0 : ∀ w',Below (w.alloc (.cells #[.string id,.slice A ps.length c] 28)).heap.size (w.alloc (.cells #[.string id,.slice A ps.length c] 28)) w' → w'.heap[w.heap.size]? = some (.cells #[.string id,.slice A ps.length c] 28 (0,0)) :=fun w' hb => by
  have h1 :=blk_new w (.cells #[.string id,.slice A ps.length c] 28)
  exact (hb.block _ (blk_lt h1)).trans h1
 have hres : mayCommit id ps = ((id.toList == [] || Go.Ideal.mayL (Go.Ideal.bl id)) && decide (1 ≤ ps.length) && decide (ps.length ≤ 4) && partsOk [] ps) :=rfl
 by_cases hbad : (id.toList == []) = false ∧ Go.Ideal.mayL (Go.Ideal.bl id) = false
 ·obtain ⟨hid,hm⟩ :=hbad
  have hm0 :=hm
  go_enter Try.func8,Try.ntmps8
  go_wp2_with (go_at_call 16;refine (Go.Proofs.Ytfelkchmeiijfaa.may_prog id _).mono ?_;rintro e w' ⟨rfl,hb⟩;have hx :=h0 w' hb;rw [hm])
  go_ret
  exact ⟨by rw [hres,hid,hm];rfl,below_step hB1 hb⟩
 by_cases z1 : ¬ 1 ≤ ps.length
 ·have z1' : decide ((ps.length : Int) < 1) = true :=decide_eq_true (by omega)
  have hf : mayCommit id ps = false :=by rw [hres];simp [z1]
  have hid : (id.toList == []) = false ∨ (id.toList == []) = true :=by cases id.toList == [] <;> simp
  rcases hid with hid | hid
  ·have hm : Go.Ideal.mayL (Go.Ideal.bl id) = true :=by
    cases e : Go.Ideal.mayL (Go.Ideal.bl id) with
    | true => rfl
    | false => exact absurd ⟨hid,e⟩ hbad
   go_enter Try.func8,Try.ntmps8
   go_wp2_with (go_at_call 16;refine (Go.Proofs.Ytfelkchmeiijfaa.may_prog id _).mono ?_;rintro e w' ⟨rfl,hb⟩;have hx :=h0 w' hb;have hx0 :=(blk_cell hx 0).trans rfl;have hx1 :=(blk_cell hx 1).trans rfl;have hx2 :=(blk_cell (show (w'.alloc (.map #[] 0)).heap[w.heap.size]? = _ from (((below_alloc (Below.refl _ _) _ : Below w'.heap.size w' (w'.alloc (.map #[] 0))).block _ (blk_lt hx)).trans hx)) 1).trans rfl;rw [hm])
   go_ret
   exact ⟨by rw [hf];rfl,below_step hB1 hb⟩
  ·go_enter Try.func8,Try.ntmps8
   go_wp2
   go_ret
   exact ⟨by rw [hf];rfl,hB1⟩
 have z1 : 1 ≤ ps.length :=by omega
 by_cases z2 : ¬ ps.length ≤ 4
 ·have z1' : decide ((ps.length : Int) < 1) = false :=decide_eq_false (by omega)
  have z2' : decide ((4 : Int) < ps.length) = true :=decide_eq_true (by omega)
  have hf : mayCommit id ps = false :=by rw [hres];simp [z2]
  have hid : (id.toList == []) = false ∨ (id.toList == []) = true :=by cases id.toList == [] <;> simp
  rcases hid with hid | hid
  ·have hm : Go.Ideal.mayL (Go.Ideal.bl id) = true :=by
    cases e : Go.Ideal.mayL (Go.Ideal.bl id) with
    | true => rfl
    | false => exact absurd ⟨hid,e⟩ hbad
   go_enter Try.func8,Try.ntmps8
   go_wp2_with (go_at_call 16;refine (Go.Proofs.Ytfelkchmeiijfaa.may_prog id _).mono ?_;rintro e w' ⟨rfl,hb⟩;have hx :=h0 w' hb;have hx0 :=(blk_cell hx 0).trans rfl;have hx1 :=(blk_cell hx 1).trans rfl;have hx2 :=(blk_cell (show (w'.alloc (.map #[] 0)).heap[w.heap.size]? = _ from (((below_alloc (Below.refl _ _) _ : Below w'.heap.size w' (w'.alloc (.map #[] 0))).block _ (blk_lt hx)).trans hx)) 1).trans rfl;rw [hm])
   go_ret
   exact ⟨by rw [hf];rfl,below_step hB1 hb⟩
  ·go_enter Try.func8,Try.ntmps8
   go_wp2
   go_ret
   exact ⟨by rw [hf];rfl,hB1⟩
 have z2 : ps.length ≤ 4 :=by omega
 have z1' : decide ((ps.length : Int) < 1) = false :=decide_eq_false (by omega)
 have z2' : decide ((4 : Int) < ps.length) = false :=decide_eq_false (by omega)
 have hid : (id.toList == []) = false ∨ (id.toList == []) = true :=by cases id.toList == [] <;> simp
 rcases hid with hid | hid
 ·have hm : Go.Ideal.mayL (Go.Ideal.bl id) = true :=by
   cases e : Go.Ideal.mayL (Go.Ideal.bl id) with
   | true => rfl
   | false => exact absurd ⟨hid,e⟩ hbad
  have hm0 :=hm
  go_enter Try.func8,Try.ntmps8
  go_wp2_with (go_at_call 16;refine (Go.Proofs.Ytfelkchmeiijfaa.may_prog id _).mono ?_;rintro e w' ⟨rfl,hb⟩;have hx :=h0 w' hb;have hx0 :=(blk_cell hx 0).trans rfl;have hx1 :=(blk_cell hx 1).trans rfl;have hx2 :=(blk_cell (show (w'.alloc (.map #[] 0)).heap[w.heap.size]? = _ from (((below_alloc (Below.refl _ _) _ : Below w'.heap.size w' (w'.alloc (.map #[] 0))).block _ (blk_lt hx)).trans hx)) 1).trans rfl;rw [hm])
  go_loopw [31] (fun i wr => ∃ k : Nat,k ≤ ps.length ∧ i = .int .i64 k ∧ partsOk [] ps = partsOk (namesOf ps k) (ps.drop k) ∧ wr.ownsMap Try.prog 9 (plainElem (H :=Unit) Try.prog 4) w'.heap.size k (seenD (namesOf ps k)) ∧ Below w.heap.size w wr) (fun i _ => ps.length - (intOf i).toNat)
  case atStart => exact ⟨0,Nat.zero_le _,rfl,rfl,World.ownsMap_made _ _ _ _,below_alloc (below_step hB1 hb) _⟩
  case round =>
   obtain ⟨k,hk,rfl,hpk,hown,hB⟩ :=hrel
   by_cases hkn : k < ps.length
   ·obtain ⟨ad,A2,c2,eA,g0,g1,g2,hl2,hr2⟩ :=at_T36 hr (k : Int) (by omega) (by omega)
    subst eA
    replace g0 : wr.cell? (ad.add (k * 3)) = some (.string (rd_T36 ps k).f0) :=(hB.cell (World.block_lt_of_cell? _ _ g0)).trans g0
    replace g1 : wr.cell? ⟨(ad.add (k * 3)).block,(ad.add (k * 3)).off + 1,none⟩ = some (.int .i64 (rd_T36 ps k).f1) :=(hB.cell (World.block_lt_of_cell? _ _ g1)).trans g1
    replace g2 : wr.cell? ⟨(ad.add (k * 3)).block,(ad.add (k * 3)).off + 2,none⟩ = some (.slice A2 (rd_T36 ps k).f2.length c2) :=(hB.cell (World.block_lt_of_cell? _ _ g2)).trans g2
    have hkn' : (k : Int) < (ps.length : Int) :=by omega
    have q0 : ∀ w2,Below (wr.alloc (.cells #[.string (rd_T36 ps k).f0,.int .i64 (rd_T36 ps k).f1,.slice A2 (rd_T36 ps k).f2.length c2] 36)).heap.size (wr.alloc (.cells #[.string (rd_T36 ps k).f0,.int .i64 (rd_T36 ps k).f1,.slice A2 (rd_T36 ps k).f2.length c2] 36)) w2 → w2.heap[wr.heap.size]? = some (.cells #[.string (rd_T36 ps k).f0,.int .i64 (rd_T36 ps k).f1,.slice A2 (rd_T36 ps k).f2.length c2] 36 (0,0)) :=fun w2 hb => (hb.block _ (blk_lt (blk_new wr _))).trans (blk_new wr _)
    have q1 : ∀ w2,Below (wr.alloc (.cells #[.string (rd_T36 ps k).f0,.int .i64 (rd_T36 ps k).f1,.slice A2 (rd_T36 ps k).f2.length c2] 36)).heap.size (wr.alloc (.cells #[.string (rd_T36 ps k).f0,.int .i64 (rd_T36 ps k).f1,.slice A2 (rd_T36 ps k).f2.length c2] 36)) w2 → w2.ownsMap Try.prog 9 (plainElem (H :=Unit) Try.prog 4) w'.heap.size k (seenD (namesOf ps k)) :=fun w2 hb => (hown.alloc _).kept (grown_of_below hb none) (by simp)
    have hfalse : partOk (namesOf ps k) (rd_T36 ps k) = false → mayCommit id ps = false :=fun h => by rw [hres,hpk,parts_step ps k hkn,h];simp
    cases hm : Go.Ideal.mayL (Go.Ideal.bl (rd_T36 ps k).f0)
    ·go_wp2_with (go_at_call 16;refine (Go.Proofs.Ytfelkchmeiijfaa.may_prog _ _).mono ?_;rintro e w2 ⟨rfl,hb2⟩;have hx :=q0 w2 hb2;have hy0 :=(blk_cell hx 0).trans rfl;have hy1 :=(blk_cell hx 1).trans rfl;have hy2 :=(blk_cell hx 2).trans rfl;rw [hm])
     go_ret
     exact ⟨by rw [hfalse (by unfold partOk;rw [hm];rfl)];rfl,below_step (below_alloc hB _) hb2⟩
    have hsz : (rd_T36 ps k).f0.size ≤ maxLen :=may_size hm
    by_cases hcc : (namesOf ps k).contains (rd_T36 ps k).f0.data.toList = true
    ·have hc :=hcc
     go_wp2_with (go_at_call 16;refine (Go.Proofs.Ytfelkchmeiijfaa.may_prog _ _).mono ?_;rintro e w2 ⟨rfl,hb2⟩;have hx :=q0 w2 hb2;have hy0 :=(blk_cell hx 0).trans rfl;have hy1 :=(blk_cell hx 1).trans rfl;have hy2 :=(blk_cell hx 2).trans rfl;have hlk :=seen_look (q1 w2 hb2) _ hsz;rw [hc] at hlk;rw [hm])
     go_ret
     exact ⟨by rw [hfalse (by unfold partOk;rw [hm,hc];rfl)];rfl,below_step (below_alloc hB _) hb2⟩
    have hc : (namesOf ps k).contains (rd_T36 ps k).f0.data.toList = false :=by simpa using hcc
    by_cases n1 : (rd_T36 ps k).f1 < -2
    ·have n1' : decide ((rd_T36 ps k).f1 < -2) = true :=decide_eq_true n1
     go_wp2_with (go_at_call 16;refine (Go.Proofs.Ytfelkchmeiijfaa.may_prog _ _).mono ?_;rintro e w2 ⟨rfl,hb2⟩;have hx :=q0 w2 hb2;have hy0 :=(blk_cell hx 0).trans rfl;have hy1 :=(blk_cell hx 1).trans rfl;have hy2 :=(blk_cell hx 2).trans rfl;have hlk :=seen_look (q1 w2 hb2) _ hsz;rw [hc] at hlk;rw [hm])
     go_ret
     exact ⟨by rw [hfalse (by unfold partOk;rw [hm,hc];rw [show decide (-2 ≤ (rd_T36 ps k).f1) = false from decide_eq_false (by omega)];rfl)];rfl,below_step (below_alloc hB _) hb2⟩
    have n1' : decide ((rd_T36 ps k).f1 < -2) = false :=decide_eq_false n1
    have d1 : decide (-2 ≤ (rd_T36 ps k).f1) = true :=decide_eq_true (by omega)
    by_cases n2 : (rd_T36 ps k).f2.length < 1
    ·have n2' : decide (((rd_T36 ps k).f2.length : Int) < 1) = true :=decide_eq_true (by omega)
     go_wp2_with (go_at_call 16;refine (Go.Proofs.Ytfelkchmeiijfaa.may_prog _ _).mono ?_;rintro e w2 ⟨rfl,hb2⟩;have hx :=q0 w2 hb2;have hy0 :=(blk_cell hx 0).trans rfl;have hy1 :=(blk_cell hx 1).trans rfl;have hy2 :=(blk_cell hx 2).trans rfl;have hlk :=seen_look (q1 w2 hb2) _ hsz;rw [hc] at hlk;rw [hm])
     go_ret
     exact ⟨by rw [hfalse (by unfold partOk;rw [hm,hc];rw [d1,show decide (1 ≤ (rd_T36 ps k).f2.length) = false from decide_eq_false (by omega)];rfl)];rfl,below_step (below_alloc hB _) hb2⟩
    have n2' : decide (((rd_T36 ps k).f2.length : Int) < 1) = false :=decide_eq_false (by omega)
    have d2 : decide (1 ≤ (rd_T36 ps k).f2.length) = true :=decide_eq_true (by omega)
    by_cases n3 : 5 < (rd_T36 ps k).f2.length
    ·have n3' : decide ((5 : Int) < ((rd_T36 ps k).f2.length : Int)) = true :=decide_eq_true (by omega)
     go_wp2_with (go_at_call 16;refine (Go.Proofs.Ytfelkchmeiijfaa.may_prog _ _).mono ?_;rintro e w2 ⟨rfl,hb2⟩;have hx :=q0 w2 hb2;have hy0 :=(blk_cell hx 0).trans rfl;have hy1 :=(blk_cell hx 1).trans rfl;have hy2 :=(blk_cell hx 2).trans rfl;have hlk :=seen_look (q1 w2 hb2) _ hsz;rw [hc] at hlk;rw [hm])
     go_ret
     exact ⟨by rw [hfalse (by unfold partOk;rw [hm,hc];rw [d1,d2,show decide ((rd_T36 ps k).f2.length ≤ 5) = false from decide_eq_false (by omega)];rfl)];rfl,below_step (below_alloc hB _) hb2⟩
    have n3' : decide ((5 : Int) < ((rd_T36 ps k).f2.length : Int)) = false :=decide_eq_false (by omega)
    have d3 : decide ((rd_T36 ps k).f2.length ≤ 5) = true :=decide_eq_true (by omega)
    obtain ⟨ad2,rfl,_⟩ :=hr2.2.2 (by omega)
    have hpo : partOk (namesOf ps k) (rd_T36 ps k) = evsOk (rd_T36 ps k).f2 :=by unfold partOk;rw [hm,hc,d1,d2,d3];rfl
    have hMlt : w'.heap.size < wr.heap.size :=hown.lt
    have hMge : w.heap.size ≤ w'.heap.size :=(below_step hB1 hb).size
    cases hev : evsOk (rd_T36 ps k).f2 <;> go_wp2_with (first | (go_at_call 16;refine (Go.Proofs.Ytfelkchmeiijfaa.may_prog _ _).mono ?_;rintro e w2 ⟨rfl,hb2⟩;have hx :=q0 w2 hb2;have hy0 :=(blk_cell hx 0).trans rfl;have hy1 :=(blk_cell hx 1).trans rfl;have hy2 :=(blk_cell hx 2).trans rfl;have hlk :=seen_look (q1 w2 hb2) _ hsz;rw [hc] at hlk;rw [hm]) | (at_mapUpdate;refine wpList_mapUpdate_own _ rfl _ _ _ 64 rfl 9 4 (string_keyed Try.underlying9) Try.underlying64 (plainElem (H :=Unit) Try.prog 4) w'.heap.size k _ rfl (q1 w2 hb2) (by unfold maxLen;omega) _ _ _ rfl rfl (keyOf_string_mk Try.underlying9 hsz) _ [] (plainElem_bool Try.underlying4 true) ?_;intro w3 hown3 hgrow3;have hx3 :=(hgrow3.block _ (blk_lt hx) (by simp only [ne_eq,Option.some.injEq];omega)).trans hx;have hz2 :=(blk_cell hx3 2).trans rfl;have hB3 : Below w.heap.size w w3 :=(below_step (below_alloc hB _) hb2).grown hgrow3 (below_step (below_alloc hB _) hb2).size (fun j hj => by cases hj;exact hMge)) | (go_at_call 17;refine (contains_calls ad2 _ c2 _ _ (Kd.C_below hr2 hB3)).mono ?_;rintro e w4 ⟨rfl,hb4⟩;rw [hev]))
    ·go_ret
     exact ⟨by rw [hfalse (by rw [hpo,hev])];rfl,below_step hB3 hb4⟩
    ·go_roundw
     case rel => exact ⟨k + 1,by omega,rfl,by rw [hpk,parts_step ps k hkn,hpo,hev];rfl,by rw [names_step ps k hkn];exact hown3.kept (grown_of_below hb4 none) (by simp),below_step hB3 hb4⟩
     case measure => simp [intOf];omega
   ·have : k = ps.length :=by omega
    subst this
    go_wp2
    go_ret
    exact ⟨by rw [hres,hpk];simp [partsOk,z1,z2,hm0],hB⟩
 ·have hx :=blk_new w (.cells #[.string id,.slice A ps.length c] 28)
  have hx2 :=(blk_cell (show ((w.alloc (.cells #[.string id,.slice A ps.length c] 28)).alloc (.map #[] 0)).heap[w.heap.size]? = _ from (((below_alloc (Below.refl _ _) _ : Below (w.alloc (.cells #[.string id,.slice A ps.length c] 28)).heap.size (w.alloc (.cells #[.string id,.slice A ps.length c] 28)) ((w.alloc (.cells #[.string id,.slice A ps.length c] 28)).alloc (.map #[] 0))).block _ (blk_lt hx)).trans hx)) 1).trans rfl
  go_enter Try.func8,Try.ntmps8
  go_wp2
  go_loopw [31] (fun i wr => ∃ k : Nat,k ≤ ps.length ∧ i = .int .i64 k ∧ partsOk [] ps = partsOk (namesOf ps k) (ps.drop k) ∧ wr.ownsMap Try.prog 9 (plainElem (H :=Unit) Try.prog 4) (w.heap.size + 1) k (seenD (namesOf ps k)) ∧ Below w.heap.size w wr) (fun i _ => ps.length - (intOf i).toNat)
  case atStart => exact ⟨0,Nat.zero_le _,rfl,rfl,(show (w.alloc (.cells #[.string id,.slice A ps.length c] 28)).heap.size = w.heap.size + 1 from Array.size_push _) ▸ World.ownsMap_made (w.alloc (.cells #[.string id,.slice A ps.length c] 28)) Try.prog 9 (plainElem (H :=Unit) Try.prog 4),below_alloc hB1 _⟩
  case round =>
   obtain ⟨k,hk,rfl,hpk,hown,hB⟩ :=hrel
   by_cases hkn : k < ps.length
   ·obtain ⟨ad,A2,c2,eA,g0,g1,g2,hl2,hr2⟩ :=at_T36 hr (k : Int) (by omega) (by omega)
    subst eA
    replace g0 : wr.cell? (ad.add (k * 3)) = some (.string (rd_T36 ps k).f0) :=(hB.cell (World.block_lt_of_cell? _ _ g0)).trans g0
    replace g1 : wr.cell? ⟨(ad.add (k * 3)).block,(ad.add (k * 3)).off + 1,none⟩ = some (.int .i64 (rd_T36 ps k).f1) :=(hB.cell (World.block_lt_of_cell? _ _ g1)).trans g1
    replace g2 : wr.cell? ⟨(ad.add (k * 3)).block,(ad.add (k * 3)).off + 2,none⟩ = some (.slice A2 (rd_T36 ps k).f2.length c2) :=(hB.cell (World.block_lt_of_cell? _ _ g2)).trans g2
    have hkn' : (k : Int) < (ps.length : Int) :=by omega
    have q0 : ∀ w2,Below (wr.alloc (.cells #[.string (rd_T36 ps k).f0,.int .i64 (rd_T36 ps k).f1,.slice A2 (rd_T36 ps k).f2.length c2] 36)).heap.size (wr.alloc (.cells #[.string (rd_T36 ps k).f0,.int .i64 (rd_T36 ps k).f1,.slice A2 (rd_T36 ps k).f2.length c2] 36)) w2 → w2.heap[wr.heap.size]? = some (.cells #[.string (rd_T36 ps k).f0,.int .i64 (rd_T36 ps k).f1,.slice A2 (rd_T36 ps k).f2.length c2] 36 (0,0)) :=fun w2 hb => (hb.block _ (blk_lt (blk_new wr _))).trans (blk_new wr _)
    have q1 : ∀ w2,Below (wr.alloc (.cells #[.string (rd_T36 ps k).f0,.int .i64 (rd_T36 ps k).f1,.slice A2 (rd_T36 ps k).f2.length c2] 36)).heap.size (wr.alloc (.cells #[.string (rd_T36 ps k).f0,.int .i64 (rd_T36 ps k).f1,.slice A2 (rd_T36 ps k).f2.length c2] 36)) w2 → w2.ownsMap Try.prog 9 (plainElem (H :=Unit) Try.prog 4) (w.heap.size + 1) k (seenD (namesOf ps k)) :=fun w2 hb => (hown.alloc _).kept (grown_of_below hb none) (by simp)
    have hfalse : partOk (namesOf ps k) (rd_T36 ps k) = false → mayCommit id ps = false :=fun h => by rw [hres,hpk,parts_step ps k hkn,h];simp
    cases hm : Go.Ideal.mayL (Go.Ideal.bl (rd_T36 ps k).f0)
    ·go_wp2_with (go_at_call 16;refine (Go.Proofs.Ytfelkchmeiijfaa.may_prog _ _).mono ?_;rintro e w2 ⟨rfl,hb2⟩;have hx :=q0 w2 hb2;have hy0 :=(blk_cell hx 0).trans rfl;have hy1 :=(blk_cell hx 1).trans rfl;have hy2 :=(blk_cell hx 2).trans rfl;rw [hm])
     go_ret
     exact ⟨by rw [hfalse (by unfold partOk;rw [hm];rfl)];rfl,below_step (below_alloc hB _) hb2⟩
    have hsz : (rd_T36 ps k).f0.size ≤ maxLen :=may_size hm
    by_cases hcc : (namesOf ps k).contains (rd_T36 ps k).f0.data.toList = true
    ·have hc :=hcc
     go_wp2_with (go_at_call 16;refine (Go.Proofs.Ytfelkchmeiijfaa.may_prog _ _).mono ?_;rintro e w2 ⟨rfl,hb2⟩;have hx :=q0 w2 hb2;have hy0 :=(blk_cell hx 0).trans rfl;have hy1 :=(blk_cell hx 1).trans rfl;have hy2 :=(blk_cell hx 2).trans rfl;have hlk :=seen_look (q1 w2 hb2) _ hsz;rw [hc] at hlk;rw [hm])
     go_ret
     exact ⟨by rw [hfalse (by unfold partOk;rw [hm,hc];rfl)];rfl,below_step (below_alloc hB _) hb2⟩
    have hc : (namesOf ps k).contains (rd_T36 ps k).f0.data.toList = false :=by simpa using hcc
    by_cases n1 : (rd_T36 ps k).f1 < -2
    ·have n1' : decide ((rd_T36 ps k).f1 < -2) = true :=decide_eq_true n1
     go_wp2_with (go_at_call 16;refine (Go.Proofs.Ytfelkchmeiijfaa.may_prog _ _).mono ?_;rintro e w2 ⟨rfl,hb2⟩;have hx :=q0 w2 hb2;have hy0 :=(blk_cell hx 0).trans rfl;have hy1 :=(blk_cell hx 1).trans rfl;have hy2 :=(blk_cell hx 2).trans rfl;have hlk :=seen_look (q1 w2 hb2) _ hsz;rw [hc] at hlk;rw [hm])
     go_ret
     exact ⟨by rw [hfalse (by unfold partOk;rw [hm,hc];rw [show decide (-2 ≤ (rd_T36 ps k).f1) = false from decide_eq_false (by omega)];rfl)];rfl,below_step (below_alloc hB _) hb2⟩
    have n1' : decide ((rd_T36 ps k).f1 < -2) = false :=decide_eq_false n1
    have d1 : decide (-2 ≤ (rd_T36 ps k).f1) = true :=decide_eq_true (by omega)
    by_cases n2 : (rd_T36 ps k).f2.length < 1
    ·have n2' : decide (((rd_T36 ps k).f2.length : Int) < 1) = true :=decide_eq_true (by omega)
     go_wp2_with (go_at_call 16;refine (Go.Proofs.Ytfelkchmeiijfaa.may_prog _ _).mono ?_;rintro e w2 ⟨rfl,hb2⟩;have hx :=q0 w2 hb2;have hy0 :=(blk_cell hx 0).trans rfl;have hy1 :=(blk_cell hx 1).trans rfl;have hy2 :=(blk_cell hx 2).trans rfl;have hlk :=seen_look (q1 w2 hb2) _ hsz;rw [hc] at hlk;rw [hm])
     go_ret
     exact ⟨by rw [hfalse (by unfold partOk;rw [hm,hc];rw [d1,show decide (1 ≤ (rd_T36 ps k).f2.length) = false from decide_eq_false (by omega)];rfl)];rfl,below_step (below_alloc hB _) hb2⟩
    have n2' : decide (((rd_T36 ps k).f2.length : Int) < 1) = false :=decide_eq_false (by omega)
    have d2 : decide (1 ≤ (rd_T36 ps k).f2.length) = true :=decide_eq_true (by omega)
    by_cases n3 : 5 < (rd_T36 ps k).f2.length
    ·have n3' : decide ((5 : Int) < ((rd_T36 ps k).f2.length : Int)) = true :=decide_eq_true (by omega)
     go_wp2_with (go_at_call 16;refine (Go.Proofs.Ytfelkchmeiijfaa.may_prog _ _).mono ?_;rintro e w2 ⟨rfl,hb2⟩;have hx :=q0 w2 hb2;have hy0 :=(blk_cell hx 0).trans rfl;have hy1 :=(blk_cell hx 1).trans rfl;have hy2 :=(blk_cell hx 2).trans rfl;have hlk :=seen_look (q1 w2 hb2) _ hsz;rw [hc] at hlk;rw [hm])
     go_ret
     exact ⟨by rw [hfalse (by unfold partOk;rw [hm,hc];rw [d1,d2,show decide ((rd_T36 ps k).f2.length ≤ 5) = false from decide_eq_false (by omega)];rfl)];rfl,below_step (below_alloc hB _) hb2⟩
    have n3' : decide ((5 : Int) < ((rd_T36 ps k).f2.length : Int)) = false :=decide_eq_false (by omega)
    have d3 : decide ((rd_T36 ps k).f2.length ≤ 5) = true :=decide_eq_true (by omega)
    obtain ⟨ad2,rfl,_⟩ :=hr2.2.2 (by omega)
    have hpo : partOk (namesOf ps k) (rd_T36 ps k) = evsOk (rd_T36 ps k).f2 :=by unfold partOk;rw [hm,hc,d1,d2,d3];rfl
    have hMlt : (w.heap.size + 1) < wr.heap.size :=hown.lt
    have hMge : w.heap.size ≤ (w.heap.size + 1) :=by omega
    cases hev : evsOk (rd_T36 ps k).f2 <;> go_wp2_with (first | (go_at_call 16;refine (Go.Proofs.Ytfelkchmeiijfaa.may_prog _ _).mono ?_;rintro e w2 ⟨rfl,hb2⟩;have hx :=q0 w2 hb2;have hy0 :=(blk_cell hx 0).trans rfl;have hy1 :=(blk_cell hx 1).trans rfl;have hy2 :=(blk_cell hx 2).trans rfl;have hlk :=seen_look (q1 w2 hb2) _ hsz;rw [hc] at hlk;rw [hm]) | (at_mapUpdate;refine wpList_mapUpdate_own _ rfl _ _ _ 64 rfl 9 4 (string_keyed Try.underlying9) Try.underlying64 (plainElem (H :=Unit) Try.prog 4) (w.heap.size + 1) k _ rfl (q1 w2 hb2) (by unfold maxLen;omega) _ _ _ rfl rfl (keyOf_string_mk Try.underlying9 hsz) _ [] (plainElem_bool Try.underlying4 true) ?_;intro w3 hown3 hgrow3;have hx3 :=(hgrow3.block _ (blk_lt hx) (by simp only [ne_eq,Option.some.injEq];omega)).trans hx;have hz2 :=(blk_cell hx3 2).trans rfl;have hB3 : Below w.heap.size w w3 :=(below_step (below_alloc hB _) hb2).grown hgrow3 (below_step (below_alloc hB _) hb2).size (fun j hj => by cases hj;exact hMge)) | (go_at_call 17;refine (contains_calls ad2 _ c2 _ _ (Kd.C_below hr2 hB3)).mono ?_;rintro e w4 ⟨rfl,hb4⟩;rw [hev]))
    ·go_ret
     exact ⟨by rw [hfalse (by rw [hpo,hev])];rfl,below_step hB3 hb4⟩
    ·go_roundw
     case rel => exact ⟨k + 1,by omega,rfl,by rw [hpk,parts_step ps k hkn,hpo,hev];rfl,by rw [names_step ps k hkn];exact hown3.kept (grown_of_below hb4 none) (by simp),below_step hB3 hb4⟩
     case measure => simp [intOf];omega
   ·have : k = ps.length :=by omega
    subst this
    go_wp2
    go_ret
    exact ⟨by rw [hres,hpk];simp [partsOk,z1,z2,hid],hB⟩
end
def plan_MayCommit.f (a0_0 : ByteArray) (l0_1 : List (S36)) : Option (Bool) :=some (mayCommit a0_0 l0_1)
theorem plan_MayCommit.calls (a0_0 : ByteArray) (A0_1 : Option Addr) (c0_1 : Nat) (l0_1 : List (S36)) (r : Bool) (w : World) (hr0_1 : Kd.C k36 w A0_1 l0_1.length l0_1) (hc0_1 : l0_1.length ≤ c0_1) (h : plan_MayCommit.f a0_0 l0_1 = some r) : Calls Try.prog 8 #[.agg #[.string a0_0,.slice A0_1 l0_1.length c0_1]] w fun e w' => e = .returned (.bool r) ∧ Below w.heap.size w w' :=by
 cases h
 exact mc_calls a0_0 A0_1 c0_1 l0_1 w hr0_1
/-! ### plan_wrong: function 14 -/
def plan_wrong.f (a0 : Int) (a1_0 : Int) (a1_1 : Int) (a1_2 : Bool) (a2 : Bool) : Option (Bool) :=if a0 = (-1) then (some false) else (if a0 = (-2) then (some a2) else (if a2 = true then (some (a0 != (wrap64 (a1_0 - 1)))) else (some true)))
set_option maxHeartbeats 8000000 in
set_option maxRecDepth 100000 in
theorem plan_wrong.calls (a0 : Int) (a1_0 : Int) (a1_1 : Int) (a1_2 : Bool) (a2 : Bool) (r : Bool) (w : World) (h : plan_wrong.f a0 a1_0 a1_1 a1_2 a2 = some r) :
  Calls Try.prog 14 #[.int .i64 a0,.agg #[.int .i64 a1_0,.int .i64 a1_1,.bool a1_2],.bool a2] w fun e w' => e = .returned (.bool r) ∧ Below w.heap.size w w' :=by
 have hu38 :=Try.underlying38
 have HB :=Aside0.mk (Below.refl w.heap.size w)
 have H : (if a0 = (-1) then (some false) else (if a0 = (-2) then (some a2) else (if a2 = true then (some (a0 != (wrap64 (a1_0 - 1)))) else (some true)))) = some r :=h
 clear h
 by_cases c4 : a0 = (-1)
 ·rw [if_pos c4] at H
  have c4b0 : (a0 == (-1)) = true :=beq_iff_eq.mpr c4
  have c4b1 : (a0 != (-1)) = false :=bne_eq_false_iff_eq.mpr c4
  clear c4
  obtain rfl :=Option.some.inj H
  go_enter Try.func14,Try.ntmps14
  go_wp2_with (first | ((with_reducible refine gate_dst (N :=4) rfl ?_);refine box_event ?hg (N :=4) ?hd (cs :=#[.int .i64 a1_0,.int .i64 a1_1,.bool a1_2]) (t :=38) ?hr ?_;(case hd => rfl);(case hg => rfl);(case hr => first | (go_simp;done) | (go_simp;rfl));intro gb163 hg w5 hbox hb;have n0_ :=Aside0.mk (below_step (by repeat (first | (with_reducible first | exact HB.out | apply below_alloc | apply pw_below_drewN | apply below_drew1) | exact HB.out)) hb);have n1_ :=Aside0.mk (hbox);have n2_ :=Aside0.mk ((by rw [hg];exact (below_size (by repeat (first | (with_reducible first | exact HB.out | apply below_alloc | apply pw_below_drewN | apply below_drew1) | exact HB.out))) : w.heap.size ≤ gb163));have n3_ :=Aside0.mk ((by rw [hg];exact (below_size (by repeat (first | (with_reducible first | exact HB.out | apply below_alloc | apply pw_below_drewN | apply below_drew1) | exact HB.out))) : w.heap.size ≤ gb163));clear HB;have HB :=n0_;have BK163 :=n1_;have GW163 :=n2_;have GE163 :=n3_;clear n0_ n1_ n2_ n3_;clear hb hbox hg))
  go_ret
  exact ⟨by first | rfl | (simp [errW_none,errW_some] <;> rfl) | (simp [*,errW_none,errW_some] <;> rfl),by repeat (first | (with_reducible first | exact HB.out | apply below_alloc | apply pw_below_drewN | apply below_drew1 | refine below_set ?_ GE163.out) | exact HB.out)⟩
 ·rw [if_neg c4] at H
  have c4b0 : (a0 == (-1)) = false :=beq_eq_false_iff_ne.mpr c4
  have c4b1 : (a0 != (-1)) = true :=bne_iff_ne.mpr c4
  by_cases c6 : a0 = (-2)
  ·rw [if_pos c6] at H
   have c6b0 : (a0 == (-2)) = true :=beq_iff_eq.mpr c6
   have c6b1 : (a0 != (-2)) = false :=bne_eq_false_iff_eq.mpr c6
   clear c6
   obtain rfl :=Option.some.inj H
   go_enter Try.func14,Try.ntmps14
   go_wp2_with (first | ((with_reducible refine gate_dst (N :=4) rfl ?_);refine box_event ?hg (N :=4) ?hd (cs :=#[.int .i64 a1_0,.int .i64 a1_1,.bool a1_2]) (t :=38) ?hr ?_;(case hd => rfl);(case hg => rfl);(case hr => first | (go_simp;done) | (go_simp;rfl));intro gb163 hg w7 hbox hb;have n0_ :=Aside0.mk (below_step (by repeat (first | (with_reducible first | exact HB.out | apply below_alloc | apply pw_below_drewN | apply below_drew1) | exact HB.out)) hb);have n1_ :=Aside0.mk (hbox);have n2_ :=Aside0.mk ((by rw [hg];exact (below_size (by repeat (first | (with_reducible first | exact HB.out | apply below_alloc | apply pw_below_drewN | apply below_drew1) | exact HB.out))) : w.heap.size ≤ gb163));have n3_ :=Aside0.mk ((by rw [hg];exact (below_size (by repeat (first | (with_reducible first | exact HB.out | apply below_alloc | apply pw_below_drewN | apply below_drew1) | exact HB.out))) : w.heap.size ≤ gb163));clear HB;have HB :=n0_;have BK163 :=n1_;have GW163 :=n2_;have GE163 :=n3_;clear n0_ n1_ n2_ n3_;clear hb hbox hg))
   go_ret
   exact ⟨by first | rfl | (simp [errW_none,errW_some] <;> rfl) | (simp [*,errW_none,errW_some] <;> rfl),by repeat (first | (with_reducible first | exact HB.out | apply below_alloc | apply pw_below_drewN | apply below_drew1 | refine below_set ?_ GE163.out) | exact HB.out)⟩
  ·rw [if_neg c6] at H
   have c6b0 : (a0 == (-2)) = false :=beq_eq_false_iff_ne.mpr c6
   have c6b1 : (a0 != (-2)) = true :=bne_iff_ne.mpr c6
   by_cases c8 : a2 = true
   ·subst c8
    have H1 : (some (a0 != (wrap64 (a1_0 - 1)))) = some r :=by rw [if_pos rfl] at H;exact H
    clear H
    have H :=H1
    clear H1
    obtain rfl :=Option.some.inj H
    go_enter Try.func14,Try.ntmps14
    go_wp2_with (first | ((with_reducible refine gate_dst (N :=4) rfl ?_);refine box_event ?hg (N :=4) ?hd (cs :=#[.int .i64 a1_0,.int .i64 a1_1,.bool a1_2]) (t :=38) ?hr ?_;(case hd => rfl);(case hg => rfl);(case hr => first | (go_simp;done) | (go_simp;rfl));intro gb163 hg w9 hbox hb;have n0_ :=Aside0.mk (below_step (by repeat (first | (with_reducible first | exact HB.out | apply below_alloc | apply pw_below_drewN | apply below_drew1) | exact HB.out)) hb);have n1_ :=Aside0.mk (hbox);have n2_ :=Aside0.mk ((by rw [hg];exact (below_size (by repeat (first | (with_reducible first | exact HB.out | apply below_alloc | apply pw_below_drewN | apply below_drew1) | exact HB.out))) : w.heap.size ≤ gb163));have n3_ :=Aside0.mk ((by rw [hg];exact (below_size (by repeat (first | (with_reducible first | exact HB.out | apply below_alloc | apply pw_below_drewN | apply below_drew1) | exact HB.out))) : w.heap.size ≤ gb163));clear HB;have HB :=n0_;have BK163 :=n1_;have GW163 :=n2_;have GE163 :=n3_;clear n0_ n1_ n2_ n3_;clear hb hbox hg;have hcz10_0 : w9.cell? ⟨gb163,0,none⟩ = some (.int .i64 a1_0) :=(blk_cell BK163.out 0).trans rfl;have hcz10_1 : w9.cell? ⟨gb163,1,none⟩ = some (.int .i64 a1_1) :=(blk_cell BK163.out 1).trans rfl;have hcz10_2 : w9.cell? ⟨gb163,2,none⟩ = some (.bool a1_2) :=(blk_cell BK163.out 2).trans rfl;have hfz10_0 :=blk_frozen BK163.out 0;have hfz10_1 :=blk_frozen BK163.out 1;have hfz10_2 :=blk_frozen BK163.out 2))
    go_ret
    exact ⟨by first | rfl | (simp [errW_none,errW_some] <;> rfl) | (simp [*,errW_none,errW_some] <;> rfl),by repeat (first | (with_reducible first | exact HB.out | apply below_alloc | apply pw_below_drewN | apply below_drew1 | refine below_set ?_ GE163.out) | exact HB.out)⟩
   ·replace c8 :=Bool.eq_false_iff.mpr c8
    subst c8
    have H1 : (some true) = some r :=by rw [if_neg (show ¬ (false = true) by decide)] at H;exact H
    clear H
    have H :=H1
    clear H1
    obtain rfl :=Option.some.inj H
    go_enter Try.func14,Try.ntmps14
    go_wp2_with (first | ((with_reducible refine gate_dst (N :=4) rfl ?_);refine box_event ?hg (N :=4) ?hd (cs :=#[.int .i64 a1_0,.int .i64 a1_1,.bool a1_2]) (t :=38) ?hr ?_;(case hd => rfl);(case hg => rfl);(case hr => first | (go_simp;done) | (go_simp;rfl));intro gb163 hg w11 hbox hb;have n0_ :=Aside0.mk (below_step (by repeat (first | (with_reducible first | exact HB.out | apply below_alloc | apply pw_below_drewN | apply below_drew1) | exact HB.out)) hb);have n1_ :=Aside0.mk (hbox);have n2_ :=Aside0.mk ((by rw [hg];exact (below_size (by repeat (first | (with_reducible first | exact HB.out | apply below_alloc | apply pw_below_drewN | apply below_drew1) | exact HB.out))) : w.heap.size ≤ gb163));have n3_ :=Aside0.mk ((by rw [hg];exact (below_size (by repeat (first | (with_reducible first | exact HB.out | apply below_alloc | apply pw_below_drewN | apply below_drew1) | exact HB.out))) : w.heap.size ≤ gb163));clear HB;have HB :=n0_;have BK163 :=n1_;have GW163 :=n2_;have GE163 :=n3_;clear n0_ n1_ n2_ n3_;clear hb hbox hg))
    go_ret
    exact ⟨by first | rfl | (simp [errW_none,errW_some] <;> rfl) | (simp [*,errW_none,errW_some] <;> rfl),by repeat (first | (with_reducible first | exact HB.out | apply below_alloc | apply pw_below_drewN | apply below_drew1 | refine below_set ?_ GE163.out) | exact HB.out)⟩
/-! ### slices_Clone_byte_byte: function 15 -/
theorem slices_Clone_byte_byte.info : (Try.prog.info? 5).map (fun i => (i.zero,i.size,i.bytes)) = some (some (.int .u8 0),1,1) :=by kernel_rfl
theorem slices_Clone_byte_byte.eql_none (c : Nat) (w : World) : (binOp .eql 22 (.slice none 0 c) (.slice none 0 0)).run Try.prog w = .ok (.bool true) w :=by kernel_rfl
theorem slices_Clone_byte_byte.eql_some (a : Addr) (n c : Nat) (w : World) : (binOp .eql 22 (.slice (some a) n c) (.slice none 0 0)).run Try.prog w = .ok (.bool false) w :=by kernel_rfl
def slices_Clone_byte_byte.f (l0 : List Int) : Option (List Int) :=if l0.length ≤ 140737488355328 then some l0 else none
set_option maxHeartbeats 2000000 in
set_option maxRecDepth 100000 in
theorem slices_Clone_byte_byte.calls (A0 : Option Addr) (c0 : Nat) (l0 : List Int) (r : List Int) (w : World) (hr0 : Kd.C (Kd.int .u8) w A0 l0.length l0) (hc0 : l0.length ≤ c0) (h : slices_Clone_byte_byte.f l0 = some r) :
  Calls Try.prog 15 #[.slice A0 l0.length c0] w fun e w' => ∃ v0_ : Value,e = .returned (v0_) ∧ Kd.R (Kd.int .u8) 5 w' w.heap.size (fun _ => True) v0_ r ∧ Below w.heap.size w w' :=by
 unfold slices_Clone_byte_byte.f at h
 split at h
 case isFalse => cases h
 rename_i hlim
 cases h
 cases A0 with
 | none =>
  have hn : l0 = [] :=by
   cases l0 with
   | nil => rfl
   | cons x l => obtain ⟨ad,e,_⟩ :=hr0.2.2 (by simp);cases e
  subst hn
  have he :=fun w => slices_Clone_byte_byte.eql_none c0 w
  go_enter Try.func15,Try.ntmps15
  go_wp2
  go_ret
  exact ⟨_,rfl,Kd.R_nil _ _ _ _ _,Below.refl _ _⟩
 | some ad =>
  have he :=fun w => slices_Clone_byte_byte.eql_some ad l0.length c0 w
  go_enter Try.func15,Try.ntmps15
  go_wp2_with (first | ((with_reducible refine gate_dst (N :=5) rfl ?_);refine Kd.R_lit (Kd.int .u8) _ 5 ?hg (N :=5) ?hd (xs :=([] : List Int)) (inner :=[]) (ok :=fun _ => True) (okp :=fun _ => True) ?hr ?hp (fun _ hk => hk) trivial (Below.refl _ _) (Nat.le_refl _) (by simp) ?_;(case hd => rfl);(case hg => rfl);(case hr => first | (go_simp;done) | (go_simp;rfl));(case hp => exact Reps.none _ _);intro v1 w1 ho hb hg hnew) | ((with_reducible refine gate_builtin (b :=.append) (xs :=#[.tmp 5,.tmp 6]) rfl ?_);at_builtin;refine Kd.R_append_row (Value.int .u8) 0 (h1 :=fun _ => rfl) (w0 :=w) w.heap.size rfl (.tmp 5) (.tmp 6) 22 5 (.int .u8 0) 1 rfl Try.underlying22 slices_Clone_byte_byte.info rfl (by decide) _ [] l0 _ _ _ (fun _ => True) rfl rfl (fun _ _ => trivial) ho (Kd.C_below hr0 hb) hb hb.size (by simpa using hlim) ?_;intro v2 w2 ho2 hb2 hg2 hat2))
  go_ret
  exact ⟨_,rfl,ho2,hb2⟩
end Go.Proofs.Ytfelkchmeiijfaa.P2
