/- The law's arguments as rows of bytes; the law's call. -/
import Derived.Test.YtlafgnanfkhobaaGreatDoorFe
import Derived.Test.YtlafgnanfkhobaaGreatDoorPB
import Derived.ChangeSlices
import Derived.ChangeMaps
namespace Go.Ideal
set_option linter.all false
set_option linter.unusedSimpArgs false
set_option linter.unusedVariables false
open Go Go.ChangeShapes Go.WideShapes Go.RowKit
set_option maxHeartbeats 1000000
/-- A row of bytes, as it was read. -/
inductive Row {H : Type} (w : World) : Value → DataW H → List MemPlace → Prop where
 | nil : Row w (.slice none 0 0) .nil []
 | at (a : Addr) (len cap : Nat) (zs : List Int) : len ≤ cap → cap ≤ maxLen → zs.length = cap →
   (∀ i,i < zs.length → w.cell? (a.add i) = some (.int .u8 (zs.getD i 0))) → (∀ n ∈ zs,(Lit.int .u8 n).wf = true) →
   Row w (.slice (some a) len cap) (.slice (lits .u8 (zs.take len)) (lits .u8 (zs.drop len))) (MemPlace.row a zs.length)
theorem open_row {H : Type} {enc : TypeId × Value → H} {P : Program} {w : World} {t e : TypeId} {v : Value} {d : DataW H} {p : List MemPlace} {b0 : Nat} {rc : Reach}
  (ht : P.underlying t = some (.slice e)) (he : P.underlying e = some (.int .u8)) (hc : P.cellsOf e = 1) (hval : Value.okWide P w rc b0 t v)
  (hd : DataW.Trod enc P w 0 (fun _ => true) true t v d p) : Row w v d p :=by
 obtain ⟨fuel,hf⟩ :=hd
 obtain ⟨a0,n0,c0,rfl⟩ :=okWide_slice ht hval
 rcases open_ints ht he hc hf with ⟨hcs,hx⟩ | ⟨a,len,cap,zs,hcs,_,hl,hm,hz,hx,hcell,hwz⟩
 ·simp [Value.cells] at hcs
  obtain ⟨rfl,rfl,rfl⟩ :=hcs
  simp only [Prod.mk.injEq] at hx
  obtain ⟨rfl,rfl⟩ :=hx
  exact .nil
 ·simp [Value.cells] at hcs
  obtain ⟨rfl,rfl,rfl⟩ :=hcs
  simp only [Prod.mk.injEq] at hx
  obtain ⟨rfl,rfl⟩ :=hx
  simp only [if_true] at hz
  exact .at a n0 c0 zs hl hm hz hcell hwz
theorem shut_row {H : Type} {enc : TypeId × Value → H} {P : Program} {w w' : World} {t e : TypeId} {v : Value} {d : DataW H} {p : List MemPlace} {sp : Nat → Bool} {hd : Bool}
  (ht : P.underlying t = some (.slice e)) (he : P.underlying e = some (.int .u8)) (hc : P.cellsOf e = 1) (h : Row w v d p) (hb : RowKit.Below w.heap.size w w') (hs : ∀ q ∈ p,sp q.block = true) :
  DataW.Trod enc P w' 0 sp hd t v d p :=by
 cases h with
 | nil => exact ⟨1,by simp [DataW.trod,DataW.trodStep,Value.cells,ht]⟩
 | «at» a len cap zs hl hm hz hcell hw =>
  have hz' : zs.length = if sp a.block then cap else len :=by
   rcases Nat.eq_zero_or_pos cap with h0 | h0
   ·have : len = 0 :=by omega
    rw [hz,h0,this];simp
   ·have : sp a.block = true :=by
     have hq :=hs (MemPlace.cell a.block (a.off + 0)) (by
      unfold MemPlace.row
      exact List.mem_map.2 ⟨0,by simp;omega,rfl⟩)
     exact hq
    rw [this,if_pos rfl];exact hz
  have hlt : ∀ i,i < zs.length → (a.add i).block < w.heap.size :=by
   intro i hi
   have h :=hcell i hi
   rcases Nat.lt_or_ge (a.add i).block w.heap.size with h1 | h1
   ·exact h1
   ·simp [World.cell?,Array.getElem?_eq_none h1] at h
  exact ⟨2,shut_ints 0 ht he hc (Nat.zero_le _) hl hm hz' (fun i hi => by rw [hb.cell (p :=a.add i) (hlt i hi)];exact hcell i hi) hw⟩
end Go.Ideal
namespace Go.Proofs.YtlafgnanfkhobaaGreatDoorW.PrintWords
open Go.RowKit
theorem ReadsInt.ofRow {k : IntKind} {w : World} {a : Option Addr} {len cap : Nat} {zs : List Int} (h : (a = none ∧ len = 0 ∧ cap = 0 ∧ zs = []) ∨ ∃ x, a = some x ∧ len ≤ cap ∧ cap ≤ maxLen ∧ zs.length = cap ∧ (∀ i, i < zs.length → w.cell? (x.add i) = some (.int k (zs.getD i 0))) ∧ ∀ n ∈ zs, (Lit.int k n).wf = true) :
    ∃ l : List Int, len = l.length ∧ ReadsInt w k a l.length l ∧ l.length ≤ maxLen ∧ ∀ x ∈ l, (Lit.int k x).wf = true := by
  rcases h with ⟨rfl, rfl, rfl, rfl⟩ | ⟨x, rfl, hl, hm, hz, hc, hw⟩
  · exact ⟨[], rfl, ReadsInt.nil _ _, Nat.zero_le _, fun x hx => by simp at hx⟩
  · have e : (zs.take len).length = len := by simp; omega
    have hm' : len ≤ maxLen := Nat.le_trans hl hm
    refine ⟨zs.take len, e.symm, ⟨rfl, by rw [e]; simpa [maxLen] using hm', fun _ => ⟨x, rfl, fun j hj => ?_⟩⟩, by rw [e]; exact hm', fun y hy => hw y (List.mem_of_mem_take hy)⟩
    rw [e] at hj
    rw [hc j (by omega)]
    simp [List.getD, List.getElem?_take, hj]
theorem ReadsInt.ofRowC {k : IntKind} {w : World} {a : Option Addr} {len cap : Nat} {zs : List Int} (h : (a = none ∧ len = 0 ∧ cap = 0 ∧ zs = []) ∨ ∃ x, a = some x ∧ len ≤ cap ∧ cap ≤ maxLen ∧ zs.length = cap ∧ (∀ i, i < zs.length → w.cell? (x.add i) = some (.int k (zs.getD i 0))) ∧ ∀ n ∈ zs, (Lit.int k n).wf = true) :
    ∃ l : List Int, len = l.length ∧ ReadsInt w k a l.length l ∧ l.length ≤ maxLen ∧ (∀ x ∈ l, (Lit.int k x).wf = true) ∧ l.length ≤ cap := by
  have hl : len ≤ cap := by
    rcases h with ⟨_, rfl, rfl, _⟩ | ⟨_, _, h, _⟩
    · exact Nat.le_refl _
    · exact h
  obtain ⟨l, e, h1, h2, h3⟩ := ReadsInt.ofRow h
  exact ⟨l, e, h1, h2, h3, e ▸ hl⟩
namespace Kd
theorem C_of_reads {α : Type} {enc : α → Value} {d : α} {h1 : ∀ x, (enc x).oneCell' = true} {w : World} {A : Option Addr} {n : Nat} {xs : List α} (h : ReadsOf enc d w A n xs) : (scalar enc h1).C w A n xs := by
  refine ⟨h.1, h.2.1, fun hn => ?_⟩
  obtain ⟨ad, e, hc⟩ := h.2.2 hn
  refine ⟨ad, e, fun j p hj => ⟨[enc p], rfl, rfl, fun i u hu => ?_⟩⟩
  obtain ⟨hl, hp⟩ := List.getElem?_eq_some_iff.1 hj
  have h2 := hc j (by have := h.1; omega)
  rw [List.getD_eq_getElem?_getD, hj] at h2
  cases i with
  | zero =>
    have : enc p = u := by simpa using hu
    subst this
    simpa [scalar] using h2
  | succ i => simp at hu
end Kd
end Go.Proofs.YtlafgnanfkhobaaGreatDoorW.PrintWords
namespace Go.Proofs.YtlafgnanfkhobaaGreatDoor
open Go Go.RowKit Go.Proofs.YtlafgnanfkhobaaGreatDoorW.PrintWords Go.Proofs.YtlafgnanfkhobaaGreatDoorW.PrintLast Go.Proofs.YtlafgnanfkhobaaGreatDoorW.PrintMore
theorem row_reads {H : Type} {w : World} {v : Value} {d : DataW H} {p : List MemPlace} (h : Ideal.Row w v d p) :
  ∃ (a : Option Addr) (len cap : Nat) (z : List Int),v = .slice a len cap ∧ ((a = none ∧ len = 0 ∧ cap = 0 ∧ z = []) ∨ ∃ x,a = some x ∧ len ≤ cap ∧ cap ≤ maxLen ∧ z.length = cap ∧ (∀ i,i < z.length → w.cell? (x.add i) = some (.int .u8 (z.getD i 0))) ∧ ∀ n ∈ z,(Lit.int .u8 n).wf = true) :=by
 cases h with
 | nil => exact ⟨none,0,0,[],rfl,.inl ⟨rfl,rfl,rfl,rfl⟩⟩
 | «at» a len cap zs hl hm hz hcell hw => exact ⟨some a,len,cap,zs,rfl,.inr ⟨a,rfl,hl,hm,hz,hcell,hw⟩⟩
theorem wf8 {x : Int} (h : (Lit.int .u8 x).wf = true) : 0 ≤ x ∧ x ≤ 255 :=by
 have h' : (decide (0 ≤ x) && decide (x ≤ 255)) = true :=h
 simpa using h'
theorem playBack_true {H : Type} (v0 : Value) (d0 : DataW H) (p0 : List MemPlace) (w : World) (hr0 : Ideal.Row w v0 d0 p0) (v1 : Value) (d1 : DataW H) (p1 : List MemPlace) (_w : World) (hr1 : Ideal.Row w v1 d1 p1) (a2 : Int) (w2 : (Lit.int .u16 a2).wf = true) :
  Calls Tryz.prog 3 #[v0,v1,.int .u16 a2] w fun e w' => e = .returned (.bool true) ∧ Below w.heap.size w w' :=by
 obtain ⟨a0,len0,cap0,z0,rfl,w0⟩ :=row_reads hr0
 obtain ⟨a1,len1,cap1,z1,rfl,w1⟩ :=row_reads hr1
 obtain ⟨l0,rfl,hr0,hm0,hw0,hc0⟩ :=ReadsInt.ofRowC w0
 obtain ⟨l1,rfl,hr1,hm1,hw1,hc1⟩ :=ReadsInt.ofRowC w1
 have h2 : (decide (0 ≤ a2) && decide (a2 ≤ 65535)) = true :=w2
 exact P2.playBack_calls (Kd.C_of_reads (d :=(0 : Int)) (h1 :=fun _ => rfl) hr0) hc0 (Kd.C_of_reads (d :=(0 : Int)) (h1 :=fun _ => rfl) hr1) hc1 (fun x hx => wf8 (hw0 x hx)) (fun x hx => wf8 (hw1 x hx)) (by simpa using h2)
end Go.Proofs.YtlafgnanfkhobaaGreatDoor
