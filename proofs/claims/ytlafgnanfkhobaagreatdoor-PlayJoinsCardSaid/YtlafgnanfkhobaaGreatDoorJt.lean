/- The law's arguments as rows of bytes; the law's call. -/
import Derived.Test.YtlafgnanfkhobaaGreatDoorFd
import Derived.Test.YtlafgnanfkhobaaGreatDoorPf
import Derived.ChangeSlices
import Derived.ChangeMaps
namespace Go.Ideal
open Go Go.ChangeShapes Go.WideShapes Go.RowKit
set_option maxHeartbeats 1000000
inductive Row {H : Type} (w : World) : Value → DataW H → List MemPlace → Prop where
 | nil : Row w (.slice none 0 0) .nil []
 | at (a : Addr) (len cap : Nat) (zs : List Int) : len ≤ cap → cap ≤ maxLen → zs.length = cap →
   (∀ i,i < zs.length → w.cell? (a.add i) = some (.int .u8 (zs.getD i 0))) → (∀ n ∈ zs,(Lit.int .u8 n).wf = true) →
   Row w (.slice (some a) len cap) (.slice (lits .u8 (zs.take len)) (lits .u8 (zs.drop len))) (MemPlace.row a zs.length)
theorem open_row {H : Type} {enc : TypeId × Value → H} {P : Program} {w : World} {t e : TypeId} {v : Value} {d : DataW H} {p : List MemPlace} {b0 : Nat} {rc : Reach}
  (ht : P.underlying t = some (.slice e)) (he : P.underlying e = some (.int .u8)) (hc : P.cellsOf e = 1) (hval : Value.okWide P w rc b0 t v)
  (hd : DataW.Trod enc P w 0 (fun _ => true) true t v d p) : Row w v d p :=by
 obtain ⟨fuel,hf⟩ :=hd
 obtain ⟨a0,n0,c0,rfl⟩ :=okWide_slice ht hval
 rcases open_ints ht he hc hf with ⟨hcs,hx⟩ | ⟨a,len,cap,zs,hcs,_,hl,hm,hz,hx,hcell,hwz⟩
 ·simp [Value.cells] at hcs
  obtain ⟨rfl,rfl,rfl⟩ :=hcs
  simp only [Prod.mk.injEq] at hx
  obtain ⟨rfl,rfl⟩ :=hx
  exact .nil
 ·simp [Value.cells] at hcs
  obtain ⟨rfl,rfl,rfl⟩ :=hcs
  simp only [Prod.mk.injEq] at hx
  obtain ⟨rfl,rfl⟩ :=hx
  simp only [if_true] at hz
  exact .at a n0 c0 zs hl hm hz hcell hwz
theorem shut_row {H : Type} {enc : TypeId × Value → H} {P : Program} {w w' : World} {t e : TypeId} {v : Value} {d : DataW H} {p : List MemPlace} {sp : Nat → Bool} {hd : Bool}
  (ht : P.underlying t = some (.slice e)) (he : P.underlying e = some (.int .u8)) (hc : P.cellsOf e = 1) (h : Row w v d p) (hb : RowKit.Below w.heap.size w w') (hs : ∀ q ∈ p,sp q.block = true) :
  DataW.Trod enc P w' 0 sp hd t v d p :=by
 cases h with
 | nil => exact ⟨1,by simp [DataW.trod,DataW.trodStep,Value.cells,ht]⟩
 | «at» a len cap zs hl hm hz hcell hw =>
  have hz' : zs.length = if sp a.block then cap else len :=by
   rcases Nat.eq_zero_or_pos cap with h0 | h0
   ·have : len = 0 :=by omega
    rw [hz,h0,this];simp
   ·have : sp a.block = true :=by
     have hq :=hs (MemPlace.cell a.block (a.off + 0)) (by
      unfold MemPlace.row
      exact List.mem_map.2 ⟨0,by simp;omega,rfl⟩)
     exact hq
    rw [this,if_pos rfl];exact hz
  have hlt : ∀ i,i < zs.length → (a.add i).block < w.heap.size :=by
   intro i hi
   have h :=hcell i hi
   rcases Nat.lt_or_ge (a.add i).block w.heap.size with h1 | h1
   ·exact h1
   ·simp [World.cell?,Array.getElem?_eq_none h1] at h
  exact ⟨2,shut_ints 0 ht he hc (Nat.zero_le _) hl hm hz' (fun i hi => by rw [hb.cell (p :=a.add i) (hlt i hi)];exact hcell i hi) hw⟩
end Go.Ideal
namespace Go.Proofs.YtlafgnanfkhobaaGreatDoor
open Go Go.RowKit Go.Proofs.YtlafgnanfkhobaaGreatDoorW.PrintWords Go.Proofs.YtlafgnanfkhobaaGreatDoorW.PrintLast Go.Proofs.YtlafgnanfkhobaaGreatDoorW.PrintMore
theorem row_reads {H : Type} {w : World} {v : Value} {d : DataW H} {p : List MemPlace} (h : Ideal.Row w v d p) :
  ∃ (a : Option Addr) (len cap : Nat) (z : List Int),v = .slice a len cap ∧ ((a = none ∧ len = 0 ∧ cap = 0 ∧ z = []) ∨ ∃ x,a = some x ∧ len ≤ cap ∧ cap ≤ maxLen ∧ z.length = cap ∧ (∀ i,i < z.length → w.cell? (x.add i) = some (.int .u8 (z.getD i 0))) ∧ ∀ n ∈ z,(Lit.int .u8 n).wf = true) :=by
 cases h with
 | nil => exact ⟨none,0,0,[],rfl,.inl ⟨rfl,rfl,rfl,rfl⟩⟩
 | «at» a len cap zs hl hm hz hcell hw => exact ⟨some a,len,cap,zs,rfl,.inr ⟨a,rfl,hl,hm,hz,hcell,hw⟩⟩
theorem joins_at (l0 l1 : List Int) (h0 : ∀ x ∈ l0,(Lit.int .u8 x).wf = true) (h1 : ∀ x ∈ l1,(Lit.int .u8 x).wf = true) (m0 : l0.length ≤ maxLen) (m1 : l1.length ≤ maxLen) : ∃ k,P2.pandectlaw27_PlayJoins.f k l0 l1 = some true :=by
 by_cases g0 : (l0.length : Int) > 100
 ·exact ⟨1,by simp [P2.pandectlaw27_PlayJoins.f,P2.pandectlaw27_PlayJoins.j0,P2.pandectlaw27_begun.f,g0]⟩
 ·by_cases g1 : (l1.length : Int) > 100
  ·exact ⟨1,by simp [P2.pandectlaw27_PlayJoins.f,P2.pandectlaw27_PlayJoins.j0,P2.pandectlaw27_begun.f,g0,g1]⟩
  ·exact P2.joins l0 l1 m0 (by omega) h0 m1 (by omega) h1
theorem playJoins_true {H : Type} (v0 : Value) (d0 : DataW H) (p0 : List MemPlace) (w : World) (hr0 : Ideal.Row w v0 d0 p0) (v1 : Value) (d1 : DataW H) (p1 : List MemPlace) (_w : World) (hr1 : Ideal.Row w v1 d1 p1) :
  Calls Tryz.prog 4 #[v0,v1] w fun e w' => e = .returned (.bool true) ∧ Below w.heap.size w w' :=by
 obtain ⟨a0,len0,cap0,z0,rfl,w0⟩ :=row_reads hr0
 obtain ⟨a1,len1,cap1,z1,rfl,w1⟩ :=row_reads hr1
 obtain ⟨l0,rfl,hr0,hm0,hw0,hc0⟩ :=ReadsInt.ofRowC w0
 obtain ⟨l1,rfl,hr1,hm1,hw1,hc1⟩ :=ReadsInt.ofRowC w1
 obtain ⟨k,h⟩ :=joins_at l0 l1 hw0 hw1 hm0 hm1
 refine (P2.pandectlaw27_PlayJoins.calls k _ _ l0 _ _ l1 true w (Kd.C_of_reads (d :=(0 : Int)) (h1 :=fun _ => rfl) hr0) hc0 (Kd.C_of_reads (d :=(0 : Int)) (h1 :=fun _ => rfl) hr1) hc1 h).mono ?_
 rintro e w' ⟨rfl,hd⟩
 exact ⟨rfl,hd⟩
end Go.Proofs.YtlafgnanfkhobaaGreatDoor
