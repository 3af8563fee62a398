/- slices.SortFunc of rows of three cells as one step: the row's order is not known behind it. -/
import Derived.Test.YtelifilabbadmaaSorted
import Derived.Test.YtelifilabbadmaaLayer
import Derived.Deep.Draws
import Derived.Sort.Grow
namespace Go.Ideal
set_option linter.all false
set_option linter.unusedSimpArgs false
set_option linter.unusedVariables false
noncomputable section
open Go Go.RowKit
set_option maxHeartbeats 1000000

def notRo : Kd → Bool
  | .ro => false
  | .str => false
  | .vst => false
  | _ => true

/-- Each element's key is a row of bytes that can be read, in another block. -/
def keysM (b : Nat) : Nat → List Value → M Unit
  | 0, _ => pure ()
  | n + 1, l => match l with
    | .slice (some ⟨b', o', none⟩) m c :: v :: o :: r => do
      guardM (one v && one o && !Nat.beq b b')
      let ys ← firstM m 1 (.slice (some ⟨b', o', none⟩) m c)
      let _ ← liftO (byteL ys)
      keysM b n r
    | _ => fail

def sortM (g : FuncId) (args : List Value) : M Value :=
  match args with
  | [.slice (some ⟨b, off, none⟩) (n + 1) _, .func (.func f) ⟨[]⟩ ⟨[]⟩] => do
    guardM (Nat.beq f g && Nat.ble (n + 1) 12)
    match ← rd b with
    | .cells xs _ k => do
      guardM (notRo k && Nat.ble (off + 3 * (n + 1)) xs.length)
      keysM b (n + 1) (xs.drop off)
      wr b .dead
      pure (.tuple ⟨[]⟩)
    | _ => fail
  | [.slice none 0 0, .func (.func f) ⟨[]⟩ ⟨[]⟩] => do
    guardM (Nat.beq f g)
    pure (.tuple ⟨[]⟩)
  | _ => fail

theorem resp_keysM (b : Nat) : ∀ (n : Nat) (l : List Value), Resp (keysM b n l)
  | 0, _ => Resp.pure _
  | n + 1, l => by
    unfold keysM
    split
    · exact Resp.bind (Resp.guardM _) fun _ => Resp.bind (resp_firstM _ _ _) fun _ => Resp.bind (Resp.liftO _) fun _ => resp_keysM b n _
    · exact Resp.fail

theorem resp_sortM (g : FuncId) (l : List Value) : Resp (sortM g l) := by
  unfold sortM
  repeat' (first
    | exact Resp.pure _ | exact Resp.fail | exact Resp.guardM _ | exact Resp.rd _ | exact Resp.wr _ _ | exact resp_keysM _ _ _ | (refine Resp.bind ?_ fun _ => ?_) | split)

/-- Another world only in a block, and in new ones. -/
structure SameBut (blk : Nat) (w w' : World) : Prop where
  os : w'.os = w.os
  tape : w'.tape = w.tape
  output : w'.output = w.output
  size : w.heap.size ≤ w'.heap.size
  block : ∀ r, r ≠ blk → r < w.heap.size → w'.heap[r]? = w.heap[r]?

/-- What the walk through 'SortFunc' tells. -/
def SortAt (P : Program) (f g : FuncId) : Prop :=
  (∀ (w : World) (blk off cap n : Nat) (ks vs os : Nat → Value) (kb : Nat → List UInt8), 1 ≤ n → n ≤ 12 → blk < w.heap.size →
    (∀ i, i < n → w.cell? ⟨blk, off + 3 * i, none⟩ = some (ks i) ∧ w.cell? ⟨blk, off + (3 * i + 1), none⟩ = some (vs i) ∧ w.cell? ⟨blk, off + (3 * i + 2), none⟩ = some (os i)) →
    (∀ j, j < 3 * n → w.frozen? ⟨blk, off + j, none⟩ = false) →
    (∀ i, i < n → (ks i).oneCell' = true ∧ (vs i).oneCell' = true ∧ (os i).oneCell' = true) →
    (∀ i, i < n → ∀ w', SameBut blk w w' → (Extern.Bytes.bytesOf (ks i)).run P w' = .ok (mkS (kb i)) w') →
    Calls P f #[.slice (some ⟨blk, off, none⟩) n cap, .func (.func g) #[] #[]] w fun e w' => e = .returned (.tuple #[]) ∧ SameBut blk w w') ∧
  ∀ (w : World), Calls P f #[.slice none 0 0, .func (.func g) #[] #[]] w fun e w' => e = .returned (.tuple #[]) ∧ SameBut w.heap.size w w'

section
variable {P : Program} {N0 : Nat} {E : Env} {β : Bij} {w : World}

theorem Inv.drop {h : Tr Blk} {b : Nat} {L : Loc} (hI : Inv N0 β h.get w) (hL : β b = some L) {o : Blk} (ho : h.get b = some o) (hlive : o.live = true) (hro : o.isRo = false) {w' : World} (hs : SameBut L.r w w') :
    Inv N0 β (h.set depth b .dead).get w' := by
  refine ⟨fun x q hx => ?_, fun b1 b2 o1 o2 L1 L2 hne h1 h2 l1 l2 e1 e2 er => ?_, Nat.le_trans hI.size hs.size⟩
  · rw [Tr.get_set] at hx
    by_cases e : b = x
    · subst e
      rw [if_pos rfl] at hx; cases hx
      exact ⟨L, hL, trivial⟩
    · rw [if_neg e] at hx
      obtain ⟨L', h1, h2⟩ := hI.live x q hx
      refine ⟨L', h1, ?_⟩
      cases hl : q.live with
      | false => cases q <;> first | trivial | (cases hl)
      | true =>
        have hlt := h2.lt hl
        refine h2.mono (fun _ _ e => e) (hs.block _ (fun er => ?_) hlt)
        have := hI.alone x b q o L' L (fun e' => e e'.symm) hx ho hl hlive h1 hL er
        rw [hro] at this; exact absurd this.2 (by decide)
  · rw [Tr.get_set] at h1 h2
    by_cases g1 : b = b1
    · rw [if_pos g1] at h1; cases h1; cases l1
    · rw [if_neg g1] at h1
      by_cases g2 : b = b2
      · rw [if_pos g2] at h2; cases h2; cases l2
      · rw [if_neg g2] at h2
        exact hI.alone b1 b2 o1 o2 L1 L2 hne h1 h2 l1 l2 e1 e2 er

theorem SameBut.below {blk : Nat} {w' : World} (h : SameBut blk w w') {B : Nat} (hb : B ≤ blk) (hB : B ≤ w.heap.size) : Below B w w' :=
  ⟨h.os, h.tape, h.output, h.size, fun k hk => h.block k (by omega) (by omega)⟩

theorem firstM_other {b b' o' m c : Nat} (hne : b ≠ b') {s s2 : S} {ys : List Value} (h : firstM m 1 (.slice (some ⟨b', o', none⟩) m c) s = some (ys, s2)) :
    ∃ s3, firstM m 1 (.slice (some ⟨b', o', none⟩) m c) ⟨s.h.set depth b .dead, s.nx, s.r, s.w⟩ = some (ys, s3) := by
  unfold firstM at h ⊢
  cases h0 : Nat.beq (m * 1) 0 with
  | true => rw [h0] at h; obtain ⟨rfl, rfl⟩ := pure_some.1 h; exact ⟨_, rfl⟩
  | false =>
    rw [h0] at h
    simp only [cond_false] at h ⊢
    cases h1 : Nat.ble m m with
    | false => rw [h1] at h; cases h
    | true =>
      rw [h1] at h
      simp only [cond_true] at h ⊢
      obtain ⟨o, hlt, hg, hx⟩ := rd_bind h
      cases o with
      | cells xs t k =>
        simp only at hx
        obtain ⟨hq, hx⟩ := guard_bind hx
        obtain ⟨rfl, rfl⟩ := pure_some.1 hx
        refine ⟨⟨s.h.set depth b .dead, s.nx, s.r ||| bit b', s.w⟩, ?_⟩
        refine bind_some.2 ⟨.cells xs t k, ⟨s.h.set depth b .dead, s.nx, s.r ||| bit b', s.w⟩, rd_some.2 ⟨hlt, ?_, rfl⟩, ?_⟩
        · show (s.h.set depth b .dead).get b' = _
          rw [Tr.get_set, if_neg hne]; exact hg
        · simp only
          exact bind_some.2 ⟨(), _, guardM_some.2 ⟨hq, rfl⟩, rfl⟩
      | _ => exact (fail_some.1 hx).elim

theorem sim_keysM {b : Nat} {L : Loc} {o : Blk} (hL : β b = some L) : ∀ (n : Nat) (l l' : List Value) (s s' : S) (u : Unit), Inv N0 β s.h.get w → s.h.get b = some o → o.live = true → o.isRo = false → keysM b n l s = some (u, s') → VL β l l' →
    s'.h = s.h ∧ s'.nx = s.nx ∧ ∀ i, i < n → ∃ k v q, l'[3 * i]? = some k ∧ l'[3 * i + 1]? = some v ∧ l'[3 * i + 2]? = some q ∧ k.oneCell' = true ∧ v.oneCell' = true ∧ q.oneCell' = true ∧
      ∃ kb, ∀ w', SameBut L.r w w' → (Extern.Bytes.bytesOf k).run P w' = .ok (mkS kb) w'
  | 0, l, l', s, s', u, _, _, _, _, h, _ => by
    unfold keysM at h
    obtain ⟨_, rfl⟩ := pure_some.1 h
    exact ⟨rfl, rfl, fun i hi => absurd hi (by omega)⟩
  | n + 1, l, l', s, s', u, hI, ho, hlive, hro, h, hl => by
    unfold keysM at h
    obtain ⟨mm, hm, hx⟩ : ∃ mm : M Unit, mm = _ ∧ mm s = some (u, s') := ⟨_, rfl, h⟩; clear h; have h := hx; clear hx
    split at hm
    · rename_i b' o' m c v q r
      subst hm
      cases hl with
      | cons hk hl => cases hl with
        | cons hv hl => cases hl with
          | cons hq hl =>
            rename_i k' v' q' r'
            obtain ⟨hone, hx⟩ := guard_bind h; clear h; have h := hx; clear hx
            simp only [Bool.and_eq_true, Bool.not_eq_true'] at hone
            have hne : b ≠ b' := fun e => by rw [e] at hone; simp at hone
            obtain ⟨ys, s2, h2, hx⟩ := bind_some.1 h; clear h; have h := hx; clear hx
            obtain ⟨bs, hbs, hx⟩ := lift_bind h; clear h; have h := hx; clear hx
            obtain ⟨r1, e1, e2⟩ := sim_bytesOf (P := P) hI h2 hbs hk
            obtain ⟨f1, f2, f3⟩ := sim_keysM hL n r r' s2 s' u (by rw [e1]; exact hI) (by rw [e1]; exact ho) hlive hro h hl
            refine ⟨by rw [f1, e1], by rw [f2, e2], fun i hi => ?_⟩
            cases i with
            | zero =>
              refine ⟨k', v', q', rfl, rfl, rfl, hk.one rfl, hv.one hone.1.1, hq.one hone.1.2, bs, fun w' hs => ?_⟩
              obtain ⟨s3, h3⟩ := firstM_other hne h2
              exact (sim_bytesOf (P := P) (s := ⟨s.h.set depth b .dead, s.nx, s.r, s.w⟩) (hI.drop hL ho hlive hro hs) h3 hbs hk).1
            | succ i =>
              obtain ⟨k, v, q, g1, g2, g3, g4⟩ := f3 i (by omega)
              exact ⟨k, v, q, by rw [show 3 * (i + 1) = 3 * i + 3 by omega]; exact g1, by rw [show 3 * (i + 1) + 1 = 3 * i + 1 + 3 by omega]; exact g2, by rw [show 3 * (i + 1) + 2 = 3 * i + 2 + 3 by omega]; exact g3, g4⟩
    · subst hm; exact (fail_some.1 h).elim

theorem VL.cut {l l' : List Value} (h : VL β l l') (n : Nat) : VL β (l.drop n) (l'.drop n) := h.drop n

theorem sort_ok {f g : FuncId} (hen : Enters P f) (hS : SortAt P f g) : FunOK P N0 E f (sortM g) := by
  intro l s v s' β w l' h hI hf hg hl
  refine ⟨hen, ?_⟩
  unfold sortM at h
  split at h
  · rename_i b off n cap f'
    obtain ⟨hg1, hx⟩ := guard_bind h; clear h; have h := hx; clear hx
    simp only [Bool.and_eq_true] at hg1
    have := Nat.eq_of_beq_eq_true hg1.1; subst this
    have hn12 := ble_iff.1 hg1.2
    obtain ⟨o, hlt, hgb, hx⟩ := rd_bind h; clear h; have h := hx; clear hx
    obtain ⟨l'⟩ := l'
    cases hl with
    | cons hx hr =>
    cases hr with
    | cons hy hr =>
    cases hr
    cases hy with
    | func _ ha hc =>
    rename_i a' c'
    obtain ⟨a'⟩ := a'; obtain ⟨c'⟩ := c'
    cases ha; cases hc
    cases hx with
    | sl hL hcap =>
    rename_i cap' L
    cases o with
    | cells xs t kd =>
      simp only at h
      obtain ⟨hk, hx'⟩ := guard_bind h; clear h; have h := hx'; clear hx'
      simp only [Bool.and_eq_true] at hk
      obtain ⟨u, s2, h2, hx'⟩ := bind_some.1 h; clear h; have h := hx'; clear hx'
      obtain ⟨u2, s3, h3, hx'⟩ := bind_some.1 h; clear h; have h := hx'; clear hx'
      obtain ⟨rfl, rfl⟩ := pure_some.1 h
      obtain ⟨_, rfl⟩ := wr_some.1 h3
      have hlen := ble_iff.1 hk.2
      obtain ⟨cc, fz, p1, p2, p3, p4, p5⟩ := hI.cells hgb hL
      have hro : (Blk.cells xs t kd).isRo = false := by
        cases kd <;> first | rfl | (simp [notRo] at hk)
      have hfz : fz = (0, 0) ∧ N0 ≤ L.r := by
        cases kd <;> first | (simp [notRo] at hk; done) | exact ⟨p5.1, p5.2.1⟩ | exact ⟨p5.1, p5.2⟩
      have hcl : VL β (xs.drop off) ((cc.toList.drop (L.sh + off)).take (xs.length - off)) := by
        refine VL.of_get (by simp; omega) fun i u u' g1 g2 => ?_
        have hi : i < xs.length - off := by
          rcases Nat.lt_or_ge i (xs.length - off) with h | h
          · exact h
          · rw [List.getElem?_eq_none (by simp; omega)] at g1; cases g1
        rw [List.getElem?_drop] at g1
        rw [List.getElem?_take_of_lt hi, List.getElem?_drop] at g2
        obtain ⟨y, y1, y2⟩ := p4 _ _ g1
        rw [Array.getElem?_toList, show L.sh + off + i = L.sh + (off + i) by omega, y1] at g2
        cases g2; exact y2
      obtain ⟨f1, f2, f3⟩ := sim_keysM (P := P) hL (n + 1) _ _ _ s2 u (by exact hI) (by exact hgb) rfl hro h2 hcl
      have hget : ∀ j y, j < xs.length - off → ((cc.toList.drop (L.sh + off)).take (xs.length - off))[j]? = some y → w.cell? ⟨L.r, L.sh + off + j, none⟩ = some y := by
        intro j y hj hy
        rw [List.getElem?_take_of_lt hj, List.getElem?_drop, Array.getElem?_toList] at hy
        rw [cell_at p1]; exact hy
      have hch : ∃ (ks vs os : Nat → Value) (kb : Nat → List UInt8), ∀ i, i < n + 1 → (w.cell? ⟨L.r, L.sh + off + 3 * i, none⟩ = some (ks i) ∧ w.cell? ⟨L.r, L.sh + off + (3 * i + 1), none⟩ = some (vs i) ∧ w.cell? ⟨L.r, L.sh + off + (3 * i + 2), none⟩ = some (os i)) ∧
          ((ks i).oneCell' = true ∧ (vs i).oneCell' = true ∧ (os i).oneCell' = true) ∧ ∀ w', SameBut L.r w w' → (Extern.Bytes.bytesOf (ks i)).run P w' = .ok (mkS (kb i)) w' := by
        have hall : ∀ i : Nat, ∃ (q : Value × Value × Value × List UInt8), i < n + 1 → (w.cell? ⟨L.r, L.sh + off + 3 * i, none⟩ = some q.1 ∧ w.cell? ⟨L.r, L.sh + off + (3 * i + 1), none⟩ = some q.2.1 ∧ w.cell? ⟨L.r, L.sh + off + (3 * i + 2), none⟩ = some q.2.2.1) ∧
            (q.1.oneCell' = true ∧ q.2.1.oneCell' = true ∧ q.2.2.1.oneCell' = true) ∧ ∀ w', SameBut L.r w w' → (Extern.Bytes.bytesOf q.1).run P w' = .ok (mkS q.2.2.2) w' := by
          intro i
          by_cases hi : i < n + 1
          · obtain ⟨k, v, q, g1, g2, g3, g4, g5, g6, kb, g7⟩ := f3 i hi
            exact ⟨(k, v, q, kb), fun _ => ⟨⟨hget _ _ (by omega) g1, hget _ _ (by omega) g2, hget _ _ (by omega) g3⟩, ⟨g4, g5, g6⟩, g7⟩⟩
          · exact ⟨(undef, undef, undef, []), fun h => absurd h hi⟩
        exact ⟨fun i => (hall i).choose.1, fun i => (hall i).choose.2.1, fun i => (hall i).choose.2.2.1, fun i => (hall i).choose.2.2.2, fun i hi => (hall i).choose_spec hi⟩
      obtain ⟨ks, vs, os, kb, hch⟩ := hch
      have hlt : L.r < w.heap.size := (Array.getElem?_eq_some_iff.1 p1).1
      refine (hS.1 w L.r (L.sh + off) cap' (n + 1) ks vs os kb (by omega) hn12 hlt (fun i hi => (hch i hi).1) (fun j hj => ?_) (fun i hi => (hch i hi).2.1) (fun i hi => (hch i hi).2.2)).mono ?_
      · rw [frozen_at p1, hfz.1]; simp
      · rintro e w' ⟨rfl, hsb⟩
        refine ⟨_, rfl, β, .tuple .nil, Ext.refl _ _ _, ?_, hsb.below hfz.2 hI.size⟩
        show Inv N0 β (s2.h.set depth b .dead).get w'
        rw [f1]
        exact hI.drop hL hgb rfl hro hsb
    | _ => exact (fail_some.1 h).elim
  · rename_i f'
    obtain ⟨hg1, hx⟩ := guard_bind h; clear h; have h := hx; clear hx
    have := Nat.eq_of_beq_eq_true hg1; subst this
    obtain ⟨rfl, rfl⟩ := pure_some.1 h
    obtain ⟨l'⟩ := l'
    cases hl with
    | cons hx hr =>
    cases hr with
    | cons hy hr =>
    cases hr
    cases hy with
    | func _ ha hc =>
    rename_i a' c'
    obtain ⟨a'⟩ := a'; obtain ⟨c'⟩ := c'
    cases ha; cases hc
    cases hx
    refine (hS.2 w).mono ?_
    rintro e w' ⟨rfl, hsb⟩
    have hb := hsb.below (B := w.heap.size) (Nat.le_refl _) (Nat.le_refl _)
    exact ⟨_, rfl, β, .tuple .nil, Ext.refl _ _ _, hI.below hb, hb.mono hI.size⟩
  · exact (fail_some.1 h).elim

end
end
end Go.Ideal
