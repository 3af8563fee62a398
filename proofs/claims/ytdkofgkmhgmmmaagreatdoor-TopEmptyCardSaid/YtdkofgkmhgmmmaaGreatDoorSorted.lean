/- slices.Sorted(maps.Keys(m)) at a map of at most one entry whose keys are strings, as one step. -/
import Derived.Test.YtdkofgkmhgmmmaaGreatDoorSimS
import Derived.Sort.KeysCollected
namespace Go.Ideal
set_option linter.all false
set_option linter.unusedSimpArgs false
set_option linter.unusedVariables false
noncomputable section
open Go Go.RowKit Go.Maps
set_option maxHeartbeats 1000000

def sortedM (it : FuncId) (tStr : TypeId) (args : List Value) : M Value :=
  match args with
  | [.func (.func g) ⟨[]⟩ ⟨[.pointer (some ⟨cb, 0, none⟩)]⟩] => do
    guardM (Nat.beq g it)
    match ← rd cb with
    | .cells [.map none] _ .var => pure (.slice none 0 0)
    | .cells [.map (some b)] _ .var => do
      match ← rd b with
      | .map [] _ => pure (.slice none 0 0)
      | .map [(.string x, _, n)] clock => do
        guardM (Nat.blt n clock && Nat.blt (bl x).length 1048576)
        let nb ← new (.cells [.string x] tStr .grow)
        pure (.slice (some ⟨nb, 0, none⟩) 1 (capOf 1 1))
      | _ => fail
    | _ => fail
  | _ => fail

theorem resp_sortedM (it : FuncId) (tStr : TypeId) (l : List Value) : Resp (sortedM it tStr l) := by
  unfold sortedM
  repeat' (first
    | exact Resp.pure _ | exact Resp.fail | exact Resp.rd _ | exact Resp.new _ | exact Resp.guardM _
    | (refine Resp.bind ?_ fun _ => ?_) | split)

theorem guard_bind {α : Type} {b : Bool} {f : Unit → M α} {a : α} {s s' : S} (h : (guardM b >>= f) s = some (a, s')) : b = true ∧ f () s = some (a, s') := by
  obtain ⟨_, s1, h1, h2⟩ := bind_some.1 h
  obtain ⟨hb, rfl⟩ := guardM_some.1 h1
  exact ⟨hb, h2⟩

theorem rd_bind {α : Type} {b : Nat} {f : Blk → M α} {a : α} {s s' : S} (h : (rd b >>= f) s = some (a, s')) :
    ∃ o, b < s.nx ∧ s.h.get b = some o ∧ f o ⟨s.h, s.nx, s.r ||| bit b, s.w⟩ = some (a, s') := by
  obtain ⟨o, s1, h1, h2⟩ := bind_some.1 h
  obtain ⟨hb, hg, rfl⟩ := rd_some.1 h1
  exact ⟨o, hb, hg, h2⟩

section
variable {P : Program} {N0 : Nat → Prop} {E : Env}

/-- What the library's own contract tells, at the map that the captured block holds. -/
def SortedAt (P : Program) (c it : FuncId) (tStr : TypeId) : Prop :=
  (∀ (w : World) (cb b : Nat) (R : Value → Option (DataW Unit × List MemPlace)) (nn : Nat) (D0 : DataW Unit), w.cell? ⟨cb, 0, none⟩ = some (.map (some b)) → w.ownsMap P tStr R b nn D0 → Maps.size D0 ≤ 1 →
    Calls P c #[.func (.func it) #[] #[.pointer (some ⟨cb, 0, none⟩)]] w fun e w' => ∃ (v : Value) (ss : List (List UInt8)), e = .returned v ∧ ss.Perm (strKeys D0) ∧
      w'.ownsRow w.heap.size tStr 1 v ss.length ((ss.mergeSort (fun x y => decide (x ≤ y))).map Go.Proofs.encStr) ∧ (v = .slice none 0 0 ↔ ss = []) ∧ RowKit.Below w.heap.size w w') ∧
  (∀ (w : World) (cb : Nat), w.cell? ⟨cb, 0, none⟩ = some (.map none) →
    Calls P c #[.func (.func it) #[] #[.pointer (some ⟨cb, 0, none⟩)]] w fun e w' => e = .returned (.slice none 0 0) ∧ RowKit.Below w.heap.size w w')

theorem Inv.below {β : Bij} {g : Nat → Option Blk} {w w' : World} (h : Inv N0 β g w) (hb : RowKit.Below w.heap.size w w') : Inv N0 β g w' := by
  refine ⟨fun b o hg => ?_, h.alone, fun r hr => h.size r (Nat.le_trans hb.size hr)⟩
  obtain ⟨L, hL, hs⟩ := h.live b o hg
  refine ⟨L, hL, ?_⟩
  cases hd : o.live with
  | false => cases o with | dead => trivial | _ => simp [Blk.live] at hd
  | true => exact hs.mono (fun _ _ e => e) (hb.block L.r (hs.lt hd))

theorem sorted_ok {c it : FuncId} {tStr : TypeId} (hu : P.underlying tStr = some .string) (hen : Enters P c) (hC : SortedAt P c it tStr) : FunOK P N0 E c (sortedM it tStr) := by
  intro l s v s' β w l' h hI hf hg hl
  refine ⟨hen, ?_⟩
  unfold sortedM at h
  split at h
  · rename_i g cb
    obtain ⟨hgi, hx⟩ := guard_bind h; clear h; have h := hx; clear hx
    have := Nat.eq_of_beq_eq_true hgi; subst this
    obtain ⟨o, hlt, hgc, hx⟩ := rd_bind h; clear h; have h := hx; clear hx
    obtain ⟨l'⟩ := l'
    cases hl with
    | cons hx hr =>
    cases hr
    cases hx with
    | func fn ha hc =>
    rename_i a' c'
    obtain ⟨a'⟩ := a'; obtain ⟨c'⟩ := c'
    cases ha
    cases hc with
    | cons hp hr =>
    cases hr
    cases hp with
    | ptr hL =>
    rename_i L
    obtain ⟨m, hm, hx⟩ : ∃ m : M Value, m = _ ∧ m _ = some (v, s') := ⟨_, rfl, h⟩; clear h; have h := hx; clear hx
    split at hm
    · subst hm
      obtain ⟨rfl, rfl⟩ := pure_some.1 h
      obtain ⟨cc, fz, q1, q2, q3, q4, q5⟩ := hI.cells hgc hL
      have hsh : L.sh = 0 := q5.2.2
      obtain ⟨u, p1, p2⟩ := q4 0 _ rfl
      cases p2
      have hcell : w.cell? ⟨L.r, 0, none⟩ = some (.map none) := by
        rw [cell_at q1]; rw [hsh] at p1; exact p1
      have hadr : (⟨L.r, L.sh + 0, none⟩ : Addr) = ⟨L.r, 0, none⟩ := by rw [hsh]
      rw [hadr]
      refine (hC.2 w L.r hcell).mono ?_
      rintro e w' ⟨rfl, hb⟩
      exact ⟨_, rfl, β, .nilsl, Ext.refl _ _ _, hI.below hb, Below.out hI.size hb⟩
    · rename_i o2 b tt
      subst hm
      obtain ⟨cc, fz, q1, q2, q3, q4, q5⟩ := hI.cells hgc hL
      have hsh : L.sh = 0 := q5.2.2
      obtain ⟨u, p1, p2⟩ := q4 0 _ rfl
      cases p2 with
      | map hLm =>
      rename_i Lm
      have hcell : w.cell? ⟨L.r, 0, none⟩ = some (.map (some Lm.r)) := by
        rw [cell_at q1]; rw [hsh] at p1; exact p1
      have hadr : (⟨L.r, L.sh + 0, none⟩ : Addr) = ⟨L.r, 0, none⟩ := by rw [hsh]
      rw [hadr]
      obtain ⟨o, hlt3, hgm, hx⟩ := rd_bind h; clear h; have h := hx; clear hx
      have hgm : s.h.get b = some o := hgm
      obtain ⟨m, hm, hx⟩ : ∃ m : M Value, m = _ ∧ m _ = some (v, s') := ⟨_, rfl, h⟩; clear h; have h := hx; clear hx
      split at hm
      · subst hm
        obtain ⟨rfl, rfl⟩ := pure_some.1 h
        obtain ⟨L', hL', es', r1, r2, r3⟩ := hI.live b _ hgm
        rw [hLm] at hL'; cases hL'
        have hes : es' = #[] := by
          have : es'.toList = [] := by generalize es'.toList = l at r2; cases r2; rfl
          exact Array.toList_eq_nil_iff.1 this
        subst hes
        have hown : w.ownsMap P tStr (fun _ => some ((.lit (.bool true) : DataW Unit), [])) Lm.r 0 (.map []) :=
          ⟨#[], _, r1, ⟨by simp, ⟨fun x hx => by simp at hx, by simp, by simp⟩, fun x hx => by simp at hx⟩, by simp, rfl⟩
        refine (hC.1 w L.r Lm.r _ 0 _ hcell hown (by simp [Maps.size])).mono ?_
        rintro e w' ⟨v, ss, rfl, hp, hrow, hnil, hb⟩
        have hss : ss = [] := List.Perm.eq_nil hp
        have := hnil.2 hss
        subst this
        exact ⟨_, rfl, β, .nilsl, Ext.refl _ _ _, hI.below hb, Below.out hI.size hb⟩
      · rename_i x vv n clock o3
        subst hm
        obtain ⟨hgd, hx⟩ := guard_bind h; clear h; have h := hx; clear hx
        simp only [Bool.and_eq_true] at hgd
        have hn := blt_iff.1 hgd.1
        have hxl := blt_iff.1 hgd.2
        obtain ⟨nb, s5, h5, hx⟩ := bind_some.1 h; clear h; have h := hx; clear hx
        obtain ⟨rfl, rfl⟩ := pure_some.1 h
        obtain ⟨rfl, rfl⟩ := new_some.1 h5
        obtain ⟨L', hL', es', r1, r2, r3⟩ := hI.live b _ hgm
        rw [hLm] at hL'; cases hL'
        obtain ⟨e', hes, k1, k2, k3⟩ : ∃ e', es' = #[e'] ∧ V β (.string x) e'.key ∧ V β vv e'.val ∧ n = e'.born := by
          obtain ⟨es'⟩ := es'
          simp only at r2
          cases r2 with
          | cons a b c d => cases d; exact ⟨_, rfl, a, b, c⟩
        subst hes
        obtain ⟨key, val, born⟩ := e'
        simp only at k1 k2 k3
        cases k1
        subst k3
        have hxs : x.size = (bl x).length := by simp [bl]
        have hkey : keyOf P tStr (.string x) = some (.string x.data.toList) := WideMaps.keyOf_string_mk hu (by rw [hxs]; unfold maxLen; omega)
        let R : Value → Option (DataW Unit × List MemPlace) := fun _ => some (.lit (.bool true), [])
        have hrd : WideElems.rd P tStr R ⟨.string x, val, n⟩ = some (.string x.data.toList, .lit (.bool true)) := WideElems.rd_mk (yv := (.lit (.bool true), [])) hkey rfl
        have hown : w.ownsMap P tStr R Lm.r 1 (.map [(.string x.data.toList, .lit (.bool true))]) := by
          refine ⟨#[⟨.string x, val, n⟩], clock, r1, ⟨by simp [maxLen], ⟨fun y hy => ?_, by simp, by simp⟩, fun y hy => ?_⟩, by simp, ?_⟩
          · simp at hy; subst hy; exact hn
          · simp at hy; subst hy; exact ⟨_, hrd⟩
          · simp only [List.map_cons, List.map_nil, List.foldr_cons, List.foldr_nil, WideElems.rg_of hrd]
            rfl
        refine (hC.1 w L.r Lm.r _ 1 _ hcell hown (by simp [Maps.size])).mono ?_
        rintro e w' ⟨v, ss, rfl, hp, hrow, hnil, hb⟩
        have hss : ss = [x.data.toList] := List.Perm.eq_singleton hp
        subst hss
        obtain ⟨hlen, hv | ⟨g, cap, cur, rfl, hg1, hg2, hg3, hg4, hg5, hg6⟩⟩ := hrow
        · exact absurd (hnil.1 hv.1) (by simp)
        have hsort : ([x.data.toList].mergeSort (fun x y => decide (x ≤ y))).map Go.Proofs.encStr = [.string x] := by simp [Go.Proofs.encStr]
        rw [hsort] at hg6
        simp only [List.length_singleton, Nat.mul_one] at hg3 hg5 hg6
        have hnone : β s.nx = none := hf _ (Nat.le_refl _) (by simp)
        have hIb := hI.below hb
        have hgN : N0 g := hI.size g hg1
        have hcur : cur[0]? = some (.string x) := by
          rw [← Array.getElem?_toList]
          cases hc : cur.toList with
          | nil => rw [hc] at hg6; simp at hg6
          | cons a r => rw [hc] at hg6; simp at hg6; rw [hg6]; rfl
        have hcapL : CapOK ⟨g, 0, cur.size⟩ 0 1 (capOf 1 1) cap := by
          have h1 : UNK ≤ capOf 1 1 := capOf_unk 1 1
          refine ⟨fun hk => by omega, fun _ => ?_, fun _ => ?_, fun _ => ?_, hg3⟩
          · rw [lbOf_capOf (by unfold UNK; omega)]; exact hg3
          · rw [esOf_capOf (by unfold UNK; omega)]; simp [hg5]
          · unfold UNK; unfold maxLen at hg4; omega
        refine ⟨_, rfl, addB β s.nx ⟨g, 0, cur.size⟩, ?_, addB_ext hnone (Nat.le_refl _) (by simp), ?_, Below.out hI.size hb⟩
        · exact .sl (L := ⟨g, 0, cur.size⟩) (off := 0) (addB_same _ _ _) hcapL
        · refine ⟨fun n' y hy => ?_, fun b1 b2 o1 o2 L1 L2 hne a1 a2 l1 l2 e1 e2 er => ?_, fun r hr => hI.size r (Nat.le_trans hb.size hr)⟩
          · simp only [Tr.get_set] at hy
            by_cases hn' : s.nx = n'
            · subst hn'
              rw [if_pos rfl] at hy; cases hy
              refine ⟨_, addB_same _ _ _, cur, (0, 0), hg2, rfl, by simp; omega, fun i u hi => ?_, rfl, hgN⟩
              cases i with
              | zero => simp at hi; subst hi; exact ⟨_, by simpa using hcur, .string x⟩
              | succ i => simp at hi
            · rw [if_neg hn'] at hy
              obtain ⟨Ln, hLn, hsn⟩ := hIb.live n' y hy
              exact ⟨Ln, addB_keep hnone _ _ hLn, hsn.mono (addB_keep hnone) rfl⟩
          · simp only [Tr.get_set] at a1 a2
            have away : ∀ {n' : Nat} {y : Blk} {K : Loc}, s.h.get n' = some y → y.live = true → s.nx ≠ n' → addB β s.nx ⟨g, 0, cur.size⟩ n' = some K → K.r < w.heap.size ∧ β n' = some K := by
              intro n' y K hn hd hne hK
              obtain ⟨Ln, hLn, hsn⟩ := hI.live n' y hn
              unfold addB at hK
              rw [if_neg (fun e => hne e.symm), hLn] at hK
              cases hK
              exact ⟨hsn.lt hd, hLn⟩
            by_cases c1 : s.nx = b1
            · subst c1
              rw [if_neg hne] at a2
              rw [addB_same] at e1; cases e1
              have := (away a2 l2 hne e2).1
              simp only at er; omega
            · rw [if_neg c1] at a1
              by_cases c2 : s.nx = b2
              · subst c2
                rw [addB_same] at e2; cases e2
                have := (away a1 l1 c1 e1).1
                simp only at er; omega
              · rw [if_neg c2] at a2
                exact hI.alone b1 b2 o1 o2 L1 L2 hne a1 a2 l1 l2 (away a1 l1 c1 e1).2 (away a2 l2 c2 e2).2 er
      · subst hm; exact (fail_some.1 h).elim
    · subst hm; exact (fail_some.1 h).elim
  · exact (fail_some.1 h).elim

end
end
end Go.Ideal
