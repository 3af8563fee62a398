/- (*lease.Leases).Uses as one step: how many views are of a file, whatever order they come in. -/
import Derived.Test.YtmmplhfimnhcpaaGreatDoorFits
namespace Go.Ideal
set_option linter.all false
set_option linter.unusedSimpArgs false
set_option linter.unusedVariables false
noncomputable section
open Go Go.RowKit
set_option maxHeartbeats 1000000

/-- How many of the views are of the file of that name. -/
def usesL (nm : ByteArray) : List (Value × Value × Nat) → M Nat
  | [] => pure 0
  | e :: r => do
    match e.2.1 with
    | .pointer (some ⟨vb, vo, none⟩) => do
      match ← rd vb with
      | .cells ys _ _ => match nth ys vo with
        | some (.pointer (some ⟨fb, fo, none⟩)) => do
          match ← rd fb with
          | .cells zs _ _ => match nth zs (fo + 1) with
            | some (.string x) => do
              let n ← usesL nm r
              pure (cond (bytesEq (bl x) (bl nm)) (1 + n) n)
            | _ => fail
          | _ => fail
        | _ => fail
      | _ => fail
    | _ => fail

def usesM (args : List Value) : M Value :=
  match args with
  | [.pointer (some ⟨b, off, none⟩), .string nm] => do
    match ← rd b with
    | .cells xs _ _ => match nth xs (off + 1) with
      | some (.map (some mb)) => do
        match ← rd mb with
        | .map es clock => do
          guardM (bornLt es clock && bornApart es [])
          let n ← usesL nm es
          guardM (Nat.blt n 1099511627776)
          pure (.int .i64 (Int.ofNat n))
        | _ => fail
      | _ => fail
    | _ => fail
  | _ => fail

theorem resp_usesL (nm : ByteArray) : ∀ l, Resp (usesL nm l)
  | [] => Resp.pure _
  | e :: r => by
    unfold usesL
    have := resp_usesL nm r
    repeat' (first
      | exact Resp.pure _ | exact Resp.fail | exact Resp.rd _ | exact this
      | (refine Resp.bind ?_ fun _ => ?_) | split)

theorem resp_usesM (l : List Value) : Resp (usesM l) := by
  unfold usesM
  repeat' (first
    | exact Resp.pure _ | exact Resp.fail | exact Resp.rd _ | exact Resp.guardM _ | exact resp_usesL _ _
    | (refine Resp.bind ?_ fun _ => ?_) | split)

/-- What the walk through 'Uses' tells. -/
def UsesAt (P : Program) (f : FuncId) : Prop :=
  ∀ (w : World) (dr dof bm : Nat) (es : Array MapEntry) (clock : Nat) (nm : ByteArray) (c : MapEntry → Nat),
    w.cell? ⟨dr, dof + 1, none⟩ = some (.map (some bm)) → w.heap[bm]? = some (.map es clock) →
    (∀ x ∈ es.toList, x.born < clock) → (es.toList.map (·.born)).Nodup →
    (∀ x ∈ es.toList, ∃ r o fr fo s, x.val = .pointer (some ⟨r, o, none⟩) ∧ r < w.heap.size ∧ w.cell? ⟨r, o, none⟩ = some (.pointer (some ⟨fr, fo, none⟩)) ∧ fr < w.heap.size ∧
      w.cell? ⟨fr, fo + 1, none⟩ = some (.string s) ∧ c x = if s = nm then 1 else 0) →
    (es.toList.map c).sum < 1099511627776 →
    Calls P f #[.pointer (some ⟨dr, dof, none⟩), .string nm] w fun e w' =>
      e = .returned (.int .i64 (((es.toList.map c).sum : Nat) : Int)) ∧ ∃ (w1 : World) (o : Obj), Like w1 w ∧ w' = w1.alloc o

section
variable {P : Program} {N0 : Nat} {E : Env} {β : Bij} {w : World}

theorem same_iff (a b : ByteArray) : bytesEq (bl a) (bl b) = decide (a = b) := by
  obtain ⟨⟨x⟩⟩ := a; obtain ⟨⟨y⟩⟩ := b
  rw [bytesEq_iff, Bool.eq_iff_iff]; simp [bl]

theorem sim_usesL {nm : ByteArray} : ∀ (l : List (Value × Value × Nat)) (l' : List MapEntry) (s s' : S) (n : Nat),
    Inv N0 β s.h.get w → usesL nm l s = some (n, s') → EL β l l' → (l'.map (·.born)).Nodup →
    s'.h = s.h ∧ s'.nx = s.nx ∧ ∃ c : MapEntry → Nat, (l'.map c).sum = n ∧ ∀ x ∈ l', ∃ r o fr fo st, x.val = .pointer (some ⟨r, o, none⟩) ∧ r < w.heap.size ∧
      w.cell? ⟨r, o, none⟩ = some (.pointer (some ⟨fr, fo, none⟩)) ∧ fr < w.heap.size ∧ w.cell? ⟨fr, fo + 1, none⟩ = some (.string st) ∧ c x = if st = nm then 1 else 0
  | [], _, s, s', n, hI, h, hl, _ => by
    cases hl
    obtain ⟨rfl, rfl⟩ := pure_some.1 h
    exact ⟨rfl, rfl, fun _ => 0, rfl, fun x hx => by cases hx⟩
  | e :: r, _, s, s', n, hI, h, hl, hnd => by
    cases hl with
    | cons a1 a2 a3 a4 =>
    rename_i k v bn e' r'
    unfold usesL at h
    simp only at h
    split at h
    · rename_i vb vo
      cases a2' : e'.val <;> rw [a2'] at a2 <;> cases a2
      rename_i L hL
      obtain ⟨o, hlt, hg, hx⟩ := rd_bind h; clear h; have h := hx; clear hx
      cases o with
      | cells ys t kd =>
        simp only at h
        obtain ⟨mm, hm, hx⟩ : ∃ m : M Nat, m = _ ∧ m _ = some (n, s') := ⟨_, rfl, h⟩; clear h; have h := hx; clear hx
        split at hm
        · rename_i fb fo hnth
          subst hm
          obtain ⟨o, hlt2, hg2, hx⟩ := rd_bind h; clear h; have h := hx; clear hx
          have hg2 : s.h.get fb = some o := hg2
          cases o with
          | cells zs t2 kd2 =>
            simp only at h
            obtain ⟨mm, hm, hx⟩ : ∃ m : M Nat, m = _ ∧ m _ = some (n, s') := ⟨_, rfl, h⟩; clear h; have h := hx; clear hx
            split at hm
            · rename_i st hnth2
              subst hm
              obtain ⟨m, s3, h3, hx⟩ := bind_some.1 h; clear h; have h := hx; clear hx
              obtain ⟨rfl, rfl⟩ := pure_some.1 h
              have hnd' := List.nodup_cons.1 hnd
              obtain ⟨e1, e2, c, hsum, hall⟩ := sim_usesL r r' _ _ m (by exact hI) h3 a4 hnd'.2
              obtain ⟨cc, fz, p1, p2, p3, p4, p5⟩ := hI.cells hg hL
              rw [nth_eq] at hnth hnth2
              obtain ⟨u, u1, u2⟩ := p4 _ _ hnth
              cases u2 with
              | ptr hLf =>
              rename_i Lf
              obtain ⟨cf, fzf, f1, f2, f3, f4, f5⟩ := hI.cells hg2 hLf
              obtain ⟨u', u3, u4⟩ := f4 _ _ hnth2
              cases u4
              refine ⟨by rw [e1], by rw [e2], fun x => if x.born = e'.born then (if st = nm then 1 else 0) else c x, ?_, fun x hx => ?_⟩
              · have hc : (r'.map fun x => if x.born = e'.born then (if st = nm then 1 else 0) else c x) = r'.map c := by
                  refine List.map_congr_left fun x hx => ?_
                  rw [if_neg]
                  intro he
                  exact hnd'.1 (List.mem_map.2 ⟨x, hx, he⟩)
                rw [List.map_cons, List.sum_cons, hc, hsum, if_pos rfl, same_iff]
                by_cases hs : st = nm
                · simp [hs]
                · simp [hs]
              · rcases List.mem_cons.1 hx with rfl | hx
                · refine ⟨L.r, L.sh + vo, Lf.r, Lf.sh + fo, st, a2', (Array.getElem?_eq_some_iff.1 p1).1, ?_, (Array.getElem?_eq_some_iff.1 f1).1, ?_, by show (if x.born = x.born then _ else _) = _; rw [if_pos rfl]⟩
                  · rw [cell_at p1]; exact u1
                  · rw [cell_at f1, Nat.add_assoc]; exact u3
                · obtain ⟨r, o, fr, fo, st', y1, y2, y3, y4, y5, y6⟩ := hall x hx
                  refine ⟨r, o, fr, fo, st', y1, y2, y3, y4, y5, ?_⟩
                  show (if x.born = e'.born then _ else c x) = _
                  rw [if_neg, y6]
                  intro he
                  exact hnd'.1 (List.mem_map.2 ⟨x, hx, he⟩)
            · subst hm; exact (fail_some.1 h).elim
          | _ => exact (fail_some.1 h).elim
        · subst hm; exact (fail_some.1 h).elim
      | _ => exact (fail_some.1 h).elim
    · exact (fail_some.1 h).elim

theorem uses_ok {f : FuncId} (hen : Enters P f) (hF : UsesAt P f) : FunOK P N0 E f usesM := by
  intro l s v s' β w l' h hI hf hg hl
  refine ⟨hen, ?_⟩
  unfold usesM at h
  split at h
  · rename_i b off nm
    obtain ⟨o, hlt, hgb, hx⟩ := rd_bind h; clear h; have h := hx; clear hx
    obtain ⟨l'⟩ := l'
    cases hl with
    | cons hx hr =>
    cases hr with
    | cons hs hr =>
    cases hr
    cases hs
    cases hx with
    | ptr hL =>
    rename_i L
    cases o with
    | cells xs t kd =>
      simp only at h
      obtain ⟨mm, hm, hx⟩ : ∃ m : M Value, m = _ ∧ m _ = some (v, s') := ⟨_, rfl, h⟩; clear h; have h := hx; clear hx
      split at hm
      · rename_i mb n2
        subst hm
        obtain ⟨cc, fz, p1, p2, p3, p4, p5⟩ := hI.cells hgb hL
        rw [nth_eq] at n2
        obtain ⟨u', u3, u4⟩ := p4 _ _ n2
        cases u4 with
        | map hLm =>
        rename_i Lm
        obtain ⟨o, hltm, hgm, hx⟩ := rd_bind h; clear h; have h := hx; clear hx
        have hgm : s.h.get mb = some o := hgm
        cases o with
        | map es clock =>
          simp only at h
          obtain ⟨hst, hx⟩ := guard_bind h; clear h; have h := hx; clear hx
          simp only [Bool.and_eq_true] at hst
          obtain ⟨n, s4, h4, hx⟩ := bind_some.1 h; clear h; have h := hx; clear hx
          obtain ⟨hbig, hx⟩ := guard_bind h; clear h; have h := hx; clear hx
          obtain ⟨rfl, rfl⟩ := pure_some.1 h
          have hbig := blt_iff.1 hbig
          obtain ⟨L', hL', es', r1, r2, r3⟩ := hI.live mb _ hgm
          rw [hLm] at hL'; cases hL'
          have hnd := (r2.bornApart hst.2).1
          obtain ⟨e1, e2, c, hsum, hall⟩ := sim_usesL (N0 := N0) (w := w) es es'.toList _ _ n (by exact hI) h4 r2 hnd
          have c2 : w.cell? ⟨L.r, L.sh + off + 1, none⟩ = some (.map (some Lm.r)) := by rw [cell_at p1, Nat.add_assoc]; exact u3
          refine (hF w L.r (L.sh + off) Lm.r es' clock nm c c2 r1 (r2.bornLt hst.1) hnd hall (by rw [hsum]; exact hbig)).mono ?_
          rintro e w' ⟨rfl, w1, o, hw1, rfl⟩
          rw [hsum]
          have hb := hw1.below o
          exact ⟨_, rfl, β, .int _ _, Ext.refl _ _ _, by rw [e1]; exact hI.below hb, hb.mono hI.size⟩
        | _ => exact (fail_some.1 h).elim
      · subst hm; exact (fail_some.1 h).elim
    | _ => exact (fail_some.1 h).elim
  · exact (fail_some.1 h).elim

end
end
end Go.Ideal
