/- (*disk.Disk).fits as one step: how long the files are together, whatever order they come in. -/
import Derived.Test.YtdkofgkmhgmmmaaGreatDoorSorted
namespace Go.Ideal
set_option linter.all false
set_option linter.unusedSimpArgs false
set_option linter.unusedVariables false
noncomputable section
open Go Go.RowKit
set_option maxHeartbeats 1000000

/-- The world but for how many draws were made. -/
structure Like (w1 w : World) : Prop where
  heap : w1.heap = w.heap
  os : w1.os = w.os
  tape : w1.tape = w.tape
  output : w1.output = w.output

theorem Like.refl (w : World) : Like w w := ⟨rfl, rfl, rfl, rfl⟩
theorem Like.trans {a b c : World} (h : Like a b) (k : Like b c) : Like a c := ⟨h.heap.trans k.heap, h.os.trans k.os, h.tape.trans k.tape, h.output.trans k.output⟩
theorem Like.below {w1 w : World} (h : Like w1 w) (o : Obj) : RowKit.Below w.heap.size w (w1.alloc o) := by
  refine ⟨h.os, h.tape, h.output, ?_, fun k hk => ?_⟩
  · show w.heap.size ≤ (w1.heap.push o).size
    rw [Array.size_push, h.heap]; omega
  · show (w1.heap.push o)[k]? = _
    rw [h.heap, Array.getElem?_push, if_neg (by omega)]

/-- The lengths of the files that are not s. -/
def lensM (E : Env) (tp : TypeId) (s : Value) : List (Value × Value × Nat) → M Nat
  | [] => pure 0
  | e :: r => do
    match e.2.1 with
    | .pointer (some ⟨sb, so, none⟩) => do
      let same ← eqM E tp false false (.pointer (some ⟨sb, so, none⟩)) s
      match ← rd sb with
      | .cells ys _ _ => match nth ys so with
        | some (.slice _ len _) => do
          let n ← lensM E tp s r
          pure (cond same n (len + n))
        | _ => fail
      | _ => fail
    | _ => fail

def bornLt : List (Value × Value × Nat) → Nat → Bool
  | [], _ => true
  | e :: r, n => Nat.blt e.2.2 n && bornLt r n

def bornApart : List (Value × Value × Nat) → List Nat → Bool
  | [], _ => true
  | e :: r, seen => !hasN seen e.2.2 && bornApart r (e.2.2 :: seen)

def fitsM (E : Env) (tp : TypeId) (args : List Value) : M Value :=
  match args with
  | [.pointer (some ⟨b, off, none⟩), s, .int .i64 (.ofNat size)] => do
    match ← rd b with
    | .cells xs _ _ => match nth xs off, nth xs (off + 1) with
      | some (.int .i64 room), some (.map (some mb)) => do
        match ← rd mb with
        | .map es clock => do
          guardM (bornLt es clock && bornApart es [])
          let n ← lensM E tp s es
          guardM (Nat.blt (size + n) 1099511627776)
          pure (.bool (decide (Int.ofNat (size + n) ≤ room)))
        | _ => fail
      | _, _ => fail
    | _ => fail
  | _ => fail

theorem resp_lensM {E : Env} (tp : TypeId) (s : Value) : ∀ l, Resp (lensM E tp s l)
  | [] => Resp.pure _
  | e :: r => by
    unfold lensM
    have := resp_lensM (E := E) tp s r
    repeat' (first
      | exact Resp.pure _ | exact Resp.fail | exact Resp.rd _ | exact resp_eqM _ _ _ _ _ | exact this
      | (refine Resp.bind ?_ fun _ => ?_) | split)

theorem resp_fitsM {E : Env} (tp : TypeId) (l : List Value) : Resp (fitsM E tp l) := by
  unfold fitsM
  repeat' (first
    | exact Resp.pure _ | exact Resp.fail | exact Resp.rd _ | exact Resp.guardM _ | exact resp_lensM _ _ _
    | (refine Resp.bind ?_ fun _ => ?_) | split)

/-- What the walk through 'fits' tells. -/
def FitsAt (P : Program) (f : FuncId) (tp : TypeId) : Prop :=
  ∀ (w : World) (dr dof bm : Nat) (es : Array MapEntry) (clock : Nat) (sv : Value) (size : Nat) (room : Int) (c : MapEntry → Nat),
    w.cell? ⟨dr, dof, none⟩ = some (.int .i64 room) → w.cell? ⟨dr, dof + 1, none⟩ = some (.map (some bm)) → w.heap[bm]? = some (.map es clock) →
    (∀ x ∈ es.toList, x.born < clock) → (es.toList.map (·.born)).Nodup →
    (∀ x ∈ es.toList, ∃ r o base len cap b, x.val = .pointer (some ⟨r, o, none⟩) ∧ r < w.heap.size ∧ w.cell? ⟨r, o, none⟩ = some (.slice base len cap) ∧
      (∀ (w1 : World) (i : Obj), Like w1 w → (Op.equal tp (.pointer (some ⟨r, o, none⟩)) sv).run P (w1.alloc i) = .ok b (w1.alloc i)) ∧ c x = if b then 0 else len) →
    size + (es.toList.map c).sum < 1099511627776 →
    Calls P f #[.pointer (some ⟨dr, dof, none⟩), sv, .int .i64 (size : Int)] w fun e w' =>
      e = .returned (.bool (decide (((size + (es.toList.map c).sum : Nat) : Int) ≤ room))) ∧ ∃ (w1 : World) (o : Obj), Like w1 w ∧ w' = w1.alloc o

section
variable {P : Program} {N0 : Nat → Prop} {E : Env} {β : Bij} {w : World}

/-- What the sum is of, on the model's side. -/
theorem sim_lensM (hE : EnvOK P E) {tp : TypeId} {sv sv' : Value} (hs : V β sv sv') : ∀ (l : List (Value × Value × Nat)) (l' : List MapEntry) (s s' : S) (n : Nat),
    Inv N0 β s.h.get w → lensM E tp sv l s = some (n, s') → EL β l l' → (l'.map (·.born)).Nodup →
    s'.h = s.h ∧ s'.nx = s.nx ∧ ∃ c : MapEntry → Nat, (l'.map c).sum = n ∧ ∀ x ∈ l', ∃ r o base len cap b, x.val = .pointer (some ⟨r, o, none⟩) ∧ r < w.heap.size ∧
      w.cell? ⟨r, o, none⟩ = some (.slice base len cap) ∧
      (∀ (w1 : World) (i : Obj), Like w1 w → (Op.equal tp (.pointer (some ⟨r, o, none⟩)) sv').run P (w1.alloc i) = .ok b (w1.alloc i)) ∧ c x = if b then 0 else len
  | [], _, s, s', n, hI, h, hl, _ => by
    cases hl
    obtain ⟨rfl, rfl⟩ := pure_some.1 h
    exact ⟨rfl, rfl, fun _ => 0, rfl, fun x hx => by cases hx⟩
  | e :: r, _, s, s', n, hI, h, hl, hnd => by
    cases hl with
    | cons a1 a2 a3 a4 =>
    rename_i k v bn e' r'
    unfold lensM at h
    simp only at h
    split at h
    · rename_i sb so
      obtain ⟨same, s1, h1, hx⟩ := bind_some.1 h; clear h; have h := hx; clear hx
      cases a2' : e'.val <;> rw [a2'] at a2 <;> cases a2
      rename_i L hL
      obtain ⟨-, q2, q3, -⟩ := sim_eqM (xc := .tmp 0) (yc := .tmp 0) hE hI h1 (.ptr hL) hs
      obtain ⟨o, hlt, hg, hx⟩ := rd_bind h; clear h; have h := hx; clear hx
      rw [q2] at hg
      cases o with
      | cells ys t kd =>
        simp only at h
        obtain ⟨mm, hm, hx⟩ : ∃ m : M Nat, m = _ ∧ m _ = some (n, s') := ⟨_, rfl, h⟩; clear h; have h := hx; clear hx
        split at hm
        · rename_i base len cap hnth
          subst hm
          obtain ⟨m, s3, h3, hx⟩ := bind_some.1 h; clear h; have h := hx; clear hx
          obtain ⟨rfl, rfl⟩ := pure_some.1 h
          have hnd' := List.nodup_cons.1 hnd
          obtain ⟨e1, e2, c, hsum, hall⟩ := sim_lensM hE hs r r' _ _ m (by show Inv N0 β s1.h.get w; rw [q2]; exact hI) h3 a4 hnd'.2
          obtain ⟨cc, fz, p1, p2, p3, p4, p5⟩ := hI.cells hg hL
          rw [nth_eq] at hnth
          obtain ⟨u, u1, u2⟩ := p4 _ _ hnth
          obtain ⟨base', cap', rfl⟩ : ∃ base' cap', u = .slice base' len cap' := by cases u2 <;> exact ⟨_, _, rfl⟩
          refine ⟨by rw [e1]; exact q2, by rw [e2]; exact q3, fun x => if x.born = e'.born then (if same then 0 else len) else c x, ?_, fun x hx => ?_⟩
          · have hc : (r'.map fun x => if x.born = e'.born then (if same then 0 else len) else c x) = r'.map c := by
              refine List.map_congr_left fun x hx => ?_
              rw [if_neg]
              intro he
              exact hnd'.1 (List.mem_map.2 ⟨x, hx, he⟩)
            rw [List.map_cons, List.sum_cons, hc, hsum, if_pos rfl]
            cases same <;> simp
          · rcases List.mem_cons.1 hx with rfl | hx
            · refine ⟨_, _, base', len, cap', same, a2', (Array.getElem?_eq_some_iff.1 p1).1, ?_, fun w1 i hw => ?_, by show (if x.born = x.born then _ else _) = _; rw [if_pos rfl]⟩
              · rw [cell_at p1]
                exact u1
              · have hI1 : Inv N0 β s.h.get (w1.alloc i) := (hI.world hw.heap).below ⟨rfl, rfl, rfl, by show w1.heap.size ≤ (w1.heap.push i).size; simp, fun k hk => by
                  show (w1.heap.push i)[k]? = _
                  rw [Array.getElem?_push, if_neg (by omega)]⟩
                exact (sim_eqM (xc := .tmp 0) (yc := .tmp 0) hE hI1 h1 (.ptr hL) hs).1
            · obtain ⟨r, o, base, len', cap, b, y1, y2, y3, y4, y5⟩ := hall x hx
              refine ⟨r, o, base, len', cap, b, y1, y2, y3, y4, ?_⟩
              show (if x.born = e'.born then _ else c x) = _
              rw [if_neg, y5]
              intro he
              exact hnd'.1 (List.mem_map.2 ⟨x, hx, he⟩)
        · subst hm; exact (fail_some.1 h).elim
      | _ => exact (fail_some.1 h).elim
    · exact (fail_some.1 h).elim

theorem EL.bornLt {es : List (Value × Value × Nat)} {es' : List MapEntry} (h : EL β es es') {n : Nat} (hb : bornLt es n = true) : ∀ x ∈ es', x.born < n := by
  induction h with
  | nil => intro x hx; cases hx
  | cons a b c _ ih =>
    simp only [Ideal.bornLt, Bool.and_eq_true] at hb
    intro x hx
    rcases List.mem_cons.1 hx with rfl | hx
    · rw [← c]; exact blt_iff.1 hb.1
    · exact ih hb.2 x hx

theorem EL.bornApart {es : List (Value × Value × Nat)} {es' : List MapEntry} (h : EL β es es') {seen : List Nat} (hb : bornApart es seen = true) :
    (es'.map (·.born)).Nodup ∧ ∀ x ∈ es', x.born ∉ seen := by
  induction h generalizing seen with
  | nil => exact ⟨List.nodup_nil, fun x hx => by cases hx⟩
  | cons a b c _ ih =>
    rename_i k v n e r r' _
    simp only [Ideal.bornApart, Bool.and_eq_true, Bool.not_eq_true'] at hb
    obtain ⟨i1, i2⟩ := ih hb.2
    refine ⟨List.nodup_cons.2 ⟨fun hm => ?_, i1⟩, fun x hx => ?_⟩
    · obtain ⟨y, hy, he⟩ := List.mem_map.1 hm
      exact i2 y hy (by rw [he]; show e.born ∈ n :: seen; rw [← c]; exact List.mem_cons_self)
    · rcases List.mem_cons.1 hx with rfl | hx
      · intro hm
        have := hb.1
        rw [hasN_eq, ← c] at *
        simp at this
        exact this (by rw [c]; exact hm)
      · exact fun hm => i2 x hx (List.mem_cons_of_mem _ hm)

theorem fits_ok (hE : EnvOK P E) {E2 : Env} {f : FuncId} {tp : TypeId} (hen : Enters P f) (hF : FitsAt P f tp) : FunOK P N0 E2 f (fitsM E tp) := by
  intro l s v s' β w l' h hI hf hg hl
  refine ⟨hen, ?_⟩
  unfold fitsM at h
  split at h
  · rename_i b off sv size
    obtain ⟨o, hlt, hgb, hx⟩ := rd_bind h; clear h; have h := hx; clear hx
    obtain ⟨l'⟩ := l'
    cases hl with
    | cons hx hr =>
    cases hr with
    | cons hs hr =>
    cases hr with
    | cons hz hr =>
    cases hr
    cases hz
    cases hx with
    | ptr hL =>
    rename_i sv' L
    cases o with
    | cells xs t kd =>
      simp only at h
      obtain ⟨mm, hm, hx⟩ : ∃ m : M Value, m = _ ∧ m _ = some (v, s') := ⟨_, rfl, h⟩; clear h; have h := hx; clear hx
      split at hm
      · rename_i room mb n1 n2
        subst hm
        obtain ⟨cc, fz, p1, p2, p3, p4, p5⟩ := hI.cells hgb hL
        rw [nth_eq] at n1 n2
        obtain ⟨u, u1, u2⟩ := p4 _ _ n1
        obtain ⟨u', u3, u4⟩ := p4 _ _ n2
        cases u2
        cases u4 with
        | map hLm =>
        rename_i Lm
        obtain ⟨o, hltm, hgm, hx⟩ := rd_bind h; clear h; have h := hx; clear hx
        have hgm : s.h.get mb = some o := hgm
        cases o with
        | map es clock =>
          simp only at h
          obtain ⟨hst, hx⟩ := guard_bind h; clear h; have h := hx; clear hx
          simp only [Bool.and_eq_true] at hst
          obtain ⟨n, s4, h4, hx⟩ := bind_some.1 h; clear h; have h := hx; clear hx
          obtain ⟨hbig, hx⟩ := guard_bind h; clear h; have h := hx; clear hx
          obtain ⟨rfl, rfl⟩ := pure_some.1 h
          have hbig := blt_iff.1 hbig
          obtain ⟨L', hL', es', r1, r2, r3⟩ := hI.live mb _ hgm
          rw [hLm] at hL'; cases hL'
          have hnd := (r2.bornApart hst.2).1
          obtain ⟨e1, e2, c, hsum, hall⟩ := sim_lensM (N0 := N0) (w := w) hE hs es es'.toList _ _ n (by exact hI) h4 r2 hnd
          have c1 : w.cell? ⟨L.r, L.sh + off, none⟩ = some (.int .i64 room) := by rw [cell_at p1]; exact u1
          have c2 : w.cell? ⟨L.r, L.sh + off + 1, none⟩ = some (.map (some Lm.r)) := by rw [cell_at p1, Nat.add_assoc]; exact u3
          refine (hF w L.r (L.sh + off) Lm.r es' clock sv' size room c c1 c2 r1 (r2.bornLt hst.1) hnd hall (by rw [hsum]; exact hbig)).mono ?_
          rintro e w' ⟨rfl, w1, o, hw1, rfl⟩
          rw [hsum]
          have hb := hw1.below o
          exact ⟨_, rfl, β, .bool _, Ext.refl _ _ _, by rw [e1]; exact hI.below hb, Below.out hI.size hb⟩
        | _ => exact (fail_some.1 h).elim
      · subst hm; exact (fail_some.1 h).elim
    | _ => exact (fail_some.1 h).elim
  · exact (fail_some.1 h).elim

end
end
end Go.Ideal
