/- The ideal machine's append is the model's, whatever capacity the tape gives. -/
import Derived.Test.YtdkofgkmhgmmmaaGreatDoorSimI
namespace Go.Ideal
set_option linter.all false
set_option linter.unusedSimpArgs false
set_option linter.unusedVariables false
noncomputable section
open Go Go.RowKit
set_option maxHeartbeats 1000000

section
variable {P : Program} {E : Env} {N0 : Nat → Prop} {β : Bij} {w : World} {s s' : S}

theorem zeroCells_size (z : Array Value) (n : Nat) : (Builtin.zeroCells z n).size = n * z.size := by simp [Builtin.zeroCells]

/-- A new row behind an append. -/
theorem grow_new (_hE : EnvOK P E) (hI : Inv N0 β s.h.get w) {e : TypeId} {j : TI} (hj : TIOK P e j) {old ys : List Value} {olds cs : Array Value} {need newCap : Nat} {b : Nat} {k : Kd}
    (h : new (.cells (old ++ ys) e k) s = some (b, s')) (hk : KOK N0 ⟨w.heap.size, 0, newCap * j.size⟩ (0, 0) k) (hf : Fresh β s.nx s'.nx) (ho : VL β old olds.toList) (hy : VL β ys cs.toList)
    (hlen : (old ++ ys).length = need * j.size) (hc1 : need ≤ newCap) (hc2 : newCap < UNK) (hn : need < 1099511627776) :
    ∃ β', V β' (.slice (some ⟨b, 0, none⟩) need (capOf need j.size)) (.slice (some ⟨w.heap.size, 0, none⟩) need newCap) ∧
      Out N0 β s w s' β' (pushW w (.cells (olds ++ cs ++ Builtin.zeroCells j.zero.cells (newCap - need)) e)) := by
  have hzl : j.zero.cells.toList.length = j.size := by rw [← cellsL_eq]; exact hj.len
  have hzs : j.zero.cells.size = j.size := by simpa using hzl
  let c : Array Value := olds ++ cs ++ Builtin.zeroCells j.zero.cells (newCap - need)
  have h1 := ho.length
  have h2 := hy.length
  have hcs : olds.size + cs.size = need * j.size := by simp at hlen h1 h2; omega
  have hsz : c.size = newCap * j.size := by
    simp only [c, Array.size_append, zeroCells_size, hzs]
    rw [hcs, ← Nat.add_mul]; congr 1; omega
  have hxs : VL β (old ++ ys) (c.toList.take (old ++ ys).length) := by
    have : c.toList.take (old ++ ys).length = olds.toList ++ cs.toList := by
      simp only [c, Array.toList_append]
      rw [List.take_append_of_le_length (by simp at h1 h2 ⊢; omega), List.take_of_length_le (by simp at h1 h2 ⊢; omega)]
    rw [this]; exact ho.append hy
  have hle : need * j.size ≤ newCap * j.size := Nat.mul_le_mul_right _ hc1
  obtain ⟨rfl, hout, -⟩ := sim_newCells hI h hf (c := c) hxs (by omega) (0, 0) (by rw [hsz]; exact hk)
  refine ⟨_, ?_, hout⟩
  refine .sl (L := ⟨w.heap.size, 0, c.size⟩) (off := 0) (addB_same _ _ _) ⟨fun h => ?_, fun _ => ?_, fun _ => ?_, fun _ => hc2, hc1⟩
  · have := capOf_unk need j.size; omega
  · rw [lbOf_capOf (by unfold UNK; omega)]; exact hc1
  · rw [esOf_capOf (by unfold UNK; omega), hsz]; simp

theorem sim_appendM (hE : EnvOK P E) (hI : Inv N0 β s.h.get w) {ts : Array TypeId} {x x' y y' v : Value} {ty : TypeId}
    (h : appendM E (ts[0]?) (ts[1]?) x y s = some (v, s')) (hf : Fresh β s.nx s'.nx) (hx : V β x x') (hy : V β y y') :
    ∃ β' w' v', (Builtin.append_ ts ty #[x', y']).run P w = .ok v' w' ∧ V β' v v' ∧ Out N0 β s w s' β' w' := by
  unfold appendM at h
  cases h0 : ts[0]? with
  | none => rw [h0] at h; exact (fail_some.1 h).elim
  | some st =>
  rw [h0] at h; simp only at h
  cases hi : E.ti st with
  | none => rw [hi] at h; exact (fail_some.1 h).elim
  | some i =>
  rw [hi] at h; simp only at h
  have hu := (hE.ti _ _ hi).under
  obtain ⟨m, hm, h⟩ : ∃ m : M Value, m = _ ∧ m s = some (v, s') := ⟨_, rfl, h⟩
  split at hm
  · rename_i e base len cap hd
    subst hm
    rw [hd] at hu
    cases hj : E.ti e with
    | none => rw [hj] at h; exact (fail_some.1 h).elim
    | some j =>
      rw [hj] at h; simp only at h
      have htj := hE.ti _ _ hj
      obtain ⟨_, s1, h1, h2⟩ := bind_some.1 h
      obtain ⟨hg, rfl⟩ := guardM_some.1 h1
      simp only [Bool.and_eq_true] at hg
      have hsz := blt_iff.1 hg.1
      have hby := blt_iff.1 hg.2
      obtain ⟨p, s2, h3, h4⟩ := bind_some.1 h2
      obtain ⟨n, ys⟩ := p
      cases hxt : ts[1]? with
      | none => rw [hxt] at h3; simp only [newCells] at h3; exact (fail_some.1 h3).elim
      | some xt =>
        rw [hxt] at h3
        obtain ⟨xi, cs, hxi, hn, e1, e2⟩ := sim_newCellsM hE hI htj h3 hy
        have hI2 : Inv N0 β s2.h.get w := by rw [e1]; exact hI
        have htx := hE.ti _ _ hxi
        simp only at h4
        have hysl := hn.rel.length
        cases hfit : Nat.ble (len + n) (cond (Nat.blt cap UNK) cap (lbOf cap)) with
        | true =>
          rw [hfit] at h4; simp only [cond_true] at h4
          have hfit := ble_iff.1 hfit
          cases hx with
          | nilsl =>
            have hn0 : n = 0 := by
              have : cond (Nat.blt 0 UNK) 0 (lbOf 0) = 0 := by unfold lbOf; simp
              omega
            subst hn0
            obtain ⟨rfl, rfl⟩ := pure_some.1 h4
            refine ⟨β, w, .slice none 0 0, ?_, .nilsl, Out.same hI e1⟩
            rw [(run_append_head (N0 := N0) h0 hxt hu htj htx (base := none) (len := 0) (cap := 0) hn).1 (by omega)]
            rfl
          | sl0 A A' =>
            have hn0 : n = 0 := by
              have : cond (Nat.blt 0 UNK) 0 (lbOf 0) = 0 := by unfold lbOf; simp
              omega
            subst hn0
            simp only [Nat.zero_mul, Nat.beq_refl, cond_true] at h4
            obtain ⟨rfl, rfl⟩ := pure_some.1 h4
            have hcs : cs.toList = [] := by have := hn.len; rw [hysl] at this; exact List.eq_nil_of_length_eq_zero (by simpa using this)
            refine ⟨β, w, .slice (some A') 0 0, ?_, .sl0 _ _, Out.same hI e1⟩
            rw [(run_append_head (N0 := N0) h0 hxt hu htj htx (base := some A') (len := 0) (cap := 0) hn).1 (by omega)]
            simp [hcs, storeCells]
          | slz A A' hu1 hu2 =>
            have hn0 : n = 0 := by
              rw [blt_ff (by omega)] at hfit; simp only [cond_false] at hfit; omega
            subst hn0
            simp only [Nat.zero_mul, Nat.beq_refl, cond_true] at h4
            obtain ⟨rfl, rfl⟩ := pure_some.1 h4
            have hcs : cs.toList = [] := by have := hn.len; rw [hysl] at this; exact List.eq_nil_of_length_eq_zero (by simpa using this)
            refine ⟨β, w, .slice (some A') 0 0, ?_, .slz _ _ hu1 hu2, Out.same hI e1⟩
            rw [(run_append_head (N0 := N0) h0 hxt hu htj htx (base := some A') (len := 0) (cap := 0) hn).1 (by omega)]
            simp [hcs, storeCells]
          | @sl b off _ _ cap' L hL hcap =>
            have hle : len + n ≤ cap' := by
              cases hk : Nat.blt cap UNK with
              | true => rw [hk] at hfit; have := hcap.known (blt_iff.1 hk); simp only [cond_true] at hfit; omega
              | false =>
                rw [hk] at hfit
                have hge : UNK ≤ cap := by
                  rcases Nat.lt_or_ge cap UNK with h' | h'
                  · rw [blt_iff.2 h'] at hk; cases hk
                  · exact h'
                have := hcap.least hge; simp only [cond_false] at hfit; omega
            have hcap2 : CapOK L off (len + n) cap cap' := ⟨hcap.known, hcap.least, hcap.fits, hcap.small, hle⟩
            have hrun := (run_append_head (N0 := N0) (ty := ty) h0 hxt hu htj htx (base := some ⟨L.r, L.sh + off, none⟩) (len := len) (cap := cap') hn).1 hle
            simp only [add_at] at hrun
            cases hz : Nat.beq (n * j.size) 0 with
            | true =>
              rw [hz] at h4
              obtain ⟨rfl, rfl⟩ := pure_some.1 h4
              have hz := Nat.eq_of_beq_eq_true hz
              have hcs : cs.toList = [] := by have := hn.len; rw [hysl, hz] at this; exact List.eq_nil_of_length_eq_zero this
              refine ⟨β, w, _, ?_, .sl hL hcap2, Out.same hI e1⟩
              rw [hrun]; simp [hcs, storeCells]
            | false =>
              rw [hz] at h4; simp only [cond_false] at h4
              obtain ⟨_, s3, h5, h6⟩ := bind_some.1 h4
              obtain ⟨rfl, rfl⟩ := pure_some.1 h6
              obtain ⟨w', r, ho⟩ := sim_putCells (P := P) hI2 h5 hL hn.rel
              refine ⟨β, w', _, ?_, .sl hL hcap2, ⟨?_, ho.inv, ho.below⟩⟩
              · rw [hrun]; simp only [Sem.run_bind]
                rw [show L.sh + off + len * j.size = L.sh + (off + len * j.size) by omega, r]; simp
              · exact Ext.refl _ _ _
        | false =>
          rw [hfit] at h4; simp only [cond_false] at h4
          have hfit : ¬ len + n ≤ cond (Nat.blt cap UNK) cap (lbOf cap) := by
            intro h'; rw [ble_iff.2 h'] at hfit; cases hfit
          obtain ⟨_, s3, h5, h6⟩ := bind_some.1 h4
          obtain ⟨hg2, rfl⟩ := guardM_some.1 h5
          simp only [Bool.and_eq_true] at hg2
          have hb3 := blt_iff.1 hg2.1
          have hb4 := blt_iff.1 hg2.2
          obtain ⟨old, s4, h7, h8⟩ := bind_some.1 h6
          obtain ⟨olds, rold, vold, lold, e3, e4⟩ := sim_firstM (P := P) hI2 h7 hx
          obtain ⟨_, s5, h9, h10⟩ := bind_some.1 h8
          obtain ⟨hones, rfl⟩ := guardM_some.1 h9
          have hnl : (old ++ ys).length = (len + n) * j.size := by rw [List.length_append, lold, hn.len, Nat.add_mul]
          have hI4 : Inv N0 β s5.h.get w := by rw [e3]; exact hI2
          have hnx : s5.nx = s1.nx := by omega
          have hh5 : s5.h = s1.h := by rw [e3, e1]
          have htail : ∀ {base' : Option Addr} {cap' : Nat}, x' = .slice base' len cap' → ¬ len + n ≤ cap' →
              ∃ (w1 : World) (newCap : Nat), w1.heap = w.heap ∧ Below N0 w w1 ∧ len + n ≤ newCap ∧ newCap < UNK ∧
                (Builtin.append_ ts ty #[x', y']).run P w = .ok (.slice (some ⟨w.heap.size, 0, none⟩) (len + n) newCap)
                  (pushW w1 (.cells (olds ++ cs ++ Builtin.zeroCells j.zero.cells (newCap - (len + n))) e)) := by
            intro base' cap' hx' hnle
            subst hx'
            obtain ⟨w1, newCap, q1, q2, q3, q4, q5⟩ := (run_append_head (P := P) (N0 := N0) (ty := ty) h0 hxt hu htj htx (base := base') (len := len) (cap := cap') hn).2 hnle hb4 hby hb3
            exact ⟨w1, newCap, q1, q2, q3, q4, q5 olds (rold w1 q1)⟩
          cases hk : Nat.blt cap UNK with
          | true =>
            rw [hk] at h10 hfit; simp only [cond_true] at h10 hfit
            obtain ⟨b, s6, h11, h12⟩ := bind_some.1 h10
            obtain ⟨rfl, rfl⟩ := pure_some.1 h12
            have hform : ∃ base' cap', x' = .slice base' len cap' ∧ ¬ len + n ≤ cap' := by
              cases hx with
              | nilsl => exact ⟨_, _, rfl, hfit⟩
              | sl0 A A' => exact ⟨_, _, rfl, hfit⟩
              | slz A A' hu1 _ => have := blt_iff.1 hk; omega
              | sl hL hcap => have := hcap.known (blt_iff.1 hk); exact ⟨_, _, rfl, by omega⟩
            obtain ⟨base', cap', hx', hnle⟩ := hform
            obtain ⟨w1, newCap, q1, q2, q3, q4, q5⟩ := htail hx' hnle
            have hI6 : Inv N0 β s5.h.get w1 := hI4.world q1
            obtain ⟨β', hv, ho⟩ := grow_new hE hI6 htj h11 (⟨rfl, hI6.size _ (Nat.le_refl _)⟩ : KOK N0 _ (0, 0) .grow) (by rw [hnx]; exact hf) vold hn.rel hnl q3 q4 hb4
            refine ⟨β', _, _, q5, by rw [← q1]; exact hv, ⟨by rw [← hnx]; exact ho.ext, ho.inv, q2.trans ho.below⟩⟩
          | false =>
            rw [hk] at h10 hfit; simp only [cond_false] at h10 hfit
            have hge : UNK ≤ cap := by
              rcases Nat.lt_or_ge cap UNK with h' | h'
              · rw [blt_iff.2 h'] at hk; cases hk
              · exact h'
            have hbase : ∃ b0 o0, base = some ⟨b0, o0, none⟩ := by
              cases base with
              | none => exact (fail_some.1 h10).elim
              | some A => obtain ⟨b0, o0, sp⟩ := A; cases sp with
                | none => exact ⟨b0, o0, rfl⟩
                | some q => exact (fail_some.1 h10).elim
            obtain ⟨b0, o0, rfl⟩ := hbase
            simp only at h10
            obtain ⟨ob, s6, h11, h12⟩ := bind_some.1 h10
            obtain ⟨hb0, hgb, rfl⟩ := rd_some.1 h11
            cases ob with
            | cells xs e' k =>
              obtain ⟨_, s7, h13, h14⟩ := bind_some.1 h12
              obtain ⟨hg3, rfl⟩ := guardM_some.1 h13
              simp only [Bool.and_eq_true] at hg3
              obtain ⟨⟨hgr, hee⟩, hes⟩ := hg3
              have hee := Nat.eq_of_beq_eq_true hee; subst hee
              have hes := Nat.eq_of_beq_eq_true hes
              obtain ⟨_, s8, h15, h16⟩ := bind_some.1 h14
              obtain ⟨_, rfl⟩ := wr_some.1 h15
              obtain ⟨b, s9, h17, h18⟩ := bind_some.1 h16
              obtain ⟨rfl, rfl⟩ := pure_some.1 h18
              have hIk : Inv N0 β ((s5.h.set depth b0 .dead).get) w := hI4.kill hgb (fun n => by simp only [Tr.get_set])
              have growB : ∀ {base' : Option Addr} {cap' : Nat}, x' = .slice base' len cap' → ¬ len + n ≤ cap' →
                  ∃ β' w' v', (Builtin.append_ ts ty #[x', y']).run P w = .ok v' w' ∧ V β' (.slice (some ⟨b, 0, none⟩) (len + n) (capOf (len + n) j.size)) v' ∧ Out N0 β s1 w s' β' w' := by
                intro base' cap' hx' hnle
                obtain ⟨w1, newCap, q1, q2, q3, q4, q5⟩ := htail hx' hnle
                have hI6 := hIk.world q1
                have hkk : KOK N0 ⟨w1.heap.size, 0, newCap * j.size⟩ (0, 0) k := by
                  cases k <;> first | exact ⟨rfl, hI6.size _ (Nat.le_refl _)⟩ | exact ⟨.inl rfl, hI6.size _ (Nat.le_refl _)⟩ | (simp [Kd.growing] at hgr)
                obtain ⟨β', hv, ho⟩ := grow_new hE hI6 htj h17 hkk (by simp only; rw [hnx]; exact hf) vold hn.rel hnl q3 q4 hb4
                exact ⟨β', _, _, q5, by rw [← q1]; exact hv, ⟨by rw [← hnx]; exact ho.ext, ho.inv, q2.trans ho.below⟩⟩
              cases hx with
              | sl0 A A' => unfold UNK at hge; omega
              | slz A A' hu1 hu2 => exact growB rfl (by omega)
              | @sl _ _ _ _ cap' L hL hcap =>
                by_cases hle : len + n ≤ cap'
                · -- there was room
                  obtain ⟨hbn, hs9⟩ := new_some.1 h17
                  subst hbn
                  simp only at hs9
                  subst hs9
                  have hnb : β s5.nx = none := hf _ (by omega) (by first | omega | (simp only; omega))
                  obtain ⟨c, fz, q1, q2, q3, q4, q5⟩ := hI4.cells hgb hL
                  have hfits := hcap.fits hge
                  rw [← hes] at hfits
                  have hmul : (len + n) * j.size ≤ cap' * j.size := Nat.mul_le_mul_right _ hle
                  have hadd : (len + n) * j.size = len * j.size + n * j.size := Nat.add_mul _ _ _
                  have hcl : cs.toList.length = n * j.size := by rw [← hysl]; exact hn.len
                  have hone : ∀ v ∈ cs.toList, v.oneCell' = true := by
                    rw [List.all_append, Bool.and_eq_true] at hones
                    exact hn.rel.ones hones.2
                  have hkr : k.isRo = false := by cases k <;> first | rfl | simp [Kd.growing] at hgr
                  have hrun := (run_append_head (P := P) (N0 := N0) (ty := ty) h0 hxt hu htj htx (base := some ⟨L.r, L.sh + o0, none⟩) (len := len) (cap := cap') hn).1 hle
                  simp only [add_at] at hrun
                  have hst := rStoreCells (P := P) (r := L.r) (off := L.sh + o0 + len * j.size) cs.toList 0 c w q1 (by omega) hone (fun i h1 h2 => kok_free q5 hkr i (by omega))
                  rw [Nat.add_zero] at hst
                  have hr : L.r < w.heap.size := (Array.getElem?_eq_some_iff.1 q1).1
                  have hN : N0 L.r := by cases k <;> first | exact q5.2 | simp [Kd.growing] at hgr
                  let L' : Loc := ⟨L.r, L.sh + o0, L.tot⟩
                  refine ⟨addB β s5.nx L', _, _, by rw [hrun]; simp only [Sem.run_bind, hst, Result.andThen_ok, Sem.run_pure]; rfl, ?_, addB_ext hnb (by omega) (by first | omega | (simp only; omega)), ?_, setBlk_below hN⟩
                  · have hlb : len + n < UNK := by unfold UNK; omega
                    refine .sl (L := L') (off := 0) (addB_same _ _ _) ⟨fun h => ?_, fun _ => ?_, fun _ => ?_, fun _ => hcap.small hge, hle⟩
                    · have := capOf_unk (len + n) j.size; omega
                    · rw [lbOf_capOf hlb]; exact hle
                    · rw [esOf_capOf hlb]; simp only [L']; omega
                  · refine hI4.move (o' := .cells (old ++ ys) e k) hgb rfl (by cases k <;> first | rfl | simp [Kd.growing] at hgr) hL (by rfl) hnb (fun m => by simp only [Tr.get_set]) ?_
                    refine ⟨_, fz, setBlk_same hr, by rw [over_size]; exact q2, by simp only [L']; omega, ?_, ?_⟩
                    · intro i v hiv
                      rw [over_get _ _ _ (by omega)]
                      by_cases hi1 : i < old.length
                      · rw [List.getElem?_append_left hi1] at hiv
                        have : ¬ (L.sh + o0 + len * j.size ≤ L'.sh + i ∧ L'.sh + i < L.sh + o0 + len * j.size + cs.toList.length) := by simp only [L']; omega
                        rw [if_neg this]
                        obtain ⟨v', a1, a2⟩ := vold.get hiv
                        refine ⟨v', ?_, a2.mono (addB_keep hnb)⟩
                        have hl0 : len * j.size ≠ 0 := by omega
                        have hr1 := rold w rfl
                        simp only [Builtin.firstCells] at hr1
                        rw [rLoadCells q1 (by omega)] at hr1
                        have hinj : c.extract (L.sh + o0) (L.sh + o0 + len * j.size) = olds := by injection hr1
                        rw [← hinj, Array.toList_extract, List.extract_eq_take_drop, List.getElem?_take_of_lt (by omega), List.getElem?_drop, Array.getElem?_toList] at a1
                        exact a1
                      · rw [List.getElem?_append_right (by omega)] at hiv
                        have hi2 : i - old.length < ys.length := (List.getElem?_eq_some_iff.1 hiv).1
                        rw [if_pos (by simp only [L']; omega)]
                        obtain ⟨v', a1, a2⟩ := hn.rel.get hiv
                        refine ⟨v', ?_, a2.mono (addB_keep hnb)⟩
                        rw [← a1]; congr 1; simp only [L']; omega
                    · cases k <;> first | exact q5 | simp [Kd.growing] at hgr
                · exact growB rfl hle
            | _ => exact (fail_some.1 h12).elim
  · subst hm; exact (fail_some.1 h).elim

end
end
end Go.Ideal
