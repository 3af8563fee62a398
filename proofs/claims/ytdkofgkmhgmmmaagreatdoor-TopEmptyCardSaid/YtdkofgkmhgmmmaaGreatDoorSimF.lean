/- The ideal machine's operations on memory: slices made, bytes and strings, maps, ranging over a string. -/
import Derived.Test.YtdkofgkmhgmmmaaGreatDoorSimE
namespace Go.Ideal
set_option linter.all false
set_option linter.unusedSimpArgs false
set_option linter.unusedVariables false
noncomputable section
open Go Go.RowKit
set_option maxHeartbeats 1000000

section
variable {P : Program} {E : Env} {N0 : Nat → Prop} {β : Bij} {w : World} {s s' : S}

theorem sim_buildSliceM (hE : EnvOK P E) (hI : Inv N0 β s.h.get w) {t : TypeId} {n : Nat} {parts parts' : List (Nat × Value)} {v : Value}
    (h : buildSliceM E t n parts s = some (v, s')) (hf : Fresh β s.nx s'.nx) (hp : PL β parts parts') :
    ∃ β' w' v', (Instr.buildSlice t n parts'.toArray).run P w = .ok v' w' ∧ V β' v v' ∧ Out N0 β s w s' β' w' := by
  cases hi : E.ti t with
  | none => simp only [buildSliceM, hi] at h; exact (fail_some.1 h).elim
  | some i =>
    have hu := (hE.ti _ _ hi).under
    simp only [buildSliceM, hi] at h
    cases hd : i.desc with
    | slice e =>
      rw [hd] at hu h; simp only at h
      cases hj : E.ti e with
      | none => rw [hj] at h; exact (fail_some.1 h).elim
      | some j =>
        rw [hj] at h; simp only at h
        have htj := hE.ti _ _ hj
        obtain ⟨_, s1, h1, h2⟩ := bind_some.1 h
        obtain ⟨hle, rfl⟩ := guardM_some.1 h1
        obtain ⟨cells, s2, h3, h4⟩ := bind_some.1 h2
        obtain ⟨hfill, rfl⟩ := liftO_some.1 h3
        obtain ⟨b, s3, h5, h6⟩ := bind_some.1 h4
        obtain ⟨rfl, rfl⟩ := pure_some.1 h6
        simp only [Bool.and_eq_true] at hle
        have hnu := blt_iff.1 hle.2
        have hle := ble_iff.1 hle.1
        have hzl : j.zero.cells.toList.length = j.size := by rw [← cellsL_eq]; exact htj.len
        have hzs : j.zero.cells.size = j.size := by simpa using hzl
        have hrow : VL β (repL (cellsL j.zero) n) ((Array.range (n * j.size)).map fun i => j.zero.cells[i % j.zero.cells.size]!).toList := by
          rw [← hzs, zeros_eq, ← cellsL_eq]
          exact VL.repL htj.zero n
        obtain ⟨out', x, y, z⟩ := sim_fill (place' := fun n => some (n * j.size, j.size)) (fun j p hj => hj) _ _ _ _ _ hfill hp hrow
        have hol := y.length
        have hol' : cells.length = out'.size := by simpa using hol
        obtain ⟨rfl, ho, -⟩ := sim_newCells hI h5 hf (c := out') (by rw [List.take_of_length_le (by omega)]; exact y) (by omega) (0, 0) ⟨rfl, hI.size _ (Nat.le_refl _), rfl⟩
        refine ⟨_, _, .slice (some ⟨w.heap.size, 0, none⟩) n n, ?_, ?_, ho⟩
        · have hc : ¬ (n * j.size > 2 ^ 24) := by omega
          simp only [Instr.buildSlice, Sem.run_bind, rU hu, Result.andThen_ok, rS htj, hc, if_false]
          have e : (Array.map (fun i => (#[] : Array Value)[i % (#[] : Array Value).size]!) (Array.range (n * j.size))) = ((Array.range (n * j.size)).map fun i => j.zero.cells[i % j.zero.cells.size]!) ∨ n * j.size ≠ 0 := by
            by_cases h0 : n * j.size = 0
            · left; rw [h0]; simp
            · exact .inr h0
          split
          · rename_i h0
            rcases e with e | e
            · simp only [Sem.run_bind, Sem.run_pure, Result.andThen_ok, e, x]; rfl
            · exact absurd h0 e
          · simp only [Sem.run_bind, rZ htj, Sem.run_pure, Result.andThen_ok, x]; rfl
        · exact .sl (L := ⟨w.heap.size, 0, out'.size⟩) (off := 0) (addB_same _ _ _) ⟨fun _ => rfl, fun h => by omega, fun h => by omega, fun h => by omega, Nat.le_refl _⟩
    | _ => rw [hd] at h; exact (fail_some.1 h).elim

theorem strBytes_eq (q : ByteArray) : strBytes q = (q.data.map fun b => Value.int .u8 b.toNat).toList := by
  simp [strBytes, bl]

theorem VL.bytes (l : List UInt8) : VL β (l.map fun b => Value.int .u8 b.toNat) (l.map fun b => Value.int .u8 b.toNat) := by
  induction l with
  | nil => exact .nil
  | cons x r ih => exact .cons (.int _ _) ih

/-- The first cells of a slice, or a string's bytes. -/
theorem sim_firstM (hI : Inv N0 β s.h.get w) {n size : Nat} {x x' : Value} {ys : List Value} (h : firstM n size x s = some (ys, s')) (hx : V β x x') :
    ∃ cs, (∀ w', w'.heap = w.heap → (Builtin.firstCells size n x').run P w' = .ok cs w') ∧ VL β ys cs.toList ∧ ys.length = n * size ∧ s'.h = s.h ∧ s'.nx = s.nx := by
  cases hx with
  | string q =>
    simp only [firstM] at h
    obtain ⟨_, s1, h1, h2⟩ := bind_some.1 h
    obtain ⟨hl, rfl⟩ := guardM_some.1 h1
    obtain ⟨rfl, rfl⟩ := pure_some.1 h2
    refine ⟨_, fun w' _ => rfl, ?_, Nat.eq_of_beq_eq_true hl, rfl, rfl⟩
    have e : ((q.extract 0 n).data.map fun b => Value.int .u8 b.toNat).toList = ((bl q).take n).map fun b => Value.int .u8 b.toNat := by
      rw [extract_eq]; simp [mkS]
    have e2 : (strBytes q).take n = ((bl q).take n).map fun b => Value.int .u8 b.toNat := by
      simp [strBytes, List.map_take]
    rw [e, e2]
    exact VL.bytes _
  | nilsl =>
    simp only [firstM] at h
    cases hn : Nat.beq n 0 with
    | false => rw [hn] at h; simp only [cond_false] at h; exact (fail_some.1 h).elim
    | true =>
      rw [hn] at h
      obtain ⟨rfl, rfl⟩ := pure_some.1 h
      have := Nat.eq_of_beq_eq_true hn; subst this
      exact ⟨#[], fun w' _ => rfl, .nil, by simp, rfl, rfl⟩
  | sl hL hcap =>
    rename_i b off len cap cap' L
    simp only [firstM] at h
    cases hn : Nat.beq (n * size) 0 with
    | true =>
      rw [hn] at h
      obtain ⟨rfl, rfl⟩ := pure_some.1 h
      have := Nat.eq_of_beq_eq_true hn
      exact ⟨#[], fun w' _ => by simp [Builtin.firstCells, this, loadCells, loadCellsFrom], .nil, by simp [this], rfl, rfl⟩
    | false =>
      rw [hn] at h; simp only [cond_false] at h
      cases hnl : Nat.ble n len with
      | false => rw [hnl] at h; simp only [cond_false] at h; exact (fail_some.1 h).elim
      | true =>
      rw [hnl] at h; simp only [cond_true] at h
      obtain ⟨o, s1, h1, h2⟩ := bind_some.1 h
      obtain ⟨hb, hg, rfl⟩ := rd_some.1 h1
      cases o with
      | cells xs e k =>
        obtain ⟨_, s2, h3, h4⟩ := bind_some.1 h2
        obtain ⟨hl, rfl⟩ := guardM_some.1 h3
        obtain ⟨rfl, rfl⟩ := pure_some.1 h4
        have hl := Nat.eq_of_beq_eq_true hl
        have hne : n * size ≠ 0 := fun e => by rw [e] at hn; simp at hn
        obtain ⟨c, fz, q1, q2, q3, q4, q5⟩ := hI.cells hg hL
        have hle : off + n * size ≤ xs.length := by simp only [List.length_take, List.length_drop] at hl; omega
        refine ⟨_, fun w' hw => rLoadCells (by rw [hw]; exact q1) (by omega), cells_extract q4 hle (by omega), hl, rfl, rfl⟩
      | _ => exact (fail_some.1 h2).elim
  | slz A A' h1 h2 =>
    simp only [firstM] at h
    cases hn : Nat.beq (n * size) 0 with
    | true =>
      rw [hn] at h
      obtain ⟨rfl, rfl⟩ := pure_some.1 h
      have := Nat.eq_of_beq_eq_true hn
      exact ⟨#[], fun w' _ => by simp [Builtin.firstCells, this, loadCells, loadCellsFrom], .nil, by simp [this], rfl, rfl⟩
    | false =>
      have hne : n * size ≠ 0 := fun e => by rw [e] at hn; simp at hn
      have : Nat.ble n 0 = false := ble_ff (fun h => hne (by rw [Nat.le_zero.1 h]; simp))
      rw [hn, this] at h; simp only [cond_false] at h; exact (fail_some.1 h).elim
  | sl0 A A' =>
    simp only [firstM] at h
    cases hn : Nat.beq (n * size) 0 with
    | true =>
      rw [hn] at h
      obtain ⟨rfl, rfl⟩ := pure_some.1 h
      have := Nat.eq_of_beq_eq_true hn
      exact ⟨#[], fun w' _ => by simp [Builtin.firstCells, this, loadCells, loadCellsFrom], .nil, by simp [this], rfl, rfl⟩
    | false =>
      have hne : n * size ≠ 0 := fun e => by rw [e] at hn; simp at hn
      have : Nat.ble n 0 = false := ble_ff (fun h => hne (by rw [Nat.le_zero.1 h]; simp))
      rw [hn, this] at h; simp only [cond_false] at h; exact (fail_some.1 h).elim
  | _ => simp only [firstM] at h; exact (fail_some.1 h).elim

theorem byteL_rel : ∀ {l : List Value} {bs : List UInt8} {l' : List Value}, byteL l = some bs → VL β l l' → l' = l ∧
    ∀ (f : Value → ByteArray → Sem (ForInStep ByteArray)), (∀ n s, f (.int .u8 n) s = pure (ForInStep.yield (s.push (UInt8.ofNat n.toNat)))) →
      ∀ (acc : ByteArray), (forIn l' acc f).run P w = .ok ⟨⟨acc.data.toList ++ bs⟩⟩ w := by
  intro l
  induction l with
  | nil => intro bs l' h hl; cases hl; simp only [byteL] at h; cases h; exact ⟨rfl, fun f hf acc => by simp⟩
  | cons x r ih =>
    intro bs l' h hl
    cases hl with
    | cons hx hr =>
    unfold byteL at h
    split at h
    · rename_i heq; cases heq
    · rename_i n r' heq
      cases heq
      cases hx
      split at h
      · rename_i q hq
        cases h
        obtain ⟨e, k⟩ := ih hq hr
        subst e
        refine ⟨rfl, fun f hf acc => ?_⟩
        simp only [List.forIn_cons, hf, Sem.run_bind, Sem.run_pure, Result.andThen_ok]
        rw [k f hf]; simp [ByteArray.push]
      · cases h
    · cases h

theorem run_appendCap (N0 : Nat → Prop) (need old : Nat) (e : TypeId) (h : need < UNK) : ∃ cap w1, (choose (.appendCap need old e)).run P w = .ok cap w1 ∧ w1.heap = w.heap ∧ Below N0 w w1 ∧ need ≤ cap ∧ cap < UNK := by
  refine ⟨(Question.appendCap need old e).cut (w.tape w.drawn (.appendCap need old e)), { w with drawn := w.drawn + 1 }, ?_, rfl, ⟨rfl, rfl, rfl, Nat.le_refl _, fun _ _ => rfl⟩, ?_, ?_⟩
  · rw [run_choose]; rfl
  · simp [Question.cut]
  · unfold UNK at *
    simp only [Question.cut]
    have := Nat.mod_lt (w.tape w.drawn (.appendCap need old e)) (show 2 ^ 63 - need > 0 by omega)
    omega

theorem run_markNew {c : Array Value} {e : TypeId} : (markStringish ⟨w.heap.size, 0, none⟩).run P (pushW w (.cells c e (0, 0))) = .ok () (pushW w (.cells c e (c.size, c.size + 1))) := by
  simp only [markStringish, Sem.run_bind, run_shape, Result.andThen_ok, World.shape?, pushW_new, run_freeze, World.freeze]
  simp only [Nat.one_ne_zero, if_false]
  congr 1
  unfold pushW
  congr 1
  apply Array.ext_getElem?
  intro i
  rw [Array.getElem?_modify]
  by_cases hi : w.heap.size = i
  · subst hi
    rw [if_pos rfl, Array.getElem?_push, Array.getElem?_push, if_pos rfl, if_pos rfl]; simp
  · rw [if_neg hi, Array.getElem?_push, Array.getElem?_push, if_neg (fun e => hi e.symm), if_neg (fun e => hi e.symm)]

theorem run_markOld {r off : Nat} {c : Array Value} {e : TypeId} (h : w.heap[r]? = some (.cells c e (0, 0))) :
    (markStringish ⟨r, off, none⟩).run P w = .ok () (setBlk w r (.cells c e (c.size, c.size + 1))) := by
  have hr : r < w.heap.size := (Array.getElem?_eq_some_iff.1 h).1
  simp only [markStringish, Sem.run_bind, run_shape, Result.andThen_ok, World.shape?, h, run_freeze, World.freeze]
  simp only [Nat.one_ne_zero, if_false]
  congr 1
  unfold setBlk
  congr 1
  apply Array.ext_getElem?
  intro i
  rw [Array.getElem?_modify, Array.getElem?_setIfInBounds]
  by_cases hi : r = i
  · subst hi; rw [if_pos rfl, if_pos rfl, if_pos hr, h]; simp
  · rw [if_neg hi, if_neg hi]

theorem sim_convertM (hE : EnvOK P E) (hI : Inv N0 β s.h.get w) {st dt : TypeId} {x x' v : Value} (h : convertM E st dt x s = some (v, s')) (hf : Fresh β s.nx s'.nx) (hx : V β x x') :
    ∃ β' w' v', (convert st dt x').run P w = .ok v' w' ∧ V β' v v' ∧ Out N0 β s w s' β' w' := by
  unfold convertM at h
  cases hi : E.ti st with
  | none => rw [hi] at h; exact (fail_some.1 h).elim
  | some i =>
  cases hj : E.ti dt with
  | none => rw [hi, hj] at h; exact (fail_some.1 h).elim
  | some j =>
    rw [hi, hj] at h; simp only at h
    have hui := (hE.ti _ _ hi).under
    have huj := (hE.ti _ _ hj).under
    obtain ⟨m, hm, h⟩ : ∃ m : M Value, m = _ ∧ m s = some (v, s') := ⟨_, rfl, h⟩
    split at hm
    · rename_i k k' n hd
      subst hm
      cases hx
      rw [hd] at huj
      obtain ⟨rfl, rfl⟩ := pure_some.1 h
      refine ⟨β, w, .int k (k.wrap n), ?_, by rw [wrapF_eq]; exact .int _ _, Out.same hI rfl⟩
      simp only [convert, Sem.run_bind, rU hui, rU huj, Result.andThen_ok, Conv.intToInt, Sem.run_pure]
    · rename_i q hd
      subst hm
      cases hx
      rw [hd] at huj
      obtain ⟨rfl, rfl⟩ := pure_some.1 h
      refine ⟨β, w, .string q, ?_, .string _, Out.same hI rfl⟩
      simp only [convert, Sem.run_bind, rU hui, rU huj, Result.andThen_ok, Sem.run_pure]
    · rename_i a n c hd
      subst hm
      rw [hd] at huj
      cases hdi : i.desc with
      | slice e =>
        rw [hdi] at h hui; simp only at h
        cases he : E.ti e with
        | none => rw [he] at h; exact (fail_some.1 h).elim
        | some q =>
          rw [he] at h; simp only at h
          have hue := (hE.ti _ _ he).under
          obtain ⟨m, hm, h⟩ : ∃ m : M Value, m = _ ∧ m s = some (v, s') := ⟨_, rfl, h⟩
          split at hm
          · rename_i hq
            subst hm
            rw [hq] at hue
            obtain ⟨ys, s1, h1, h2⟩ := bind_some.1 h
            obtain ⟨bs, s2, h3, h4⟩ := bind_some.1 h2
            obtain ⟨hbs, rfl⟩ := liftO_some.1 h3
            obtain ⟨rfl, rfl⟩ := pure_some.1 h4
            obtain ⟨cs, r, hv, hl, e1, e2⟩ := sim_firstM (P := P) hI h1 hx
            have r := r w rfl
            obtain ⟨e3, k⟩ := byteL_rel (P := P) (w := w) hbs hv
            refine ⟨β, w, .string (mkS bs), ?_, .string _, Out.same hI e1⟩
            cases hx with
            | nilsl =>
              have : ys = [] := List.eq_nil_of_length_eq_zero (by simpa using hl)
              subst this
              simp only [byteL] at hbs; cases hbs
              simp only [convert, Sem.run_bind, rU hui, rU huj, Result.andThen_ok, rU hue, Conv.bytesToString, Sem.run_pure]; rfl
            | sl hL hcap =>
              simp only [Builtin.firstCells, Nat.mul_one] at r
              simp only [convert, Sem.run_bind, rU hui, rU huj, Result.andThen_ok, rU hue, Conv.bytesToString, r]
              rw [← Array.forIn_toList, k _ (by intros; rfl) ByteArray.empty]
              simp [mkS]
            | slz A A' h1 h2 =>
              simp only [Builtin.firstCells, Nat.mul_one] at r
              simp only [convert, Sem.run_bind, rU hui, rU huj, Result.andThen_ok, rU hue, Conv.bytesToString, r]
              rw [← Array.forIn_toList, k _ (by intros; rfl) ByteArray.empty]
              simp [mkS]
            | sl0 A A' =>
              simp only [Builtin.firstCells, Nat.mul_one] at r
              simp only [convert, Sem.run_bind, rU hui, rU huj, Result.andThen_ok, rU hue, Conv.bytesToString, r]
              rw [← Array.forIn_toList, k _ (by intros; rfl) ByteArray.empty]
              simp [mkS]
          · subst hm; exact (fail_some.1 h).elim
      | _ => rw [hdi] at h; exact (fail_some.1 h).elim
    · rename_i e q hd
      subst hm
      cases hx
      rw [hd] at huj
      cases he : E.ti e with
      | none => rw [he] at h; exact (fail_some.1 h).elim
      | some p =>
        rw [he] at h; simp only at h
        have hue := (hE.ti _ _ he).under
        obtain ⟨m, hm, h⟩ : ∃ m : M Value, m = _ ∧ m s = some (v, s') := ⟨_, rfl, h⟩
        split at hm
        · rename_i hq
          subst hm
          rw [hq] at hue
          obtain ⟨_, s1, h1, h2⟩ := bind_some.1 h
          obtain ⟨hsz, rfl⟩ := guardM_some.1 h1
          obtain ⟨_, s2, h3, h4⟩ := bind_some.1 h2
          obtain ⟨hlen, rfl⟩ := guardM_some.1 h3
          obtain ⟨b, s3, h5, h6⟩ := bind_some.1 h4
          obtain ⟨rfl, rfl⟩ := pure_some.1 h6
          have hlen := blt_iff.1 hlen
          rw [bl_size] at hlen
          obtain ⟨cap, w1, hch, hh, hbel, hc1, hc2⟩ := run_appendCap (P := P) (w := w) N0 q.size 0 e (by unfold UNK; omega)
          have hI1 : Inv N0 β s2.h.get w1 := hI.world hh
          let c : Array Value := (q.data.map fun b => Value.int .u8 b.toNat) ++ Array.replicate (cap - q.size) (.int .u8 0)
          have hcs : c.size = cap := by simp [c]; omega
          have hxs : VL β (strBytes q) (c.toList.take (strBytes q).length) := by
            have : c.toList.take (strBytes q).length = strBytes q := by
              rw [strBytes_eq]; simp [c]
            rw [this, strBytes]; exact VL.bytes _
          have hsl : (strBytes q).length = q.size := by simp [strBytes, bl]
          obtain ⟨rfl, ho, -⟩ := sim_newCells (N0 := N0) (w := w1) hI1 h5 hf (c := c) hxs (by omega) (cap, cap + 1) ⟨.inr (by simp [hcs]), by rw [hh]; exact hI.size _ (Nat.le_refl _)⟩
          refine ⟨_, _, .slice (some ⟨w1.heap.size, 0, none⟩) q.size cap, ?_, ?_, ⟨ho.ext, ho.inv, hbel.trans ho.below⟩⟩
          · simp only [convert, Sem.run_bind, rU hui, rU huj, Result.andThen_ok, rU hue, Conv.stringToBytes, hch]
            have hm := run_markNew (P := P) (w := w1) (c := c) (e := e)
            rw [hcs] at hm
            have e1 : (newRow e c).run P w1 = .ok ⟨w1.heap.size, 0, none⟩ (pushW w1 (.cells c e (0, 0))) := rfl
            show (((newRow e c).run P w1).andThen _) = _
            rw [e1]
            simp only [Result.andThen_ok, hm, Sem.run_pure]
          · rw [bl_size]
            refine .sl (L := ⟨w1.heap.size, 0, c.size⟩) (off := 0) (addB_same _ _ _) ⟨fun h => ?_, fun _ => ?_, fun _ => ?_, fun _ => hc2, hc1⟩
            · have := capOf_unk q.size 1; omega
            · rw [lbOf_capOf (by unfold UNK; omega)]; exact hc1
            · rw [esOf_capOf (by unfold UNK; omega), hcs]; simp
        · subst hm; exact (fail_some.1 h).elim
    · rename_i e b off n c hd
      subst hm
      rw [hd] at huj
      obtain ⟨m, hm, h⟩ : ∃ m : M Value, m = _ ∧ m s = some (v, s') := ⟨_, rfl, h⟩
      split at hm
      · rename_i e1 q hdi he
        have hue := (hE.ti _ _ he).under
        rw [hdi] at hui
        split at hm
        · rename_i hq hsd
          subst hm
          rw [hq] at hue
          have hsd := Nat.eq_of_beq_eq_true hsd
          obtain ⟨_, s1, h1, h2⟩ := bind_some.1 h
          obtain ⟨hn, rfl⟩ := guardM_some.1 h1
          have hn := blt_iff.1 hn
          obtain ⟨o, s2, h3, h4⟩ := bind_some.1 h2
          obtain ⟨hb, hg, rfl⟩ := rd_some.1 h3
          cases o with
          | cells xs e' k =>
            cases k with
            | var =>
              obtain ⟨_, s3, h5, h6⟩ := bind_some.1 h4
              obtain ⟨_, rfl⟩ := wr_some.1 h5
              obtain ⟨rfl, rfl⟩ := pure_some.1 h6
              cases hx with
              | slz A A' _ _ => omega
              | sl0 A A' => omega
              | sl hL hcap =>
                rename_i cap' L
                obtain ⟨c', fz, q1, q2, q3, q4, q5⟩ := hI.cells hg hL
                obtain ⟨rfl, q6⟩ := q5
                have hr : L.r < w.heap.size := (Array.getElem?_eq_some_iff.1 q1).1
                refine ⟨β, setBlk w L.r (.cells c' e' (c'.size, c'.size + 1)), _, ?_, .sl hL hcap, Ext.refl _ _ _, ?_, setBlk_below q6.1⟩
                · have hsd' : (st == dt) = true := by simp [hsd]
                  simp only [convert, Sem.run_bind, rU hui, rU huj, Result.andThen_ok, rU hue, hsd', run_markOld q1, Sem.run_pure]
                · refine hI.write (o' := .cells xs e' .vst) hg rfl rfl hL (fun n => by simp only [Tr.get_set]) ?_
                  exact ⟨c', _, setBlk_same hr, q2, q3, q4, .inr (by simp [q2]), q6.1⟩
            | _ => exact (fail_some.1 h4).elim
          | _ => exact (fail_some.1 h4).elim
        · subst hm; exact (fail_some.1 h).elim
      · subst hm; exact (fail_some.1 h).elim
    · subst hm; exact (fail_some.1 h).elim

theorem sim_makeMapM (hI : Inv N0 β s.h.get w) {r r' : Option Value} {v : Value} {t : TypeId} (h : makeMapM r s = some (v, s')) (hf : Fresh β s.nx s'.nx) (hr : VO β r r') :
    ∃ β' w' v', (Instr.makeMap t r').run P w = .ok v' w' ∧ V β' v v' ∧ Out N0 β s w s' β' w' := by
  cases hr with
  | some _ => simp only [makeMapM] at h; exact (fail_some.1 h).elim
  | none =>
    simp only [makeMapM] at h
    obtain ⟨b, s1, h1, h2⟩ := bind_some.1 h
    obtain ⟨rfl, rfl⟩ := pure_some.1 h2
    obtain ⟨rfl, rfl⟩ := new_some.1 h1
    have hn : β s.nx = none := hf _ (Nat.le_refl _) (by simp)
    refine ⟨addB β s.nx ⟨w.heap.size, 0, 0⟩, pushW w (.map #[] 0), .map (some w.heap.size), ?_, .map (L := ⟨w.heap.size, 0, 0⟩) (addB_same _ _ _), addB_ext hn (Nat.le_refl _) (by simp), ?_, pushW_below hI.size⟩
    · simp only [Instr.makeMap, Sem.run_bind, run_newObj, Result.andThen_ok, Sem.run_pure]; rfl
    · refine hI.push (o' := .map [] 0) hn rfl (fun n => by simp only [Tr.get_set]) ?_
      exact ⟨#[], pushW_new, .nil, hI.size _ (Nat.le_refl _)⟩

theorem sim_makeSliceM (hE : EnvOK P E) (hI : Inv N0 β s.h.get w) {t : TypeId} {l l' c c' v : Value} (h : makeSliceM E t l c s = some (v, s')) (hf : Fresh β s.nx s'.nx)
    (hl : V β l l') (hc : V β c c') : ∃ β' w' v', (Instr.makeSlice t l' c').run P w = .ok v' w' ∧ V β' v v' ∧ Out N0 β s w s' β' w' := by
  unfold makeSliceM at h
  obtain ⟨m, hm, h⟩ : ∃ m : M Value, m = _ ∧ m s = some (v, s') := ⟨_, rfl, h⟩
  split at hm
  · rename_i i k1 l k2 c hi
    cases hl; cases hc
    have hu := (hE.ti _ _ hi).under
    split at hm
    · rename_i e hd
      rw [hd] at hu
      split at hm
      · rename_i j n m' he
        subst hm
        have htj := hE.ti _ _ he
        obtain ⟨_, s1, h1, h2⟩ := bind_some.1 h
        obtain ⟨hg, rfl⟩ := guardM_some.1 h1
        obtain ⟨b, s2, h3, h4⟩ := bind_some.1 h2
        obtain ⟨rfl, rfl⟩ := pure_some.1 h4
        simp only [Bool.and_eq_true] at hg
        have g1 := ble_iff.1 hg.1.1
        have g2 := blt_iff.1 hg.1.2
        have g3 := blt_iff.1 hg.2
        obtain ⟨f, hf1, hf2, hf3⟩ := rB (w := w) htj
        have hzl : j.zero.cells.toList.length = j.size := by rw [← cellsL_eq]; exact htj.len
        have hzs : j.zero.cells.size = j.size := by simpa using hzl
        let row : Array Value := (Array.range (m' * j.size)).map fun i => j.zero.cells[i % j.zero.cells.size]!
        have hrow : VL β (repL (cellsL j.zero) m') row.toList := by
          show VL β _ ((Array.range (m' * j.size)).map fun i => j.zero.cells[i % j.zero.cells.size]!).toList
          rw [← hzs, zeros_eq, ← cellsL_eq]
          exact VL.repL htj.zero m'
        have hrl := hrow.length
        have hrl' : (repL (cellsL j.zero) m').length = row.size := by simpa using hrl
        obtain ⟨rfl, ho, -⟩ := sim_newCells hI h3 hf (c := row) (by rw [List.take_of_length_le (by omega)]; exact hrow) (by omega) (0, 0) ⟨rfl, hI.size _ (Nat.le_refl _), rfl⟩
        refine ⟨_, _, .slice (some ⟨w.heap.size, 0, none⟩) n m', ?_, .sl (L := ⟨w.heap.size, 0, row.size⟩) (off := 0) (addB_same _ _ _)
          ⟨fun _ => rfl, fun h => by unfold UNK at h; omega, fun h => by unfold UNK at h; omega, fun h => by unfold UNK at h; omega, g1⟩, ho⟩
        have w1 : IntKind.i64.wrap (Int.ofNat n) = (n : Int) := by
          simp only [IntKind.wrap, IntKind.bits, IntKind.signed, Int.ofNat_eq_natCast]
          have : (n : Int) % 2 ^ 64 = n := by omega
          simp only [this]; simp; omega
        have w2 : IntKind.i64.wrap (Int.ofNat m') = (m' : Int) := by
          simp only [IntKind.wrap, IntKind.bits, IntKind.signed, Int.ofNat_eq_natCast]
          have : (m' : Int) % 2 ^ 64 = m' := by omega
          simp only [this]; simp; omega
        have t1 : (decide ((m' : Int) < 0) || decide ((f.bytes : Int) * m' > 2 ^ 48)) = false := by
          simp only [Bool.or_eq_false_iff, decide_eq_false_iff_not]
          refine ⟨by omega, ?_⟩
          rw [hf2]
          have : (j.bytes : Int) * m' = ((m' * j.bytes : Nat) : Int) := by rw [Int.natCast_mul, Int.mul_comm]
          rw [this]; omega
        simp only [Instr.makeSlice, Sem.run_bind, rU hu, Result.andThen_ok, asInt, asIntOf, Sem.run_pure, hf1, w1, w2, t1]
        have t2 : (false || decide ((n : Int) < 0) || decide ((n : Int) > m')) = false := by
          simp only [Bool.false_or, Bool.or_eq_false_iff, decide_eq_false_iff_not]; omega
        have t3 : ((m' : Int)).toNat = m' := by omega
        have t4 : ((n : Int)).toNat = n := by omega
        simp only [t2, Bool.false_eq_true, if_false, Sem.run_bind, run_askRoom, Result.andThen_ok, rS htj, t3, t4]
        have e : ((Array.range (m' * j.size)).map fun i => (#[] : Array Value)[i % (#[] : Array Value).size]!) = row ∨ m' * j.size ≠ 0 := by
          by_cases h0 : m' * j.size = 0
          · left
            show _ = (Array.range (m' * j.size)).map fun i => j.zero.cells[i % j.zero.cells.size]!
            rw [h0]; simp
          · exact .inr h0
        split
        · rename_i h0
          rcases e with e | e
          · simp only [Sem.run_bind, Sem.run_pure, Result.andThen_ok, e]; rfl
          · exact absurd h0 e
        · simp only [Sem.run_bind, rZ htj, Sem.run_pure, Result.andThen_ok]; rfl
      · subst hm; exact (fail_some.1 h).elim
    · subst hm; exact (fail_some.1 h).elim
  · subst hm; exact (fail_some.1 h).elim

end
end
end Go.Ideal
