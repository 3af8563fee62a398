/- The one body-less function: two rows of bytes compared. And the tables. -/
import Derived.Test.YtdkofgkmhgmmmaaGreatDoorSimR
import Derived.Test.YtdkofgkmhgmmmaaGreatDoorEnv
import Derived.Laws.Externs
namespace Go.Ideal
set_option linter.all false
set_option linter.unusedSimpArgs false
set_option linter.unusedVariables false
noncomputable section
open Go Go.RowKit
set_option maxHeartbeats 1000000

section
variable {P : Program} {E : Env} {N0 : Nat → Prop} {β : Bij} {w : World} {s s' : S}

theorem run_loadBytes {r : Nat} {c : Array Value} {e : TypeId} {fz : Nat × Nat} (h : w.heap[r]? = some (.cells c e fz)) :
    ∀ (ys : List Value) (bs : List UInt8) (k : Nat) (acc : ByteArray), byteL ys = some bs → (∀ i v, ys[i]? = some v → c[k + i]? = some v) →
      (Extern.Bytes.loadBytes ⟨r, k, none⟩ ys.length acc).run P w = .ok ⟨⟨acc.data.toList ++ bs⟩⟩ w
  | [], bs, k, acc, hb, _ => by
    simp only [byteL] at hb; cases hb
    simp [Extern.Bytes.loadBytes]
  | x :: ys, bs, k, acc, hb, hc => by
    unfold byteL at hb
    split at hb
    · rename_i heq; cases heq
    · rename_i m r' heq
      cases heq
      cases hq : byteL ys with
      | none => rw [hq] at hb; cases hb
      | some l =>
        rw [hq] at hb; cases hb
        have h0 : c[k]? = some (.int .u8 m) := hc 0 _ rfl
        simp only [List.length_cons, Extern.Bytes.loadBytes, Sem.run_bind, rLoad h h0, Result.andThen_ok]
        have ih := run_loadBytes h ys l (k + 1) (acc.push m.toNat.toUInt8) hq fun i v hi => by
          have := hc (i + 1) v (by simpa using hi)
          rw [Nat.add_assoc, Nat.add_comm 1 i]; exact this
        have ea : (⟨r, k, none⟩ : Addr).add 1 = ⟨r, k + 1, none⟩ := rfl
        rw [ea, ih]
        simp [ByteArray.push]
    · cases hb

theorem sim_bytesOf (hI : Inv N0 β s.h.get w) {n c : Nat} {a : Option Addr} {x' : Value} {ys : List Value} {bs : List UInt8} (h : firstM n 1 (.slice a n c) s = some (ys, s'))
    (hb : byteL ys = some bs) (hx : V β (.slice a n c) x') : (Extern.Bytes.bytesOf x').run P w = .ok ⟨⟨bs⟩⟩ w ∧ s'.h = s.h ∧ s'.nx = s.nx := by
  cases hx with
  | nilsl =>
    simp only [firstM] at h
    obtain ⟨rfl, rfl⟩ := pure_some.1 h
    simp only [byteL] at hb; cases hb
    exact ⟨rfl, rfl, rfl⟩
  | slz A A' h1 h2 =>
    simp only [firstM, Nat.zero_mul] at h
    obtain ⟨rfl, rfl⟩ := pure_some.1 h
    simp only [byteL] at hb; cases hb
    exact ⟨rfl, rfl, rfl⟩
  | sl0 A A' =>
    simp only [firstM, Nat.zero_mul] at h
    obtain ⟨rfl, rfl⟩ := pure_some.1 h
    simp only [byteL] at hb; cases hb
    exact ⟨rfl, rfl, rfl⟩
  | sl hL hcap =>
    rename_i b off cap' L
    simp only [firstM] at h
    cases hn : Nat.beq (n * 1) 0 with
    | true =>
      rw [hn] at h
      obtain ⟨rfl, rfl⟩ := pure_some.1 h
      simp only [byteL] at hb; cases hb
      have : n = 0 := by have := Nat.eq_of_beq_eq_true hn; omega
      subst this
      exact ⟨rfl, rfl, rfl⟩
    | false =>
      rw [hn] at h
      have hle : Nat.ble n n = true := ble_iff.2 (Nat.le_refl _)
      rw [hle] at h
      simp only [cond_true, cond_false] at h
      obtain ⟨o, s1, h1, h2⟩ := bind_some.1 h
      obtain ⟨_, hg, rfl⟩ := rd_some.1 h1
      cases o with
      | cells xs e k =>
        obtain ⟨_, s2, h3, h4⟩ := bind_some.1 h2
        obtain ⟨hlen, rfl⟩ := guardM_some.1 h3
        obtain ⟨rfl, rfl⟩ := pure_some.1 h4
        have hlen := Nat.eq_of_beq_eq_true hlen
        obtain ⟨cc, fz, q1, q2, q3, q4, q5⟩ := hI.cells hg hL
        refine ⟨?_, rfl, rfl⟩
        have cells : ∀ i v, ((xs.drop off).take (n * 1))[i]? = some v → v = v ∧ cc[L.sh + off + i]? = some v := by
          intro i v hi
          refine ⟨rfl, ?_⟩
          have hi2 : xs[off + i]? = some v := by
            rw [List.getElem?_take] at hi
            split at hi
            · rw [List.getElem?_drop] at hi; exact hi
            · cases hi
          obtain ⟨v', r1, r2⟩ := q4 _ _ hi2
          have hint : ∃ m, v = .int .u8 m := by
            have : ∀ (l : List Value) (bs : List UInt8) (i : Nat), byteL l = some bs → l[i]? = some v → ∃ m, v = .int .u8 m := by
              intro l
              induction l with
              | nil => intro bs i _ h; simp at h
              | cons x r ih =>
                intro bs i hb hi
                unfold byteL at hb
                split at hb
                · rename_i heq; cases heq
                · rename_i m r' heq
                  cases heq
                  cases i with
                  | zero => cases hi; exact ⟨m, rfl⟩
                  | succ i =>
                    cases hq : byteL r with
                    | none => rw [hq] at hb; cases hb
                    | some l => exact ih l i hq hi
                · cases hb
            exact this _ _ i hb hi
          obtain ⟨m, rfl⟩ := hint
          cases r2
          have : L.sh + off + i = L.sh + (off + i) := by omega
          rw [this]; exact r1
        have := run_loadBytes (P := P) q1 ((xs.drop off).take (n * 1)) bs (L.sh + off) .empty hb fun i v hi => (cells i v hi).2
        rw [hlen, Nat.mul_one] at this
        simpa [Extern.Bytes.bytesOf] using this
      | _ => exact (fail_some.1 h2).elim

theorem ba_get (l : List UInt8) (i : Nat) : (⟨⟨l⟩⟩ : ByteArray)[i]! = (l[i]?).getD 0 := by
  by_cases h : i < l.length
  · have h' : i < (⟨⟨l⟩⟩ : ByteArray).size := h
    rw [getElem!_pos (⟨⟨l⟩⟩ : ByteArray) i h']
    simp [h]; rfl
  · have h' : ¬ i < (⟨⟨l⟩⟩ : ByteArray).size := h
    rw [getElem!_neg (⟨⟨l⟩⟩ : ByteArray) i h']
    simp [h]
    rfl

/-- The comparison, on rows. -/
def cmpL (a b : List UInt8) : Int :=
  match (List.range (min a.length b.length)).find? fun i => (a[i]?).getD 0 != (b[i]?).getD 0 with
  | some i => if (a[i]?).getD 0 < (b[i]?).getD 0 then -1 else 1
  | none => if a.length < b.length then -1 else if a.length > b.length then 1 else 0

theorem cmp_list (a b : List UInt8) : Extern.BytealgCompare.cmp ⟨⟨a⟩⟩ ⟨⟨b⟩⟩ = cmpL a b := by
  unfold Extern.BytealgCompare.cmp cmpL
  simp only [ba_get]
  rfl

theorem cmpL_cons (x y : UInt8) (a b : List UInt8) : cmpL (x :: a) (y :: b) = if x = y then cmpL a b else if x < y then -1 else 1 := by
  unfold cmpL
  have hm : min (x :: a).length (y :: b).length = min a.length b.length + 1 := by simp
  rw [hm, List.range_succ_eq_map, List.find?_cons]
  by_cases e : x = y
  · subst e
    simp only [List.getElem?_cons_zero, Option.getD_some, bne_self_eq_false, if_true, List.find?_map]
    simp only [Function.comp_def, List.getElem?_cons_succ]
    cases (List.range (min a.length b.length)).find? fun i => (a[i]?).getD 0 != (b[i]?).getD 0 with
    | none => simp
    | some i => simp
  · have e2 : (x != y) = true := by simp [e]
    simp [e, e2]

theorem cmpL_eq : ∀ (a b : List UInt8), cmpL a b = cmpBytes a b
  | [], [] => rfl
  | [], y :: b => by simp [cmpL, cmpBytes, bytesLt]
  | x :: a, [] => by simp [cmpL, cmpBytes, bytesLt, bytesEq]
  | x :: a, y :: b => by
    rw [cmpL_cons, cmpL_eq a b]
    unfold cmpBytes
    rw [bytesLt_eq, bytesLt_eq, bytesEq_iff, bytesEq_iff]
    by_cases e : x = y
    · subst e
      simp [Op.bytesLess]
    · rw [if_neg e]
      have hne : (x :: a == y :: b) = false := by simp [e]
      rw [hne]
      by_cases hlt : x < y
      · simp [Op.bytesLess, hlt]
      · have e2 : (x == y) = false := by simp [e]
        simp [Op.bytesLess, hlt, e2]

theorem ext_compare {f : FuncId} {fn : Func} (hf : P.funcs[f]? = some fn) (hname : (fn.name == "runtime.NumGoroutine") = false) (hb : fn.body.isNone = true)
    (hn : Extern.findNext fn = none) (he : Extern.find fn = some Extern.BytealgCompare.compare) : ExtOK P N0 f compareM := by
  intro l s v s' β w l' h hI hfr hl
  unfold compareM at h
  split at h
  · rename_i a n c b m d
    obtain ⟨ys, s1, h1, h⟩ := bind_some.1 h
    obtain ⟨bs, hbs, h⟩ := lift_bind h
    obtain ⟨zs, s2, h2, h⟩ := bind_some.1 h
    obtain ⟨cs, hcs, h⟩ := lift_bind h
    obtain ⟨rfl, rfl⟩ := pure_some.1 h
    obtain ⟨l'⟩ := l'
    cases hl with
    | cons hx hr => cases hr with
      | cons hy hr =>
        cases hr
        obtain ⟨r1, e1, e2⟩ := sim_bytesOf (P := P) hI h1 hbs hx
        have hI1 : Inv N0 β s1.h.get w := by rw [e1]; exact hI
        obtain ⟨r2, e3, e4⟩ := sim_bytesOf (P := P) hI1 h2 hcs hy
        refine ⟨β, w, .int .i64 (cmpBytes bs cs), ?_, .int _ _, Out.same hI (by rw [e3, e1])⟩
        rw [run_callFunc_extern hf hname hb hn he]
        have ec : ∀ a b : Value, Extern.BytealgCompare.compare #[a, b] =
            (do pure (goInt (Extern.BytealgCompare.cmp (← Extern.Bytes.bytesOf a) (← Extern.Bytes.bytesOf b)))) := fun _ _ => rfl
        simp only [ec, Sem.run_bind, r1, r2, Result.andThen_ok, Sem.run_pure, cmp_list, cmpL_eq]
        rfl
  · exact (fail_some.1 h).elim

theorem mkTI_ok {t : TypeId} {i : TI} (h : mkTI P t = some i) : TIOK P t i := by
  unfold mkTI at h
  cases hi : P.info? t with
  | none => rw [hi] at h; cases h
  | some info =>
    cases hu : P.underlying t with
    | none => rw [hi, hu] at h; cases h
    | some d =>
      rw [hi, hu] at h; simp only at h
      cases hz : info.zero with
      | none => rw [hz] at h; cases h
      | some z =>
        rw [hz] at h; simp only at h
        cases hc : (cellsL z).all simple && Nat.beq (cellsL z).length info.size with
        | false => rw [hc] at h; cases h
        | true =>
          rw [hc] at h; simp only [cond_true] at h
          simp only [Bool.and_eq_true] at hc
          have hlen := Nat.eq_of_beq_eq_true hc.2
          split at h
          · rename_i fs
            cases hfs : fieldsOf P fs.toList with
            | none => rw [hfs] at h; cases h
            | some l =>
              rw [hfs] at h; cases h
              exact ⟨hu, ⟨info, hi, rfl, rfl, hz⟩, hc.1, hlen, fun fields e => by cases e; exact hfs, fun h => h⟩
          · rename_i hns
            cases h
            exact ⟨hu, ⟨info, hi, rfl, rfl, hz⟩, hc.1, hlen, fun fields e => absurd e (hns fields), fun h => h⟩

theorem mkEnv_ok {glob : Nat → Bool} {intr ext : FuncId → Option (List Value → M Value)} (hm : P.follows .mixedOrders = true) : EnvOK P (mkEnv P glob intr ext) :=
  ⟨fun _ _ h => mkTI_ok h, fun _ _ h => h, hm⟩

end
end
end Go.Ideal
