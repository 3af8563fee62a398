/- A law's call with one row of numbers among its arguments: the row is a block that is only read. -/
import Derived.Test.YtmfoipjfnjmbiaaGreatDoorLayer
namespace Go.Ideal
set_option linter.all false
set_option linter.unusedSimpArgs false
set_option linter.unusedVariables false
noncomputable section
open Go Go.RowKit
set_option maxHeartbeats 1000000

/-- The start: one block, only read. -/
def SR (xs : List Value) (e : TypeId) : S := ⟨(Tr.nil : Tr Blk).set depth 0 (.cells xs e .ro), 1, 0, 0⟩

def roB (b off tot : Nat) : Bij := fun n => if n = 0 then some ⟨b, off, tot⟩ else none

/-- The row's own value. -/
theorem V.ro {b off tot len cap : Nat} (hc : len ≤ cap) (hu : cap < UNK) : V (roB b off tot) (.slice (some ⟨0, 0, none⟩) len cap) (.slice (some ⟨b, off, none⟩) len cap) := by
  have h : V (roB b off tot) (.slice (some ⟨0, 0, none⟩) len cap) (.slice (some ⟨b, off + 0, none⟩) len cap) :=
    .sl (L := ⟨b, off, tot⟩) (off := 0) rfl ⟨fun _ => rfl, fun h => by omega, fun h => by omega, fun h => by omega, hc⟩
  exact h

section
variable {P : Program} {E : Env}

theorem run_law_ro (hG : Good P E) {w : World} {b off : Nat} {c : Array Value} {e : TypeId} {fz : Nat × Nat} (hb : w.heap[b]? = some (.cells c e fz)) {xs : List Value}
    (hx : ∀ (i : Nat) v, xs[i]? = some v → c[off + i]? = some v) (hs : xs.all simple = true) (hlen : off + xs.length ≤ c.size) {k : Nat} {f : FuncId} {l : List Value} {l' : Array Value} {v : Value} {s' : S}
    (h : callM E k f l (SR xs e) = some (v, s')) (hl : VL (roB b off c.size) l l'.toList) :
    Calls P f l' w fun e w' => ∃ v', e = .returned v' ∧ (∃ β, V β v v') ∧ RowKit.Below w.heap.size w w' := by
  have hI : Inv (fun k => w.heap.size ≤ k) (roB b off c.size) (SR xs e).h.get w := by
    refine ⟨fun n o hn => ?_, fun b1 b2 o1 o2 L1 L2 hne h1 h2 _ _ _ _ _ => ?_, fun _ h => h⟩
    · simp only [SR, Tr.get_set, Tr.get_nil] at hn
      by_cases h0 : 0 = n
      · subst h0
        rw [if_pos rfl] at hn; cases hn
        refine ⟨⟨b, off, c.size⟩, rfl, c, fz, hb, rfl, hlen, fun i u hi => ⟨u, hx i u hi, V.of_simple ?_⟩, trivial⟩
        exact List.all_eq_true.1 hs u (List.mem_of_getElem? hi)
      · rw [if_neg h0] at hn; cases hn
    · simp only [SR, Tr.get_set, Tr.get_nil] at h1 h2
      by_cases g1 : 0 = b1
      · by_cases g2 : 0 = b2
        · exact absurd (g1.symm.trans g2) hne
        · rw [if_neg g2] at h2; cases h2
      · rw [if_neg g1] at h1; cases h1
  have hf : Fresh (roB b off c.size) (SR xs e).nx s'.nx := fun n h1 _ => by
    have h1 : 1 ≤ n := h1
    show (if n = 0 then _ else none) = none
    rw [if_neg (by omega)]
  refine (sim_call hG.env (hG.link _) hG.resp k f l (SR xs e) v s' _ w l' h hI hf (fun g hg' => by rw [hG.glob g] at hg'; cases hg') hl).2.mono ?_
  rintro e w' ⟨v', he, β, hv, ho⟩
  exact ⟨v', he, ⟨β, hv⟩, ho.below.num⟩

/-! a piece of code, cut in two -/
theorem exec_seq {call : CallM} {n k : Nat} {a b : Code} {tm tm1 : Tr Value} {s s1 : S} (h : exec E call n k a tm s = some ((.normal, tm1), s1)) :
    exec E call n (k + 1) (.seq a b) tm s = exec E call n k b tm1 s1 := by
  rw [exec_succ]
  show (exec E call n k a tm >>= _) s = _
  show M.bind _ _ s = _
  unfold M.bind
  rw [h]

theorem exec_cond {call : CallM} {n k : Nat} {c : Operand} {a b : Code} {tm : Tr Value} {s : S} {t : Bool} (h : evalI E tm c = some (.bool t)) :
    exec E call n (k + 1) (.cond c a b) tm s = (if t then exec E call n k a tm s else exec E call n k b tm s) := by
  rw [exec_succ]
  simp only [execF, xCond, h]
  cases t <;> rfl

end
end
end Go.Ideal
