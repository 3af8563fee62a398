/- The walk through (*disk.Disk).fits. -/
import Derived.Test.YtdkofgkmhgmmmaaGreatDoorProg
import Derived.Test.YtdkofgkmhgmmmaaGreatDoorFits
import Derived.WalkKit
import Derived.ProofKit
import Derived.LoopTactic
import Derived.LoopN
import Derived.Laws.IdiomRangeMap
namespace Go.Proofs.YtdkofgkmhgmmmaaGreatDoor
set_option linter.all false
set_option linter.unusedSimpArgs false
set_option linter.unusedVariables false
open Go Go.Ideal
set_option linter.unusedVariables false

/-- The next entry, whichever it is. -/
theorem next_any (w : World) (bm clock : Nat) (seen : Array Nat) (es : Array MapEntry) (hb : w.heap[bm]? = some (.map es clock)) (hold : ∀ x ∈ es.toList, x.born < clock) :
    ((leftOf es seen).size = 0 ∧ ∀ ty, (Instr.next (.pointer (some ⟨w.heap.size, 0, none⟩)) false ty).run Tryz.prog (w.alloc (.mapIter (some bm) clock seen clock)) = .ok (.tuple #[.bool false]) (w.alloc (.mapIter (some bm) clock seen clock))) ∨
    ∃ e ∈ (leftOf es seen).toList, ∃ w1 : World, Like w1 w ∧ ∀ ty, (Instr.next (.pointer (some ⟨w.heap.size, 0, none⟩)) false ty).run Tryz.prog (w.alloc (.mapIter (some bm) clock seen clock)) =
      .ok (.tuple #[.bool true, e.key, e.val]) (w1.alloc (.mapIter (some bm) clock (seen.push e.born) clock)) := by
  have hlt : bm < w.heap.size := (Array.getElem?_eq_some_iff.1 hb).1
  have g1 : (getObj w.heap.size).run Tryz.prog (w.alloc (.mapIter (some bm) clock seen clock)) = .ok (.mapIter (some bm) clock seen clock) (w.alloc (.mapIter (some bm) clock seen clock)) := by
    simp only [getObj, Sem.run, heap_alloc_new]
  have g2 : (getObj bm).run Tryz.prog (w.alloc (.mapIter (some bm) clock seen clock)) = .ok (.map es clock) (w.alloc (.mapIter (some bm) clock seen clock)) := by
    simp [getObj, Sem.run, heap_alloc_old w _ hlt, hb]
  have g3 := next_test_false seen es clock clock hold (Nat.le_refl _)
  have o1 : (leftOf es seen).filter (fun e => decide (e.born < clock)) = leftOf es seen := Array.filter_eq_self.2 fun x hx => by
    simpa using hold x (mem_left (by simpa using hx)).1
  have o2 : (leftOf es seen).filter (fun e => decide (e.born ≥ clock)) = #[] := by
    rw [Array.filter_eq_empty_iff]
    intro x hx
    have := hold x (mem_left (by simpa using hx)).1
    simp; omega
  have hF : (es.filter fun e => !seen.contains e.born) = leftOf es seen := rfl
  generalize hL : leftOf es seen = F at *
  by_cases h0 : F.size = 0
  · refine .inl ⟨h0, fun ty => ?_⟩
    have : F = #[] := Array.eq_empty_of_size_eq_zero h0
    subst this
    simp only [Instr.next, Sem.run_bind, g1, g2, Result.andThen_ok, g3, Bool.false_eq_true, if_false, hF]
    simp [Question.forced]
  · have hne : F.isEmpty = false := by simp [Array.isEmpty, h0]
    have hset : ∀ (w1 : World) (o : Obj), w1.heap = w.heap → (setObj w.heap.size o).run Tryz.prog (w1.alloc (.mapIter (some bm) clock seen clock)) = .ok () (w1.alloc o) := by
      intro w1 o hh
      simp only [setObj, Sem.run]
      have : (w1.alloc (.mapIter (some bm) clock seen clock)).heap[w.heap.size]? = some (.mapIter (some bm) clock seen clock) := by rw [← hh]; exact heap_alloc_new _ _
      rw [this]
      show Result.ok () ({ w1.alloc (.mapIter (some bm) clock seen clock) with heap := (w1.heap.push _).setIfInBounds w.heap.size o } : World) = _
      have hp : (w1.heap.push (.mapIter (some bm) clock seen clock)).setIfInBounds w.heap.size o = w1.heap.push o := by
        rw [← hh]
        apply Array.toList_inj.1
        simp
      rw [hp]; rfl
    obtain ⟨j, w1, hj, hal, hrun⟩ : ∃ (j : Nat) (w1 : World), j < F.size ∧ Like w1 w ∧ (choose (Question.mapNext F.size)).run Tryz.prog (w.alloc (.mapIter (some bm) clock seen clock)) = .ok j (w1.alloc (.mapIter (some bm) clock seen clock)) := by
      by_cases hf : F.size ≤ 1
      · exact ⟨0, w, by omega, Like.refl _, by simp [run_choose, Question.forced, hf]⟩
      · refine ⟨w.tape w.drawn (.mapNext F.size) % F.size, w.drew, Nat.mod_lt _ (show 0 < F.size by omega), ⟨rfl, rfl, rfl, rfl⟩, ?_⟩
        rw [run_choose]
        simp only [Question.forced, decide_eq_true_eq, hf, if_false, Question.cut]
        rfl
    refine .inr ⟨F[j], by simp, w1, hal, fun ty => ?_⟩
    simp only [Instr.next, Sem.run_bind, g1, g2, Result.andThen_ok, g3, Bool.false_eq_true, if_false, hF, o1, o2, hne, Array.append_empty, Array.empty_append, Array.size_map, hrun, Array.getElem?_map, Array.getElem?_eq_getElem hj, Option.map_some, hset w1 _ hal.heap, Sem.run_pure]

theorem cell_old (w : World) (x : Obj) {r o : Nat} (h : r < w.heap.size) : (w.alloc x).cell? ⟨r, o, none⟩ = w.cell? ⟨r, o, none⟩ := by
  simp only [World.cell?, heap_alloc_old w x h]

/-- What is added for the entries that have come. -/
def seenC (c : MapEntry → Nat) : List MapEntry → Array Nat → Nat
  | [], _ => 0
  | x :: l, seen => (if seen.contains x.born then c x else 0) + seenC c l seen

theorem seenC_none (c : MapEntry → Nat) : ∀ l, seenC c l #[] = 0
  | [] => rfl
  | x :: l => by simp [seenC, seenC_none c l]

theorem seenC_le (c : MapEntry → Nat) (seen : Array Nat) : ∀ l : List MapEntry, seenC c l seen ≤ (l.map c).sum
  | [] => Nat.le_refl _
  | x :: l => by
    have := seenC_le c seen l
    simp only [seenC, List.map_cons, List.sum_cons]
    split <;> omega

theorem seenC_other (c : MapEntry → Nat) (seen : Array Nat) (b : Nat) : ∀ l : List MapEntry, b ∉ l.map (·.born) → seenC c l (seen.push b) = seenC c l seen
  | [], _ => rfl
  | x :: l, h => by
    simp only [List.map_cons, List.mem_cons, not_or] at h
    have : (x.born == b) = false := by simpa using fun e => h.1 e.symm
    simp only [seenC, contains_push, this, Bool.or_false, seenC_other c seen b l h.2]

theorem seenC_push (c : MapEntry → Nat) (seen : Array Nat) (e : MapEntry) (hs : seen.contains e.born = false) : ∀ l : List MapEntry, (l.map (·.born)).Nodup → e ∈ l → seenC c l (seen.push e.born) = seenC c l seen + c e
  | x :: l, hn, he => by
    have hn' := List.nodup_cons.1 hn
    by_cases hx : x = e
    · subst hx
      simp only [seenC, contains_push, hs, beq_self_eq_true, Bool.or_true, if_true, Bool.false_eq_true, if_false, seenC_other c seen x.born l hn'.1]
      omega
    · have hm : e ∈ l := by
        rcases List.mem_cons.1 he with h | h
        · exact absurd h.symm hx
        · exact h
      have : (x.born == e.born) = false := by
        have : x.born ≠ e.born := fun h => hn'.1 (List.mem_map.2 ⟨e, hm, h.symm⟩)
        simpa using this
      simp only [seenC, contains_push, this, Bool.or_false, seenC_push c seen e hs l hn'.2 hm]
      omega

theorem seenC_all (c : MapEntry → Nat) (es : Array MapEntry) (seen : Array Nat) (h : (leftOf es seen).size = 0) : seenC c es.toList seen = (es.toList.map c).sum := by
  have := all_seen es seen h
  revert this
  generalize es.toList = l
  induction l with
  | nil => intro _; rfl
  | cons x l ih =>
    intro h
    simp only [seenC, h x List.mem_cons_self, if_true, List.map_cons, List.sum_cons, ih fun y hy => h y (List.mem_cons_of_mem _ hy)]

set_option maxHeartbeats 2000000
set_option maxRecDepth 100000 in
theorem fitsAt : FitsAt Tryz.prog 237 115 := by
  intro w dr dof bm es clock sv size room c h1 h2 hb hold hnd hv hbig
  have hlt : bm < w.heap.size := (Array.getElem?_eq_some_iff.1 hb).1
  have hlr : dr < w.heap.size := by
    rcases Nat.lt_or_ge dr w.heap.size with h | h
    · exact h
    · simp [World.cell?, Array.getElem?_eq_none h] at h1
  have hrg := run_range_map (P := Tryz.prog) w 78 9 115 bm es clock Tryz.underlying78 hb
  go_enter Tryz.func237, Tryz.ntmps237
  go_wp2
  go_loopw [2] (fun s w' => ∃ (w1 : World) (seen : Array Nat), Like w1 w ∧ w' = w1.alloc (.mapIter (some bm) clock seen clock) ∧ s = .int .i64 ((size + seenC c es.toList seen : Nat) : Int)) (fun _ w' => (leftOf es (w'.iterSeen w.heap.size)).size)
  case atStart => exact ⟨w, #[], Like.refl _, rfl, by rw [seenC_none]; rfl⟩
  case round =>
    obtain ⟨w1, seen, hal, rfl, rfl⟩ := hrel
    have hsz : w1.heap.size = w.heap.size := by rw [hal.heap]
    have hb1 : w1.heap[bm]? = some (.map es clock) := by rw [hal.heap]; exact hb
    have law := next_any w1 bm clock seen es hb1 hold
    rw [hsz] at law
    rcases law with ⟨h0, hrun⟩ | ⟨e, he, w2, hal2, hrun⟩
    · have q1 : (w1.alloc (.mapIter (some bm) clock seen clock)).cell? ⟨dr, dof, none⟩ = some (Value.int .i64 room) := by
        have hlt1 : dr < w1.heap.size := by omega
        rw [cell_old w1 _ hlt1, ← h1]; simp only [World.cell?, hal.heap]
      go_wp2
      go_ret
      refine ⟨?_, w1, _, hal, rfl⟩
      rw [← seenC_all c es seen h0]
      simp
    · obtain ⟨r, o, base, len, cap, b, v1, v2, v3, v4, v5⟩ := hv e (mem_left he).1
      rw [v1] at hrun
      have hsz2 : w2.heap.size = w.heap.size := by rw [hal2.heap, hal.heap]
      have hb2 : w2.heap[bm]? = some (.map es clock) := by rw [hal2.heap]; exact hb1
      have hen := run_entry_map (P := Tryz.prog) w2 bm clock seen es clock e hb2 (mem_left he).1 hnd
      rw [hsz2, v1] at hen
      have hcmp := v4 w2 (.mapIter (some bm) clock (seen.push e.born) clock) (hal2.trans hal)
      have q2 : (w2.alloc (.mapIter (some bm) clock (seen.push e.born) clock)).cell? ⟨r, o, none⟩ = some (Value.slice base len cap) := by
        have hlt1 : r < w2.heap.size := by omega
        rw [cell_old w2 _ hlt1, ← v3]; simp only [World.cell?, hal2.heap, hal.heap]
      have hcmp2 : (binOp .neq 115 (.pointer (some ⟨r, o, none⟩)) sv).run Tryz.prog (w2.alloc (.mapIter (some bm) clock (seen.push e.born) clock)) = .ok (.bool (!b)) (w2.alloc (.mapIter (some bm) clock (seen.push e.born) clock)) := by
        rw [Ideal.binOp_eql (.inr rfl) rfl]
        simp only [Sem.run_bind, hcmp, Result.andThen_ok, Sem.run_pure]
        rfl
      have hpush := seenC_push c seen e (mem_left he).2 es.toList hnd (mem_left he).1
      have hle := seenC_le c (seen.push e.born) es.toList
      have hmeas : (leftOf es ((w2.alloc (.mapIter (some bm) clock (seen.push e.born) clock)).iterSeen w.heap.size)).size < (leftOf es ((w1.alloc (.mapIter (some bm) clock seen clock)).iterSeen w.heap.size)).size := by
        rw [← hsz2, World.iterSeen_alloc, hsz2, ← hsz, World.iterSeen_alloc]
        exact left_shrinks es seen e he
      cases b
      · simp only [Bool.not_false] at hcmp2
        simp only [Bool.false_eq_true, if_false] at v5
        go_wp2
        go_roundw
        case rel =>
          refine ⟨w2, seen.push e.born, hal2.trans hal, rfl, ?_⟩
          have e2 : (size : Int) + (seenC c es.toList seen : Int) + (len : Int) = ((size + seenC c es.toList (seen.push e.born) : Nat) : Int) := by omega
          rw [e2]
        case measure => exact hmeas
      · simp only [Bool.not_true] at hcmp2
        simp only [if_true] at v5
        go_wp2
        go_roundw
        case rel =>
          refine ⟨w2, seen.push e.born, hal2.trans hal, rfl, ?_⟩
          rw [hpush, v5]; rfl
        case measure => exact hmeas
end Go.Proofs.YtdkofgkmhgmmmaaGreatDoor
