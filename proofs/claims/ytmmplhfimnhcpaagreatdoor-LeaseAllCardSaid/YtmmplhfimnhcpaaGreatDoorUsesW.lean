/- The walk through (*lease.Leases).Uses. -/
import Derived.Test.YtmmplhfimnhcpaaGreatDoorFitsW
import Derived.Test.YtmmplhfimnhcpaaGreatDoorUses
namespace Go.Proofs.YtmmplhfimnhcpaaGreatDoor
set_option linter.all false
set_option linter.unusedSimpArgs false
set_option linter.unusedVariables false
open Go Go.Ideal
set_option linter.unusedVariables false

set_option maxHeartbeats 2000000
set_option maxRecDepth 100000 in
theorem usesAt : UsesAt Tryz.prog 27 := by
  intro w dr dof bm es clock nm c h2 hb hold hnd hv hbig
  have hlt : bm < w.heap.size := (Array.getElem?_eq_some_iff.1 hb).1
  have hrg := run_range_map (P := Tryz.prog) w 152 3 68 bm es clock Tryz.underlying152 hb
  go_enter Tryz.func27, Tryz.ntmps27
  go_wp2
  go_loopw [4] (fun s w' => ∃ (w1 : World) (seen : Array Nat), Like w1 w ∧ w' = w1.alloc (.mapIter (some bm) clock seen clock) ∧ s = .int .i64 ((seenC c es.toList seen : Nat) : Int)) (fun _ w' => (leftOf es (w'.iterSeen w.heap.size)).size)
  case atStart => exact ⟨w, #[], Like.refl _, rfl, by rw [seenC_none]; rfl⟩
  case round =>
    obtain ⟨w1, seen, hal, rfl, rfl⟩ := hrel
    have hsz : w1.heap.size = w.heap.size := by rw [hal.heap]
    have hb1 : w1.heap[bm]? = some (.map es clock) := by rw [hal.heap]; exact hb
    have law := next_any w1 bm clock seen es hb1 hold
    rw [hsz] at law
    rcases law with ⟨h0, hrun⟩ | ⟨e, he, w2, hal2, hrun⟩
    · go_wp2
      go_ret
      refine ⟨?_, w1, _, hal, rfl⟩
      rw [← seenC_all c es seen h0]; rfl
    · obtain ⟨r, o, fr, fo, st, v1, v2, v3, v4, v5, v6⟩ := hv e (mem_left he).1
      rw [v1] at hrun
      have hsz2 : w2.heap.size = w.heap.size := by rw [hal2.heap, hal.heap]
      have hb2 : w2.heap[bm]? = some (.map es clock) := by rw [hal2.heap]; exact hb1
      have hen := run_entry_map (P := Tryz.prog) w2 bm clock seen es clock e hb2 (mem_left he).1 hnd
      rw [hsz2, v1] at hen
      have q2 : (w2.alloc (.mapIter (some bm) clock (seen.push e.born) clock)).cell? ⟨r, o, none⟩ = some (Value.pointer (some ⟨fr, fo, none⟩)) := by
        have hlt1 : r < w2.heap.size := by omega
        rw [cell_old w2 _ hlt1, ← v3]; simp only [World.cell?, hal2.heap, hal.heap]
      have q3 : (w2.alloc (.mapIter (some bm) clock (seen.push e.born) clock)).cell? ⟨fr, fo + 1, none⟩ = some (Value.string st) := by
        have hlt1 : fr < w2.heap.size := by omega
        rw [cell_old w2 _ hlt1, ← v5]; simp only [World.cell?, hal2.heap, hal.heap]
      have hpush := seenC_push c seen e (mem_left he).2 es.toList hnd (mem_left he).1
      have hle := seenC_le c (seen.push e.born) es.toList
      have hmeas : (leftOf es ((w2.alloc (.mapIter (some bm) clock (seen.push e.born) clock)).iterSeen w.heap.size)).size < (leftOf es ((w1.alloc (.mapIter (some bm) clock seen clock)).iterSeen w.heap.size)).size := by
        rw [← hsz2, World.iterSeen_alloc, hsz2, ← hsz, World.iterSeen_alloc]
        exact left_shrinks es seen e he
      by_cases hst : st = nm
      · subst hst
        rw [if_pos rfl] at v6
        go_wp2
        go_roundw
        case rel =>
          refine ⟨w2, seen.push e.born, hal2.trans hal, rfl, ?_⟩
          rw [hpush, v6]; rfl
        case measure => exact hmeas
      · rw [if_neg hst] at v6
        have hq : (st.toList == nm.toList) = false := by
          rw [toList_eq, toList_eq]
          obtain ⟨⟨x⟩⟩ := st; obtain ⟨⟨y⟩⟩ := nm
          simp only [bl] at *
          simpa using hst
        go_wp2
        go_roundw
        case rel =>
          refine ⟨w2, seen.push e.born, hal2.trans hal, rfl, ?_⟩
          rw [hpush, v6]; rfl
        case measure => exact hmeas
end Go.Proofs.YtmmplhfimnhcpaaGreatDoor
