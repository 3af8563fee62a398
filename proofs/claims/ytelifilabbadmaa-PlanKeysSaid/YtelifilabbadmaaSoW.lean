/- The walk through slices.SortFunc at rows of changes, by the library's own contract. -/
import Derived.Test.YtelifilabbadmaaSo
import Derived.Test.YtelifilabbadmaaSoL
import Derived.Test.YtelifilabbadmaaPz
import Derived.WalkKit
import Derived.ProofKit
namespace Go.Proofs.Ytelifilabbadmaa
set_option linter.all false
set_option linter.unusedSimpArgs false
set_option linter.unusedVariables false
open Go Go.Ideal Go.Shelf Go.Sort
set_option linter.unusedVariables false
set_option maxHeartbeats 2000000
set_option maxRecDepth 100000

theorem hlenC (n : Nat) (W : World) (h : n ≤ 12) : Calls Try.prog 42 #[.int .u64 n] W fun e w' => (∃ l : Int, e = .returned (.int .i64 l)) ∧ w' = W :=
  (Any.bits_Len Try.bitsLen n W (by omega) (by omega)).mono fun _ _ ⟨he, hw⟩ => ⟨⟨_, he⟩, hw⟩

/-- The core without a body. -/
theorem core_run {W : World} {k1 k2 : Value} {a b : List UInt8} (r1 : (Extern.Bytes.bytesOf k1).run Try.prog W = .ok (mkS a) W) (r2 : (Extern.Bytes.bytesOf k2).run Try.prog W = .ok (mkS b) W) :
    (callFunc 43 #[k1, k2]).run Try.prog W = .ok (.value (.int .i64 (cmpBytes a b))) W := by
  rw [run_callFunc_extern Try.func43 (by kernel_rfl) (by kernel_rfl) (by kernel_rfl) (show Extern.find Try.f43 = some Extern.BytealgCompare.compare by kernel_rfl)]
  have ec : ∀ a b : Value, Extern.BytealgCompare.compare #[a, b] =
      (do pure (goInt (Extern.BytealgCompare.cmp (← Extern.Bytes.bytesOf a) (← Extern.Bytes.bytesOf b)))) := fun _ _ => rfl
  simp only [ec, Sem.run_bind, r1, r2, Result.andThen_ok, Sem.run_pure]
  have : Extern.BytealgCompare.cmp (mkS a) (mkS b) = cmpBytes a b := by unfold mkS; rw [cmp_list, cmpL_eq]
  rw [this]; rfl

theorem compareC {W : World} {k1 k2 : Value} {a b : List UInt8} (r1 : (Extern.Bytes.bytesOf k1).run Try.prog W = .ok (mkS a) W) (r2 : (Extern.Bytes.bytesOf k2).run Try.prog W = .ok (mkS b) W) :
    Calls Try.prog 33 #[k1, k2] W fun e w' => e = .returned (.int .i64 (cmpBytes a b)) ∧ w' = W := by
  have hcon := core_run r1 r2
  go_enter Try.func33, Try.ntmps33
  go_wp2
  go_ret
  exact ⟨rfl, rfl⟩

theorem cmpC (k1 v1 o1 k2 v2 o2 : Value) (W : World) (c : Int) (hcon : ∀ x y, Calls Try.prog 33 #[k1, k2] ((W.alloc x).alloc y) fun e w' => e = .returned (.int .i64 c) ∧ w' = (W.alloc x).alloc y) :
    Calls Try.prog 32 #[.agg #[k1, v1, o1], .agg #[k2, v2, o2]] W fun e w' => e = .returned (.int .i64 c) ∧ ∃ q os', w' = grow (W.drewN q) os' := by
  go_enter Try.func32, Try.ntmps32
  go_wp2_with (go_at_call 33; refine (hcon _ _).mono ?_; rintro e w' ⟨rfl, rfl⟩)
  go_ret
  exact ⟨rfl, 0, _, by rw [alloc_eq_grow, alloc_eq_grow, grow_grow]; rfl⟩

theorem sortWorld_same {α : Type} [Inhabited α] (enc : α → List Value) (w : World) (blk off m : Nat) (dk : Array α) (os : Array Obj) : SameBut blk w (sortWorldK enc 3 w blk off m dk os) := by
  refine ⟨rfl, rfl, rfl, ?_, fun r hr hlt => ?_⟩
  · show w.heap.size ≤ ((putRowK enc 3 (Sort.ahead w m) blk off dk).heap ++ os).size
    rw [Array.size_append]
    show w.heap.size ≤ (w.heap.modify blk _).size + _
    rw [Array.size_modify]; omega
  · show ((putRowK enc 3 (Sort.ahead w m) blk off dk).heap ++ os)[r]? = _
    have hs : (putRowK enc 3 (Sort.ahead w m) blk off dk).heap.size = w.heap.size := by
      show (w.heap.modify blk _).size = _
      rw [Array.size_modify]
    rw [Array.getElem?_append_left (by rw [hs]; exact hlt)]
    show (w.heap.modify blk _)[r]? = _
    rw [Array.getElem?_modify, if_neg (fun e => hr e.symm)]

theorem _root_.Go.Ideal.SameBut.alloc {blk : Nat} {w W : World} (h : SameBut blk w W) (o : Obj) : SameBut blk w (W.alloc o) := by
  refine ⟨h.os, h.tape, h.output, ?_, fun r hr hlt => ?_⟩
  · show w.heap.size ≤ (W.heap.push o).size
    have := h.size
    rw [Array.size_push]; omega
  · show (W.heap.push o)[r]? = _
    have := h.size
    rw [Array.getElem?_push, if_neg (by omega)]
    exact h.block r hr hlt

noncomputable def nilR : Option (Value × S) := callM pE0 100 31 [.slice none 0 0, .func (.func 32) ⟨[]⟩ ⟨[]⟩] ⟨.nil, 0, 0, 0⟩
theorem nilT : (match nilR with | some (.tuple ⟨[]⟩, _) => true | _ => false) = true := by kernel_rfl
theorem nilRun : ∃ s', nilR = some (.tuple ⟨[]⟩, s') := by
  have h := nilT
  split at h
  · rename_i heq; exact ⟨_, heq⟩
  · cases h

theorem sortAt : SortAt Try.prog 31 32 := by
  refine ⟨?_, fun w => ?_⟩
  · intro w blk off cap n ks vs os kb h1 h12 hlt hcell hfz hone hkey
    haveI : Inhabited (Fin n) := ⟨⟨0, h1⟩⟩
    let enc : Fin n → List Value := fun i => [ks i, vs i, os i]
    let d : Array (Fin n) := Array.ofFn id
    have hd : d.size = n := by simp [d]
    have hdi : ∀ i (h : i < n), d[i]! = ⟨i, h⟩ := fun i h => by
      rw [getElem!_pos d i (by omega)]; simp [d]
    have hH : HoldsK enc 3 w blk off d := by
      intro j hj
      rw [size_flatK, hd] at hj
      refine ⟨?_, hfz j (by omega)⟩
      have hq : j / 3 < n := by omega
      rw [get_flatK _ _ _ _ (by rw [hd]; omega), hdi _ hq]
      obtain ⟨c0, c1, c2⟩ := hcell (j / 3) hq
      have h3 : j % 3 = 0 ∨ j % 3 = 1 ∨ j % 3 = 2 := by omega
      show w.cell? ⟨blk, off + j, none⟩ = some (([ks (j / 3), vs (j / 3), os (j / 3)] : List Value)[j % 3]!)
      rcases h3 with h3 | h3 | h3 <;> rw [h3]
      · rw [show off + j = off + 3 * (j / 3) by omega]; exact c0
      · rw [show off + j = off + (3 * (j / 3) + 1) by omega]; exact c1
      · rw [show off + j = off + (3 * (j / 3) + 2) by omega]; exact c2
    have eg : ∀ args w, (callFunc 32 args).run Try.prog w = .ok (.enter 32 args) w := enters_of Try.func32 (by kernel_rfl) rfl
    have hcmp : CmpLays Try.prog 32 #[] enc 3 (fun x y => cmpBytes (kb x) (kb y)) blk off d.size w := by
      intro m os' dk hs x y
      have hsb := sortWorld_same enc w blk off m dk os'
      exact cmpC (ks x) (vs x) (os x) (ks y) (vs y) (os y) _ _ fun u v => compareC (hkey x x.2 _ ((hsb.alloc u).alloc v)) (hkey y y.2 _ ((hsb.alloc u).alloc v))
    have hcon := AnyQ.slices_SortFunc_small Try.sortC 3 Try.isAgg69 Try.sizeOf69 enc (fun _ => rfl) (fun x v hv => by
      obtain ⟨o0, o1, o2⟩ := hone x x.2
      simp only [enc, List.mem_cons, List.not_mem_nil, or_false] at hv
      rcases hv with rfl | rfl | rfl
      · exact o0
      · exact o1
      · exact o2) (fun x y => cmpBytes (kb x) (kb y)) 32 #[] blk off cap d w eg hcmp hH hlt (by omega) hlenC
    rw [hd] at hcon
    refine hcon.mono ?_
    rintro e w' ⟨rfl, m, os', rfl⟩
    exact ⟨rfl, sortWorld_same enc w blk off m _ os'⟩
  · have hrun : ∃ s', callM pE0 100 31 [.slice none 0 0, .func (.func 32) ⟨[]⟩ ⟨[]⟩] ⟨.nil, 0, 0, 0⟩ = some (.tuple ⟨[]⟩, s') := nilRun
    obtain ⟨s', hs⟩ := hrun
    refine (run_law_at pGood0 (β0 := fun _ => none) (fun _ _ => rfl) hs (l' := #[.slice none 0 0, .func (.func 32) #[] #[]]) (.cons .nilsl (.cons (.func _ .nil .nil) .nil))).mono ?_
    rintro e w' ⟨v', rfl, ⟨β, hv⟩, hb⟩
    cases hv with
    | tuple h =>
    rename_i a'
    obtain ⟨a'⟩ := a'
    cases h
    exact ⟨rfl, hb.os, hb.tape, hb.output, hb.size, fun r hr hlt => hb.block r hlt⟩

end Go.Proofs.Ytelifilabbadmaa
