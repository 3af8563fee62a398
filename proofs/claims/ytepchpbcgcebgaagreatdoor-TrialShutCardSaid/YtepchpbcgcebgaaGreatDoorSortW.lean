/- The library's sorting of a map's keys, laid at this program (by the kit's tool); and what it tells of 'slices.Sorted(maps.Keys(m))'. -/
import Derived.Shelf.SlIter.Nil
import Derived.Shelf.SortM.Plain
import Derived.Shelf.SortM.SortNone
import Derived.Test.YtepchpbcgcebgaaGreatDoorProg
import Derived.Test.YtepchpbcgcebgaaGreatDoorSorted
namespace Go.Proofs
set_option linter.all false
set_option linter.unusedSimpArgs false
set_option linter.unusedVariables false
open Go.Shelf Go.RowKit Go.Maps Go.Sort
def Tryz.keys_ren : Go.Shelf.Ren := ⟨fun | 7 => 64 | 10 => 124 | n => n, fun | 23 => 126 | 26 => 9 | 3 => 143 | 28 => 141 | 0 => 0 | 27 => 140 | 33 => 102 | 4 => 4 | n => n, fun | n => n⟩
theorem Tryz.keys : Go.Proofs.SlLaysZ.n7 Tryz.prog Tryz.keys_ren := {
  mixed := by kernel_rfl
  f7 := ⟨Tryz.f64.name, by decide, Tryz.func64.trans (congrArg some (by kernel_rfl))⟩
  f10 := ⟨Tryz.f124.name, by decide, Tryz.func124.trans (congrArg some (by kernel_rfl))⟩
  t0 := Tryz.underlying0
  a0 := Tryz.isAgg0
  z0 := Tryz.sizeOf0
  v0 := Tryz.zeroValue0
  t4 := Tryz.underlying4
  a4 := Tryz.isAgg4
  z4 := Tryz.sizeOf4
  v4 := Tryz.zeroValue4
  t23 := Tryz.underlying126
  a23 := Tryz.isAgg126
  z23 := Tryz.sizeOf126
  v23 := Tryz.zeroValue126
  t26 := Tryz.underlying9
  a26 := Tryz.isAgg9
  z26 := Tryz.sizeOf9
  v26 := Tryz.zeroValue9
  t27 := Tryz.underlying140
  a27 := Tryz.isAgg140
  z27 := Tryz.sizeOf140
  v27 := Tryz.zeroValue140
  t28 := Tryz.underlying141
  a28 := Tryz.isAgg141
  z28 := Tryz.sizeOf141
  v28 := Tryz.zeroValue141
  t33 := Tryz.underlying102
  a33 := Tryz.isAgg102
  z33 := Tryz.sizeOf102
  v33 := Tryz.zeroValue102 }
def Tryz.sorted_ren : Go.Shelf.Ren := ⟨fun | 6 => 63 | 8 => 122 | 9 => 123 | 11 => 198 | 13 => 200 | 12 => 199 | 23 => 258 | 24 => 259 | 14 => 249 | 15 => 250 | 16 => 251 | 17 => 252 | 18 => 253 | 19 => 254 | 20 => 255 | 21 => 256 | 22 => 257 | 25 => 322 | 26 => 323 | 27 => 324 | 28 => 325 | 29 => 326 | 30 => 327 | 31 => 371 | n => n, fun | 26 => 9 | 28 => 141 | 24 => 64 | 0 => 0 | 3 => 3 | 37 => 240 | 48 => 333 | 50 => 38 | 4 => 4 | 40 => 372 | 39 => 371 | 45 => 277 | 5 => 5 | 9 => 9 | 51 => 420 | 55 => 423 | 57 => 474 | 58 => 475 | 33 => 102 | n => n, fun | n => n⟩
theorem Tryz.sorted : Go.Proofs.SlLaysZ.n6 Tryz.prog Tryz.sorted_ren := {
  mixed := by kernel_rfl
  f6 := ⟨Tryz.f63.name, by decide, Tryz.func63.trans (congrArg some (by kernel_rfl))⟩
  f8 := ⟨Tryz.f122.name, by decide, Tryz.func122.trans (congrArg some (by kernel_rfl))⟩
  f11 := ⟨Tryz.f198.name, by decide, Tryz.func198.trans (congrArg some (by kernel_rfl))⟩
  t0 := Tryz.underlying0
  a0 := Tryz.isAgg0
  z0 := Tryz.sizeOf0
  v0 := Tryz.zeroValue0
  t24 := Tryz.underlying64
  a24 := Tryz.isAgg64
  z24 := Tryz.sizeOf64
  v24 := Tryz.zeroValue64
  t26 := Tryz.underlying9
  a26 := Tryz.isAgg9
  z26 := Tryz.sizeOf9
  v26 := Tryz.zeroValue9
  t28 := Tryz.underlying141
  a28 := Tryz.isAgg141
  z28 := Tryz.sizeOf141
  v28 := Tryz.zeroValue141
  i26 := by kernel_rfl }
def Tryz.sort_ren : Go.Shelf.Ren := ⟨fun | 6 => 123 | 8 => 200 | 9 => 199 | 19 => 258 | 20 => 259 | 21 => 249 | 22 => 250 | 23 => 251 | 24 => 252 | 25 => 253 | 26 => 254 | 27 => 255 | 28 => 256 | 29 => 257 | 36 => 322 | 31 => 323 | 32 => 324 | 37 => 325 | 38 => 326 | 39 => 327 | 41 => 371 | n => n, fun | 27 => 64 | 29 => 9 | 3 => 3 | 32 => 240 | 26 => 64 | 0 => 0 | 44 => 333 | 46 => 38 | 4 => 4 | 36 => 372 | 35 => 371 | 41 => 277 | 5 => 5 | 9 => 9 | 53 => 420 | 57 => 423 | 63 => 474 | 64 => 475 | n => n, fun | n => n⟩
theorem Tryz.sort : Go.Proofs.SlLaysM.n6 Tryz.prog Tryz.sort_ren := {
  mixed := by kernel_rfl
  f6 := ⟨Tryz.f123.name, by decide, Tryz.func123.trans (congrArg some (by kernel_rfl))⟩
  f8 := Tryz.func200.trans (congrArg some (by kernel_rfl))
  f9 := ⟨Tryz.f199.name, by decide, Tryz.func199.trans (congrArg some (by kernel_rfl))⟩
  f19 := Tryz.func258.trans (congrArg some (by kernel_rfl))
  f20 := Tryz.func259.trans (congrArg some (by kernel_rfl))
  f21 := ⟨Tryz.f249.name, by decide, Tryz.func249.trans (congrArg some (by kernel_rfl))⟩
  f22 := ⟨Tryz.f250.name, by decide, Tryz.func250.trans (congrArg some (by kernel_rfl))⟩
  f23 := ⟨Tryz.f251.name, by decide, Tryz.func251.trans (congrArg some (by kernel_rfl))⟩
  f24 := ⟨Tryz.f252.name, by decide, Tryz.func252.trans (congrArg some (by kernel_rfl))⟩
  f25 := ⟨Tryz.f253.name, by decide, Tryz.func253.trans (congrArg some (by kernel_rfl))⟩
  f26 := ⟨Tryz.f254.name, by decide, Tryz.func254.trans (congrArg some (by kernel_rfl))⟩
  f27 := ⟨Tryz.f255.name, by decide, Tryz.func255.trans (congrArg some (by kernel_rfl))⟩
  f28 := ⟨Tryz.f256.name, by decide, Tryz.func256.trans (congrArg some (by kernel_rfl))⟩
  f29 := ⟨Tryz.f257.name, by decide, Tryz.func257.trans (congrArg some (by kernel_rfl))⟩
  f31 := Tryz.func323.trans (congrArg some (by kernel_rfl))
  f32 := Tryz.func324.trans (congrArg some (by kernel_rfl))
  f36 := ⟨Tryz.f322.name, by decide, Tryz.func322.trans (congrArg some (by kernel_rfl))⟩
  f37 := ⟨Tryz.f325.name, by decide, Tryz.func325.trans (congrArg some (by kernel_rfl))⟩
  f38 := ⟨Tryz.f326.name, by decide, Tryz.func326.trans (congrArg some (by kernel_rfl))⟩
  f39 := ⟨Tryz.f327.name, by decide, Tryz.func327.trans (congrArg some (by kernel_rfl))⟩
  f41 := ⟨Tryz.f371.name, by decide, Tryz.func371.trans (congrArg some (by kernel_rfl))⟩
  t0 := Tryz.underlying0
  a0 := Tryz.isAgg0
  z0 := Tryz.sizeOf0
  v0 := Tryz.zeroValue0
  t3 := Tryz.underlying3
  a3 := Tryz.isAgg3
  z3 := Tryz.sizeOf3
  v3 := Tryz.zeroValue3
  t4 := Tryz.underlying4
  a4 := Tryz.isAgg4
  z4 := Tryz.sizeOf4
  v4 := Tryz.zeroValue4
  t5 := Tryz.underlying5
  a5 := Tryz.isAgg5
  z5 := Tryz.sizeOf5
  v5 := Tryz.zeroValue5
  t9 := Tryz.underlying9
  a9 := Tryz.isAgg9
  z9 := Tryz.sizeOf9
  v9 := Tryz.zeroValue9
  t26 := Tryz.underlying64
  a26 := Tryz.isAgg64
  z26 := Tryz.sizeOf64
  v26 := Tryz.zeroValue64
  t27 := Tryz.underlying64
  a27 := Tryz.isAgg64
  z27 := Tryz.sizeOf64
  v27 := Tryz.zeroValue64
  t29 := Tryz.underlying9
  a29 := Tryz.isAgg9
  z29 := Tryz.sizeOf9
  v29 := Tryz.zeroValue9
  t32 := Tryz.underlying240
  a32 := Tryz.isAgg240
  z32 := Tryz.sizeOf240
  v32 := Tryz.zeroValue240
  t35 := Tryz.underlying371
  a35 := Tryz.isAgg371
  z35 := Tryz.sizeOf371
  v35 := Tryz.zeroValue371
  t36 := Tryz.underlying372
  a36 := Tryz.isAgg372
  z36 := Tryz.sizeOf372
  v36 := Tryz.zeroValue372
  t41 := Tryz.underlying277
  a41 := Tryz.isAgg277
  z41 := Tryz.sizeOf277
  v41 := Tryz.zeroValue277
  t44 := Tryz.underlying333
  a44 := Tryz.isAgg333
  z44 := Tryz.sizeOf333
  v44 := Tryz.zeroValue333
  t46 := Tryz.underlying38
  a46 := Tryz.isAgg38
  z46 := Tryz.sizeOf38
  v46 := Tryz.zeroValue38
  t53 := Tryz.underlying420
  a53 := Tryz.isAgg420
  z53 := Tryz.sizeOf420
  v53 := Tryz.zeroValue420
  t57 := Tryz.underlying423
  a57 := Tryz.isAgg423
  z57 := Tryz.sizeOf423
  v57 := Tryz.zeroValue423
  t63 := Tryz.underlying474
  a63 := Tryz.isAgg474
  z63 := Tryz.sizeOf474
  v63 := Tryz.zeroValue474
  t64 := Tryz.underlying475
  a64 := Tryz.isAgg475
  z64 := Tryz.sizeOf475
  v64 := Tryz.zeroValue475 }

theorem Tryz.sorts (m : Nat) : AnyZ.SortsIn Tryz.prog Tryz.sorted_ren Fence.wide m :=
  ⟨fun blk off cap ss W hH hblk hsz => callsIn_wide.2 (AnyM.slices_Sort_string Tryz.sort blk off cap ss W hH hblk hsz),
   fun p cap W => callsIn_wide.2 (AnyM.slices_Sort_string_none Tryz.sort p cap W)⟩

set_option maxHeartbeats 1000000 in
theorem Tryz.sortedAt : Ideal.SortedAt Tryz.prog 63 124 9 := by
  refine ⟨fun w cb b Rd nn D0 hc hown hsz => ?_, fun w cb hc => ?_⟩
  · have hcb : cb < w.heap.size := by
      rcases Nat.lt_or_ge cb w.heap.size with h | h
      · exact h
      · simp [World.cell?, Array.getElem?_eq_none h] at hc
    have hseq : SeqGives Fence.wide 2 Tryz.prog 124 #[.pointer (some ⟨cb, 0, none⟩)] encStr (fun ss => ss.Perm (strKeys D0)) (Maps.size D0) w :=
      AnyZ.keys_gives (ρ := Tryz.keys_ren) { Tryz.keys with } Fence.wide _ trivial rfl (by omega) cb b nn D0 w hcb hc hown
    exact callsIn_wide.1 (AnyZ.sorted_in Tryz.sorted Fence.wide 5 trivial trivial trivial trivial rfl (by omega) (Tryz.sorts _) (enters_of Tryz.func123 (by kernel_rfl) rfl) 124 #[.pointer (some ⟨cb, 0, none⟩)] trivial
      (enters_of Tryz.func124 (by kernel_rfl) rfl) _ _ (by unfold maxLen; omega) (by omega) w hseq)
  · have hcb : cb < w.heap.size := by
      rcases Nat.lt_or_ge cb w.heap.size with h | h
      · exact h
      · simp [World.cell?, Array.getElem?_eq_none h] at hc
    have hseq : SeqGives Fence.wide 2 Tryz.prog 124 #[.pointer (some ⟨cb, 0, none⟩)] encStr (fun ss : List (List UInt8) => ss = []) 0 w :=
      AnyZ.keys_gives_nil (ρ := Tryz.keys_ren) { Tryz.keys with } Fence.wide _ trivial rfl cb w hcb hc
    refine (callsIn_wide.1 (AnyZ.sorted_in Tryz.sorted Fence.wide 5 trivial trivial trivial trivial rfl (by omega) (Tryz.sorts _) (enters_of Tryz.func123 (by kernel_rfl) rfl) 124 #[.pointer (some ⟨cb, 0, none⟩)] trivial
      (enters_of Tryz.func124 (by kernel_rfl) rfl) _ 0 (Nat.zero_le _) (by omega) w hseq)).mono ?_
    rintro e w' ⟨v, ss, rfl, hS, hrow, hnil, hb⟩
    exact ⟨by rw [hnil.2 hS], hb⟩

end Go.Proofs
