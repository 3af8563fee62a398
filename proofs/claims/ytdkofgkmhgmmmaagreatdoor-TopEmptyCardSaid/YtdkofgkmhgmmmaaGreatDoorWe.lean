/- TopEmpty: its fixed pieces. -/
import Derived.Test.YtdkofgkmhgmmmaaGreatDoorWb
import Derived.Test.YtdkofgkmhgmmmaaGreatDoorWd
import Derived.Test.YtdkofgkmhgmmmaaGreatDoorWf
import Derived.Test.YtdkofgkmhgmmmaaGreatDoorPost
namespace Go.Proofs.YtdkofgkmhgmmmaaGreatDoor
set_option linter.all false
set_option linter.unusedSimpArgs false
set_option linter.unusedVariables false
open Go Go.Ideal
set_option maxRecDepth 100000

theorem f0 (s : ByteArray) (z : Int) (n : Nat) : tpc true x_l (q00 s z n) [] (q00 s z n) [] = tres .normal (q00 s z n) [] true := by kernel_rfl
theorem f1 (s : ByteArray) (z : Int) (n : Nat) : tpc true x_rl (q00 s z n) [] (q00 s z n) [] = tres .normal (q00 s z n) [] true := by kernel_rfl
theorem f2 (s : ByteArray) (z : Int) (n : Nat) : tpc true x_rrl (q00 s z n) [(2, .fal)] (q00 s z n) [] = tres .normal (q00 s z n) [] (!Nat.blt 40 (bl s).length && true) := by kernel_rfl
theorem f3 (s : ByteArray) (z : Int) (n : Nat) : tpc true x_rrrl (q00 s z n) [] (q3 s z n) [2, 0, 1] = tres .normal (q3 s z n) [2, 0, 1] true := by kernel_rfl
theorem f4 (s : ByteArray) (z : Int) (n : Nat) : tpc true x_rrrrl (q3 s z n) [(2, .free), (2474, .free)] (q4 s z n) [0, 1, 6, 16, 261, 262, 266, 21, 19, 264, 263, 265] = tres .normal (q4 s z n) [0, 1, 6, 16, 261, 262, 266, 21, 19, 264, 263, 265] ((okZ (rootB n 7) && (okZ (rootB n 6) && (okZ (rootB n 5) && (okZ (rootB n 4) && (okZ (rootB n 3) && (okZ (rootB n 2) && (okZ (rootB n 1) && (okZ (rootB n 0) && true)))))))) && (eqI (wrapF .i64 (Int.ofNat n)) (Int.ofNat n) && true)) := by kernel_rfl
theorem f5 (s : ByteArray) (z : Int) (n : Nat) : tpc true x_rrrrrl (q4 s z n) [] (q5 s z n) [0, 1, 2, 3, 4, 5, 6, 7, 8, 9, 10, 11] = tres .normal (q5 s z n) [0, 1, 2, 3, 4, 5, 6, 7, 8, 9, 10, 11] true := by kernel_rfl
theorem f6 (s : ByteArray) (z : Int) (n : Nat) : tpc true x_rrrrrrl (q5 s z n) [(1, .free)] (q6 s z n) [0, 1, 2, 3, 4, 5, 6, 7, 8, 9, 10, 11, 20, 13, 14, 15, 16, 18, 19] = tres .normal (q6 s z n) [0, 1, 2, 3, 4, 5, 6, 7, 8, 9, 10, 11, 20, 13, 14, 15, 16, 18, 19] (eqI (wrapF .i64 (Int.ofNat n)) (Int.ofNat n) && true) := by kernel_rfl
theorem fLong (s : ByteArray) (z : Int) (n : Nat) : tpc true x_rrl (q00 s z n) [(2, .tru)] (qE s z n) [] = tres .ret (qE s z n) [] (Nat.blt 40 (bl s).length && true) := by kernel_rfl
theorem f7 (s : ByteArray) (z : Int) (n : Nat) : tpc true x_rrrrrrrll (q6 s z n) [] (qA s z n 0) [0, 1, 2, 3, 4, 5, 6, 7, 8, 9, 10, 11, 12, 13, 14, 15, 16, 17, 18] = tres .normal (qA s z n 0) [0, 1, 2, 3, 4, 5, 6, 7, 8, 9, 10, 11, 12, 13, 14, 15, 16, 17, 18] true := by kernel_rfl
theorem gA (s : ByteArray) (z : Int) (n : Nat) : tpc true x_rrrrrrrlrbol (qA s z n 0) [] (qA s z n 0) [0, 1, 2, 3, 4, 5, 6, 7, 8, 9, 10, 11, 12, 13, 14, 15, 16, 17, 18] = tres .normal (qA s z n 0) [0, 1, 2, 3, 4, 5, 6, 7, 8, 9, 10, 11, 12, 13, 14, 15, 16, 17, 18] true := by kernel_rfl
theorem gB (s : ByteArray) (z : Int) (n : Nat) : tpc true x_rrrrrrrlrbol (qB s z n 1) [] (qB s z n 1) [0, 1, 2, 3, 4, 5, 6, 7, 8, 9, 10, 11, 12, 13, 14, 15, 16, 17, 18] = tres .normal (qB s z n 1) [0, 1, 2, 3, 4, 5, 6, 7, 8, 9, 10, 11, 12, 13, 14, 15, 16, 17, 18] true := by kernel_rfl
theorem gE (s : ByteArray) (z : Int) (n : Nat) : tpc true x_rrrrrrrlrbol (qB s z n 2) [] (qB s z n 2) [0, 1, 2, 3, 4, 5, 6, 7, 8, 9, 10, 11, 12, 13, 14, 15, 16, 17, 18] = tres (.exit 0) (qB s z n 2) [0, 1, 2, 3, 4, 5, 6, 7, 8, 9, 10, 11, 12, 13, 14, 15, 16, 17, 18] true := by kernel_rfl
theorem hA (s : ByteArray) (z : Int) (n : Nat) : tpc true x_rrrrrrrlrborlbr (qA s z n 0) [(2079, .free), (4082, .free)] (qB s z n 0) [0, 1, 25, 35, 346, 361, 6, 7, 38, 9, 10, 11, 12, 13, 14, 15, 16, 17, 18] = tres .normal (qB s z n 0) [0, 1, 25, 35, 346, 361, 6, 7, 38, 9, 10, 11, 12, 13, 14, 15, 16, 17, 18] ((okZ (rootB n 7) && (okZ (rootB n 6) && (okZ (rootB n 5) && (okZ (rootB n 4) && (okZ (rootB n 3) && (okZ (rootB n 2) && (okZ (rootB n 1) && (okZ (rootB n 0) && true)))))))) && (decide (Int.ofNat n = Int.ofNat n) && true)) := by kernel_rfl
theorem hB (s : ByteArray) (z : Int) (n : Nat) : tpc true x_rrrrrrrlrborlbr (qB s z n 1) [] (qB s z n 1) [0, 1, 2, 3, 4, 5, 6, 7, 8, 9, 10, 11, 12, 13, 14, 15, 16, 17, 18] = tres .normal (qB s z n 1) [0, 1, 2, 3, 4, 5, 6, 7, 8, 9, 10, 11, 12, 13, 14, 15, 16, 17, 18] true := by kernel_rfl
theorem iA (s : ByteArray) (z : Int) (n : Nat) : tpc true x_rrrrrrrlrborr (qB s z n 0) [] (qB s z n 1) [0, 1, 2, 3, 4, 5, 6, 7, 8, 9, 10, 11, 12, 13, 14, 15, 16, 17, 18] = tres .normal (qB s z n 1) [0, 1, 2, 3, 4, 5, 6, 7, 8, 9, 10, 11, 12, 13, 14, 15, 16, 17, 18] true := by kernel_rfl
theorem iB (s : ByteArray) (z : Int) (n : Nat) : tpc true x_rrrrrrrlrborr (qB s z n 1) [] (qB s z n 2) [0, 1, 2, 3, 4, 5, 6, 7, 8, 9, 10, 11, 12, 13, 14, 15, 16, 17, 18] = tres .normal (qB s z n 2) [0, 1, 2, 3, 4, 5, 6, 7, 8, 9, 10, 11, 12, 13, 14, 15, 16, 17, 18] true := by kernel_rfl
theorem gZ (s : ByteArray) (z : Int) (n : Nat) : tpc true x_rrrrrrrr (qB s z n 2) [(606, .fal)] (qE s z n) [] = tres .ret (qE s z n) [] (!(!(eqI (Int.ofNat n) (Int.ofNat n))) && true) := by kernel_rfl
theorem kIn (s : ByteArray) (z : Int) (n t : Nat) (o0 o1 o2 o3 o4 o5 o8 : Blk) : tpc true x_rrrrrrrlrborlbll (qJ s z n t o0 o1 o2 o3 o4 o5 o8) [] (qK s z n t 8 o0 o1 o2 o3 o4 o5 o8) idL = kres .normal (qK s z n t 8 o0 o1 o2 o3 o4 o5 o8) idL true := by kernel_rfl
theorem kOut (s : ByteArray) (z : Int) (n t : Nat) (o0 o1 o2 o3 o4 o5 o8 : Blk) : tpc true x_rrrrrrrlrborlblrbo (qK s z n t 15 o0 o1 o2 o3 o4 o5 o8) [] (qJ s z n t o0 o1 o2 o3 o4 o5 o8) idL = kres (.exit 2) (qJ s z n t o0 o1 o2 o3 o4 o5 o8) idL true := by kernel_rfl
end Go.Proofs.YtdkofgkmhgmmmaaGreatDoor

namespace Go.Proofs.YtdkofgkmhgmmmaaGreatDoor
set_option linter.all false
set_option linter.unusedSimpArgs false
set_option linter.unusedVariables false
open Go Go.Ideal Go.RowKit
set_option maxRecDepth 100000
set_option maxHeartbeats 4000000

theorem an {a b : Bool} (h : a = true) (k : b = true) : (a && b) = true := by rw [h, k]; rfl
theorem nn {a : Bool} (h : a = true) : (!(!a)) = true := by rw [h]; rfl
theorem nt {a : Bool} (h : a = false) : (!a) = true := by rw [h]; rfl
theorem ltB {a b : Nat} (h : a < b) : Nat.blt a b = true := blt_iff.2 h
theorem hNB {a b : Nat} (h : ¬ a < b) : Nat.blt a b = false := by
  cases e : Nat.blt a b with
  | true => exact absurd (blt_iff.1 e) h
  | false => rfl
theorem wrapE {n : Nat} (h : n < 9223372036854775808) : eqI (wrapF .i64 (Int.ofNat n)) (Int.ofNat n) = true := by
  have h1 : (0 : Int) ≤ Int.ofNat n := Int.natCast_nonneg n
  have h2 : Int.ofNat n < 9223372036854775808 := by simp only [Int.ofNat_eq_natCast]; omega
  have e : wrapF .i64 (Int.ofNat n) = Int.ofNat n := by
    generalize Int.ofNat n = x at *
    unfold wrapF
    have : x % 18446744073709551616 = x := Int.emod_eq_of_lt h1 (by omega)
    simp only [this]
    rw [if_neg (by omega)]
  rw [e]; exact Nat.beq_refl n

theorem stepT {v : Bool} {c : Code} {p q : Pt} {L : List Nat} {sc : List (Nat × Turn)} {x : Ex} {ob : Bool} (h : tpc v c p sc q L = tres x q L ob) (hob : ob = true)
    (hq : (keysOK q.nx q.lb && apart (rho L) q.lb && Nat.beq L.length q.nx) = true) {N0 : Nat → Prop} {W0 W : World} {a : Act} (hF : Fam N0 102 p W0 a W) :
    c.wp Tryz.prog (fun ex a' w' => ExR ex x ∧ Fam N0 102 q W0 a' w') a W :=
  Fam.step teGood (teX_ok v) (d := 100) (k := 1000000) (L := L) (sc := sc) (x := x) (ob := ob) h hob hq hF

theorem stepK {v : Bool} {c : Code} {p q : Pt} {L : List Nat} {sc : List (Nat × Turn)} {x : Ex} {ob : Bool} (h : tpc v c p sc q L = kres x q L ob) (hob : ob = true)
    (hq : (keysOK q.nx q.lb && apart (rho L) q.lb && Nat.beq L.length q.nx) = true) (hr : ∀ e ∈ q.lb, (Nat.ble e.1 5 || Nat.beq e.1 8) = true → renB (rho L) e.2 = e.2) {N0 : Nat → Prop} {W0 W : World} {a : Act} (hF : Fam N0 102 p W0 a W) :
    c.wp Tryz.prog (fun ex a' w' => ExR ex x ∧ Fam N0 102 q W0 a' w') a W := by
  refine stepT (v := v) (sc := sc) (L := L) (ob := ob) (h.trans ?_) hob hq hF
  unfold kres tres
  have e : q.lb.map (fun e => some (renB (rho L) e.2)) = q.lb.map (fun e => some (cond (Nat.ble e.1 5 || Nat.beq e.1 8) e.2 (renB (rho L) e.2))) := by
    refine List.map_congr_left fun e he => ?_
    cases hb : Nat.ble e.1 5 || Nat.beq e.1 8 with
    | true => rw [hr e he hb]; rfl
    | false => rfl
  rw [e]

structure Stay (o0 o1 o2 o3 o4 o5 o8 : Blk) : Prop where
  h0 : renB (rho idL) o0 = o0
  h1 : renB (rho idL) o1 = o1
  h2 : renB (rho idL) o2 = o2
  h3 : renB (rho idL) o3 = o3
  h4 : renB (rho idL) o4 = o4
  h5 : renB (rho idL) o5 = o5
  h8 : renB (rho idL) o8 = o8
theorem keepJ {s : ByteArray} {z : Int} {n t : Nat} {o0 o1 o2 o3 o4 o5 o8 : Blk} (h : Stay o0 o1 o2 o3 o4 o5 o8) : ∀ e ∈ (qJ s z n t o0 o1 o2 o3 o4 o5 o8).lb, (Nat.ble e.1 5 || Nat.beq e.1 8) = true → renB (rho idL) e.2 = e.2 := by
  intro e he ht
  have he : e ∈ [(0, o0), (1, o1), (2, o2), (3, o3), (4, o4), (5, o5), (6, (.cells [.pointer (some ⟨0, 0, none⟩), .pointer (some ⟨7, 0, none⟩), .pointer (some ⟨9, 0, none⟩), .map (some 11), .int .i64 (.ofNat 0), .pointer none] 89 .var : Blk)), (7, (.cells [.pointer (some ⟨0, 0, none⟩), .pointer (some ⟨8, 0, none⟩), .int .u64 (.ofNat 1), .int .i64 (.ofNat n), .int .i64 (.ofNat 0), .int .u64 (.ofNat 0), .int .i64 (.ofNat 0), .int .u64 (.ofNat 0), .int .i64 (.ofNat 0), .int .u64 (.ofNat 0), .int .i64 (.ofNat 0), .int .u64 (.ofNat 0), .int .i64 (.ofNat 0), .int .u64 (.ofNat 0)] 108 .var : Blk)), (8, o8), (9, (.cells [.int .i64 (.ofNat 0), .map (some 10)] 132 .var : Blk)), (10, (.map [] 0 : Blk)), (11, (.map [] 0 : Blk)), (12, (.cells [.int .i64 (.ofNat n), .slice none 0 0, .map (some 13), .map (some 14), .map (some 15), .map (some 16), .map (some 17), .map (some 18), .int .i64 (.ofNat 0), .int .i64 (.ofNat 0), .bool false] 63 .var : Blk)), (13, (.map [] 0 : Blk)), (14, (.map [] 0 : Blk)), (15, (.map [] 0 : Blk)), (16, (.map [] 0 : Blk)), (17, (.map [] 0 : Blk)), (18, (.map [] 0 : Blk))] := he
  simp only [List.mem_cons, List.not_mem_nil, or_false] at he
  rcases he with rfl | rfl | rfl | rfl | rfl | rfl | rfl | rfl | rfl | rfl | rfl | rfl | rfl | rfl | rfl | rfl | rfl | rfl | rfl
  · exact h.h0
  · exact h.h1
  · exact h.h2
  · exact h.h3
  · exact h.h4
  · exact h.h5
  · cases ht
  · cases ht
  · exact h.h8
  · cases ht
  · cases ht
  · cases ht
  · cases ht
  · cases ht
  · cases ht
  · cases ht
  · cases ht
  · cases ht
  · cases ht
theorem keepK {s : ByteArray} {z : Int} {n t kd : Nat} {o0 o1 o2 o3 o4 o5 o8 : Blk} (h : Stay o0 o1 o2 o3 o4 o5 o8) : ∀ e ∈ (qK s z n t kd o0 o1 o2 o3 o4 o5 o8).lb, (Nat.ble e.1 5 || Nat.beq e.1 8) = true → renB (rho idL) e.2 = e.2 := by
  intro e he ht
  have he : e ∈ [(0, o0), (1, o1), (2, o2), (3, o3), (4, o4), (5, o5), (6, (.cells [.pointer (some ⟨0, 0, none⟩), .pointer (some ⟨7, 0, none⟩), .pointer (some ⟨9, 0, none⟩), .map (some 11), .int .i64 (.ofNat 0), .pointer none] 89 .var : Blk)), (7, (.cells [.pointer (some ⟨0, 0, none⟩), .pointer (some ⟨8, 0, none⟩), .int .u64 (.ofNat 1), .int .i64 (.ofNat n), .int .i64 (.ofNat 0), .int .u64 (.ofNat 0), .int .i64 (.ofNat 0), .int .u64 (.ofNat 0), .int .i64 (.ofNat 0), .int .u64 (.ofNat 0), .int .i64 (.ofNat 0), .int .u64 (.ofNat 0), .int .i64 (.ofNat 0), .int .u64 (.ofNat 0)] 108 .var : Blk)), (8, o8), (9, (.cells [.int .i64 (.ofNat 0), .map (some 10)] 132 .var : Blk)), (10, (.map [] 0 : Blk)), (11, (.map [] 0 : Blk)), (12, (.cells [.int .i64 (.ofNat n), .slice none 0 0, .map (some 13), .map (some 14), .map (some 15), .map (some 16), .map (some 17), .map (some 18), .int .i64 (.ofNat 0), .int .i64 (.ofNat 0), .bool false] 63 .var : Blk)), (13, (.map [] 0 : Blk)), (14, (.map [] 0 : Blk)), (15, (.map [] 0 : Blk)), (16, (.map [] 0 : Blk)), (17, (.map [] 0 : Blk)), (18, (.map [] 0 : Blk))] := he
  simp only [List.mem_cons, List.not_mem_nil, or_false] at he
  rcases he with rfl | rfl | rfl | rfl | rfl | rfl | rfl | rfl | rfl | rfl | rfl | rfl | rfl | rfl | rfl | rfl | rfl | rfl | rfl
  · exact h.h0
  · exact h.h1
  · exact h.h2
  · exact h.h3
  · exact h.h4
  · exact h.h5
  · cases ht
  · cases ht
  · exact h.h8
  · cases ht
  · cases ht
  · cases ht
  · cases ht
  · cases ht
  · cases ht
  · cases ht
  · cases ht
  · cases ht
  · cases ht

theorem list_of {l : List UInt8} {L : Nat} (h : l.length = L) : l = (List.range L).map fun i => l.getD i 0 := by
  subst h
  refine List.ext_getElem (by simp) fun i h1 h2 => ?_
  simp [List.getD, List.getElem?_eq_getElem h1]
theorem names16 {s : ByteArray} (h : mayL (bl s) = true) : ∃ f : Nat → UInt8, s = mkS [f 0] ∨ s = mkS [f 0, f 1] ∨ s = mkS [f 0, f 1, f 2] ∨ s = mkS [f 0, f 1, f 2, f 3] ∨ s = mkS [f 0, f 1, f 2, f 3, f 4] ∨ s = mkS [f 0, f 1, f 2, f 3, f 4, f 5] ∨ s = mkS [f 0, f 1, f 2, f 3, f 4, f 5, f 6] ∨ s = mkS [f 0, f 1, f 2, f 3, f 4, f 5, f 6, f 7] ∨ s = mkS [f 0, f 1, f 2, f 3, f 4, f 5, f 6, f 7, f 8] ∨ s = mkS [f 0, f 1, f 2, f 3, f 4, f 5, f 6, f 7, f 8, f 9] ∨ s = mkS [f 0, f 1, f 2, f 3, f 4, f 5, f 6, f 7, f 8, f 9, f 10] ∨ s = mkS [f 0, f 1, f 2, f 3, f 4, f 5, f 6, f 7, f 8, f 9, f 10, f 11] ∨ s = mkS [f 0, f 1, f 2, f 3, f 4, f 5, f 6, f 7, f 8, f 9, f 10, f 11, f 12] ∨ s = mkS [f 0, f 1, f 2, f 3, f 4, f 5, f 6, f 7, f 8, f 9, f 10, f 11, f 12, f 13] ∨ s = mkS [f 0, f 1, f 2, f 3, f 4, f 5, f 6, f 7, f 8, f 9, f 10, f 11, f 12, f 13, f 14] ∨ s = mkS [f 0, f 1, f 2, f 3, f 4, f 5, f 6, f 7, f 8, f 9, f 10, f 11, f 12, f 13, f 14, f 15] := by
  unfold mayL at h
  simp only [Bool.and_eq_true] at h
  have h1 := Nat.le_of_ble_eq_true h.1.1
  have h2 := Nat.le_of_ble_eq_true h.1.2
  have hs : s = mkS (bl s) := by obtain ⟨⟨l⟩⟩ := s; rfl
  refine ⟨fun i => (bl s).getD i 0, ?_⟩
  have hL : (bl s).length = 1 ∨ (bl s).length = 2 ∨ (bl s).length = 3 ∨ (bl s).length = 4 ∨ (bl s).length = 5 ∨ (bl s).length = 6 ∨ (bl s).length = 7 ∨ (bl s).length = 8 ∨ (bl s).length = 9 ∨ (bl s).length = 10 ∨ (bl s).length = 11 ∨ (bl s).length = 12 ∨ (bl s).length = 13 ∨ (bl s).length = 14 ∨ (bl s).length = 15 ∨ (bl s).length = 16 := by omega
  rcases hL with hL | hL | hL | hL | hL | hL | hL | hL | hL | hL | hL | hL | hL | hL | hL | hL
  · exact Or.inl (hs.trans (congrArg mkS (list_of hL)))
  · exact Or.inr (Or.inl (hs.trans (congrArg mkS (list_of hL))))
  · exact Or.inr (Or.inr (Or.inl (hs.trans (congrArg mkS (list_of hL)))))
  · exact Or.inr (Or.inr (Or.inr (Or.inl (hs.trans (congrArg mkS (list_of hL))))))
  · exact Or.inr (Or.inr (Or.inr (Or.inr (Or.inl (hs.trans (congrArg mkS (list_of hL)))))))
  · exact Or.inr (Or.inr (Or.inr (Or.inr (Or.inr (Or.inl (hs.trans (congrArg mkS (list_of hL))))))))
  · exact Or.inr (Or.inr (Or.inr (Or.inr (Or.inr (Or.inr (Or.inl (hs.trans (congrArg mkS (list_of hL)))))))))
  · exact Or.inr (Or.inr (Or.inr (Or.inr (Or.inr (Or.inr (Or.inr (Or.inl (hs.trans (congrArg mkS (list_of hL))))))))))
  · exact Or.inr (Or.inr (Or.inr (Or.inr (Or.inr (Or.inr (Or.inr (Or.inr (Or.inl (hs.trans (congrArg mkS (list_of hL)))))))))))
  · exact Or.inr (Or.inr (Or.inr (Or.inr (Or.inr (Or.inr (Or.inr (Or.inr (Or.inr (Or.inl (hs.trans (congrArg mkS (list_of hL))))))))))))
  · exact Or.inr (Or.inr (Or.inr (Or.inr (Or.inr (Or.inr (Or.inr (Or.inr (Or.inr (Or.inr (Or.inl (hs.trans (congrArg mkS (list_of hL)))))))))))))
  · exact Or.inr (Or.inr (Or.inr (Or.inr (Or.inr (Or.inr (Or.inr (Or.inr (Or.inr (Or.inr (Or.inr (Or.inl (hs.trans (congrArg mkS (list_of hL))))))))))))))
  · exact Or.inr (Or.inr (Or.inr (Or.inr (Or.inr (Or.inr (Or.inr (Or.inr (Or.inr (Or.inr (Or.inr (Or.inr (Or.inl (hs.trans (congrArg mkS (list_of hL)))))))))))))))
  · exact Or.inr (Or.inr (Or.inr (Or.inr (Or.inr (Or.inr (Or.inr (Or.inr (Or.inr (Or.inr (Or.inr (Or.inr (Or.inr (Or.inl (hs.trans (congrArg mkS (list_of hL))))))))))))))))
  · exact Or.inr (Or.inr (Or.inr (Or.inr (Or.inr (Or.inr (Or.inr (Or.inr (Or.inr (Or.inr (Or.inr (Or.inr (Or.inr (Or.inr (Or.inl (hs.trans (congrArg mkS (list_of hL)))))))))))))))))
  · exact Or.inr (Or.inr (Or.inr (Or.inr (Or.inr (Or.inr (Or.inr (Or.inr (Or.inr (Or.inr (Or.inr (Or.inr (Or.inr (Or.inr (Or.inr ((hs.trans (congrArg mkS (list_of hL))))))))))))))))))
theorem R_8 {s : ByteArray} {z : Int} {n t : Nat} {o0 o1 o2 o3 o4 o5 o8 : Blk} (hS : Stay o0 o1 o2 o3 o4 o5 o8) (hl : Nat.blt (bl s).length 1099511627776 = true) {N0 : Nat → Prop} {W0 W : World} {a : Act} (hF : Fam N0 102 (qK s z n t 8 o0 o1 o2 o3 o4 o5 o8) W0 a W) :
    x_rrrrrrrlrborlblrbo.wp Tryz.prog (fun ex a' w' => ExR ex .normal ∧ Fam N0 102 (qK s z n t 9 o0 o1 o2 o3 o4 o5 o8) W0 a' w') a W := by
  cases z with
  | ofNat m =>
    cases hm : mayL (bl s) with
    | false =>
      exact stepK (r8i0p s m n t o0 o1 o2 o3 o4 o5 o8) (by repeat' (first | assumption | exact rfl | exact okZ_u8 _ | apply an | apply nt)) (by kernel_rfl) (keepK hS) hF
    | true =>
      obtain ⟨f, hs⟩ := names16 hm
      rcases hs with rfl | rfl | rfl | rfl | rfl | rfl | rfl | rfl | rfl | rfl | rfl | rfl | rfl | rfl | rfl | rfl
      · exact stepK (r8v1p f m n t o0 o1 o2 o3 o4 o5 o8) (by repeat' (first | assumption | exact rfl | exact okZ_u8 _ | apply an | apply nt)) (by kernel_rfl) (keepK hS) hF
      · exact stepK (r8v2p f m n t o0 o1 o2 o3 o4 o5 o8) (by repeat' (first | assumption | exact rfl | exact okZ_u8 _ | apply an | apply nt)) (by kernel_rfl) (keepK hS) hF
      · exact stepK (r8v3p f m n t o0 o1 o2 o3 o4 o5 o8) (by repeat' (first | assumption | exact rfl | exact okZ_u8 _ | apply an | apply nt)) (by kernel_rfl) (keepK hS) hF
      · exact stepK (r8v4p f m n t o0 o1 o2 o3 o4 o5 o8) (by repeat' (first | assumption | exact rfl | exact okZ_u8 _ | apply an | apply nt)) (by kernel_rfl) (keepK hS) hF
      · exact stepK (r8v5p f m n t o0 o1 o2 o3 o4 o5 o8) (by repeat' (first | assumption | exact rfl | exact okZ_u8 _ | apply an | apply nt)) (by kernel_rfl) (keepK hS) hF
      · exact stepK (r8v6p f m n t o0 o1 o2 o3 o4 o5 o8) (by repeat' (first | assumption | exact rfl | exact okZ_u8 _ | apply an | apply nt)) (by kernel_rfl) (keepK hS) hF
      · exact stepK (r8v7p f m n t o0 o1 o2 o3 o4 o5 o8) (by repeat' (first | assumption | exact rfl | exact okZ_u8 _ | apply an | apply nt)) (by kernel_rfl) (keepK hS) hF
      · exact stepK (r8v8p f m n t o0 o1 o2 o3 o4 o5 o8) (by repeat' (first | assumption | exact rfl | exact okZ_u8 _ | apply an | apply nt)) (by kernel_rfl) (keepK hS) hF
      · exact stepK (r8v9p f m n t o0 o1 o2 o3 o4 o5 o8) (by repeat' (first | assumption | exact rfl | exact okZ_u8 _ | apply an | apply nt)) (by kernel_rfl) (keepK hS) hF
      · exact stepK (r8v10p f m n t o0 o1 o2 o3 o4 o5 o8) (by repeat' (first | assumption | exact rfl | exact okZ_u8 _ | apply an | apply nt)) (by kernel_rfl) (keepK hS) hF
      · exact stepK (r8v11p f m n t o0 o1 o2 o3 o4 o5 o8) (by repeat' (first | assumption | exact rfl | exact okZ_u8 _ | apply an | apply nt)) (by kernel_rfl) (keepK hS) hF
      · exact stepK (r8v12p f m n t o0 o1 o2 o3 o4 o5 o8) (by repeat' (first | assumption | exact rfl | exact okZ_u8 _ | apply an | apply nt)) (by kernel_rfl) (keepK hS) hF
      · exact stepK (r8v13p f m n t o0 o1 o2 o3 o4 o5 o8) (by repeat' (first | assumption | exact rfl | exact okZ_u8 _ | apply an | apply nt)) (by kernel_rfl) (keepK hS) hF
      · exact stepK (r8v14p f m n t o0 o1 o2 o3 o4 o5 o8) (by repeat' (first | assumption | exact rfl | exact okZ_u8 _ | apply an | apply nt)) (by kernel_rfl) (keepK hS) hF
      · exact stepK (r8v15p f m n t o0 o1 o2 o3 o4 o5 o8) (by repeat' (first | assumption | exact rfl | exact okZ_u8 _ | apply an | apply nt)) (by kernel_rfl) (keepK hS) hF
      · exact stepK (r8v16p f m n t o0 o1 o2 o3 o4 o5 o8) (by repeat' (first | assumption | exact rfl | exact okZ_u8 _ | apply an | apply nt)) (by kernel_rfl) (keepK hS) hF
  | negSucc m =>
    exact stepK (r8i0n s m n t o0 o1 o2 o3 o4 o5 o8) (by repeat' (first | assumption | exact rfl | exact okZ_u8 _ | apply an | apply nt)) (by kernel_rfl) (keepK hS) hF
theorem R_9 {s : ByteArray} {z : Int} {n t : Nat} {o0 o1 o2 o3 o4 o5 o8 : Blk} (hS : Stay o0 o1 o2 o3 o4 o5 o8) (hl : Nat.blt (bl s).length 1099511627776 = true) {N0 : Nat → Prop} {W0 W : World} {a : Act} (hF : Fam N0 102 (qK s z n t 9 o0 o1 o2 o3 o4 o5 o8) W0 a W) :
    x_rrrrrrrlrborlblrbo.wp Tryz.prog (fun ex a' w' => ExR ex .normal ∧ Fam N0 102 (qK s z n t 10 o0 o1 o2 o3 o4 o5 o8) W0 a' w') a W := by
  cases z with
  | ofNat m =>
    exact stepK (r9i0p s m n t o0 o1 o2 o3 o4 o5 o8) (by repeat' (first | assumption | exact rfl | exact okZ_u8 _ | apply an | apply nt)) (by kernel_rfl) (keepK hS) hF
  | negSucc m =>
    exact stepK (r9i0n s m n t o0 o1 o2 o3 o4 o5 o8) (by repeat' (first | assumption | exact rfl | exact okZ_u8 _ | apply an | apply nt)) (by kernel_rfl) (keepK hS) hF
theorem R_10 {s : ByteArray} {z : Int} {n t : Nat} {o0 o1 o2 o3 o4 o5 o8 : Blk} (hS : Stay o0 o1 o2 o3 o4 o5 o8) (hl : Nat.blt (bl s).length 1099511627776 = true) {N0 : Nat → Prop} {W0 W : World} {a : Act} (hF : Fam N0 102 (qK s z n t 10 o0 o1 o2 o3 o4 o5 o8) W0 a W) :
    x_rrrrrrrlrborlblrbo.wp Tryz.prog (fun ex a' w' => ExR ex .normal ∧ Fam N0 102 (qK s z n t 11 o0 o1 o2 o3 o4 o5 o8) W0 a' w') a W := by
  cases z with
  | ofNat m =>
    cases hm : mayL (bl s) with
    | false =>
      exact stepK (r10i0p s m n t o0 o1 o2 o3 o4 o5 o8) (by repeat' (first | assumption | exact rfl | exact okZ_u8 _ | apply an | apply nt)) (by kernel_rfl) (keepK hS) hF
    | true =>
      obtain ⟨f, hs⟩ := names16 hm
      rcases hs with rfl | rfl | rfl | rfl | rfl | rfl | rfl | rfl | rfl | rfl | rfl | rfl | rfl | rfl | rfl | rfl
      · exact stepK (r10v1p f m n t o0 o1 o2 o3 o4 o5 o8) (by repeat' (first | assumption | exact rfl | exact okZ_u8 _ | apply an | apply nt)) (by kernel_rfl) (keepK hS) hF
      · exact stepK (r10v2p f m n t o0 o1 o2 o3 o4 o5 o8) (by repeat' (first | assumption | exact rfl | exact okZ_u8 _ | apply an | apply nt)) (by kernel_rfl) (keepK hS) hF
      · exact stepK (r10v3p f m n t o0 o1 o2 o3 o4 o5 o8) (by repeat' (first | assumption | exact rfl | exact okZ_u8 _ | apply an | apply nt)) (by kernel_rfl) (keepK hS) hF
      · exact stepK (r10v4p f m n t o0 o1 o2 o3 o4 o5 o8) (by repeat' (first | assumption | exact rfl | exact okZ_u8 _ | apply an | apply nt)) (by kernel_rfl) (keepK hS) hF
      · exact stepK (r10v5p f m n t o0 o1 o2 o3 o4 o5 o8) (by repeat' (first | assumption | exact rfl | exact okZ_u8 _ | apply an | apply nt)) (by kernel_rfl) (keepK hS) hF
      · exact stepK (r10v6p f m n t o0 o1 o2 o3 o4 o5 o8) (by repeat' (first | assumption | exact rfl | exact okZ_u8 _ | apply an | apply nt)) (by kernel_rfl) (keepK hS) hF
      · exact stepK (r10v7p f m n t o0 o1 o2 o3 o4 o5 o8) (by repeat' (first | assumption | exact rfl | exact okZ_u8 _ | apply an | apply nt)) (by kernel_rfl) (keepK hS) hF
      · exact stepK (r10v8p f m n t o0 o1 o2 o3 o4 o5 o8) (by repeat' (first | assumption | exact rfl | exact okZ_u8 _ | apply an | apply nt)) (by kernel_rfl) (keepK hS) hF
      · exact stepK (r10v9p f m n t o0 o1 o2 o3 o4 o5 o8) (by repeat' (first | assumption | exact rfl | exact okZ_u8 _ | apply an | apply nt)) (by kernel_rfl) (keepK hS) hF
      · exact stepK (r10v10p f m n t o0 o1 o2 o3 o4 o5 o8) (by repeat' (first | assumption | exact rfl | exact okZ_u8 _ | apply an | apply nt)) (by kernel_rfl) (keepK hS) hF
      · exact stepK (r10v11p f m n t o0 o1 o2 o3 o4 o5 o8) (by repeat' (first | assumption | exact rfl | exact okZ_u8 _ | apply an | apply nt)) (by kernel_rfl) (keepK hS) hF
      · exact stepK (r10v12p f m n t o0 o1 o2 o3 o4 o5 o8) (by repeat' (first | assumption | exact rfl | exact okZ_u8 _ | apply an | apply nt)) (by kernel_rfl) (keepK hS) hF
      · exact stepK (r10v13p f m n t o0 o1 o2 o3 o4 o5 o8) (by repeat' (first | assumption | exact rfl | exact okZ_u8 _ | apply an | apply nt)) (by kernel_rfl) (keepK hS) hF
      · exact stepK (r10v14p f m n t o0 o1 o2 o3 o4 o5 o8) (by repeat' (first | assumption | exact rfl | exact okZ_u8 _ | apply an | apply nt)) (by kernel_rfl) (keepK hS) hF
      · exact stepK (r10v15p f m n t o0 o1 o2 o3 o4 o5 o8) (by repeat' (first | assumption | exact rfl | exact okZ_u8 _ | apply an | apply nt)) (by kernel_rfl) (keepK hS) hF
      · exact stepK (r10v16p f m n t o0 o1 o2 o3 o4 o5 o8) (by repeat' (first | assumption | exact rfl | exact okZ_u8 _ | apply an | apply nt)) (by kernel_rfl) (keepK hS) hF
  | negSucc m =>
    exact stepK (r10i0n s m n t o0 o1 o2 o3 o4 o5 o8) (by repeat' (first | assumption | exact rfl | exact okZ_u8 _ | apply an | apply nt)) (by kernel_rfl) (keepK hS) hF
theorem R_11 {s : ByteArray} {z : Int} {n t : Nat} {o0 o1 o2 o3 o4 o5 o8 : Blk} (hS : Stay o0 o1 o2 o3 o4 o5 o8) (hl : Nat.blt (bl s).length 1099511627776 = true) {N0 : Nat → Prop} {W0 W : World} {a : Act} (hF : Fam N0 102 (qK s z n t 11 o0 o1 o2 o3 o4 o5 o8) W0 a W) :
    x_rrrrrrrlrborlblrbo.wp Tryz.prog (fun ex a' w' => ExR ex .normal ∧ Fam N0 102 (qK s z n t 12 o0 o1 o2 o3 o4 o5 o8) W0 a' w') a W := by
  cases z with
  | ofNat m =>
    cases hm : mayL (bl s) with
    | false =>
      exact stepK (r11i0p s m n t o0 o1 o2 o3 o4 o5 o8) (by repeat' (first | assumption | exact rfl | exact okZ_u8 _ | apply an | apply nt)) (by kernel_rfl) (keepK hS) hF
    | true =>
      obtain ⟨f, hs⟩ := names16 hm
      rcases hs with rfl | rfl | rfl | rfl | rfl | rfl | rfl | rfl | rfl | rfl | rfl | rfl | rfl | rfl | rfl | rfl
      · exact stepK (r11v1p f m n t o0 o1 o2 o3 o4 o5 o8) (by repeat' (first | assumption | exact rfl | exact okZ_u8 _ | apply an | apply nt)) (by kernel_rfl) (keepK hS) hF
      · exact stepK (r11v2p f m n t o0 o1 o2 o3 o4 o5 o8) (by repeat' (first | assumption | exact rfl | exact okZ_u8 _ | apply an | apply nt)) (by kernel_rfl) (keepK hS) hF
      · exact stepK (r11v3p f m n t o0 o1 o2 o3 o4 o5 o8) (by repeat' (first | assumption | exact rfl | exact okZ_u8 _ | apply an | apply nt)) (by kernel_rfl) (keepK hS) hF
      · exact stepK (r11v4p f m n t o0 o1 o2 o3 o4 o5 o8) (by repeat' (first | assumption | exact rfl | exact okZ_u8 _ | apply an | apply nt)) (by kernel_rfl) (keepK hS) hF
      · exact stepK (r11v5p f m n t o0 o1 o2 o3 o4 o5 o8) (by repeat' (first | assumption | exact rfl | exact okZ_u8 _ | apply an | apply nt)) (by kernel_rfl) (keepK hS) hF
      · exact stepK (r11v6p f m n t o0 o1 o2 o3 o4 o5 o8) (by repeat' (first | assumption | exact rfl | exact okZ_u8 _ | apply an | apply nt)) (by kernel_rfl) (keepK hS) hF
      · exact stepK (r11v7p f m n t o0 o1 o2 o3 o4 o5 o8) (by repeat' (first | assumption | exact rfl | exact okZ_u8 _ | apply an | apply nt)) (by kernel_rfl) (keepK hS) hF
      · exact stepK (r11v8p f m n t o0 o1 o2 o3 o4 o5 o8) (by repeat' (first | assumption | exact rfl | exact okZ_u8 _ | apply an | apply nt)) (by kernel_rfl) (keepK hS) hF
      · exact stepK (r11v9p f m n t o0 o1 o2 o3 o4 o5 o8) (by repeat' (first | assumption | exact rfl | exact okZ_u8 _ | apply an | apply nt)) (by kernel_rfl) (keepK hS) hF
      · exact stepK (r11v10p f m n t o0 o1 o2 o3 o4 o5 o8) (by repeat' (first | assumption | exact rfl | exact okZ_u8 _ | apply an | apply nt)) (by kernel_rfl) (keepK hS) hF
      · exact stepK (r11v11p f m n t o0 o1 o2 o3 o4 o5 o8) (by repeat' (first | assumption | exact rfl | exact okZ_u8 _ | apply an | apply nt)) (by kernel_rfl) (keepK hS) hF
      · exact stepK (r11v12p f m n t o0 o1 o2 o3 o4 o5 o8) (by repeat' (first | assumption | exact rfl | exact okZ_u8 _ | apply an | apply nt)) (by kernel_rfl) (keepK hS) hF
      · exact stepK (r11v13p f m n t o0 o1 o2 o3 o4 o5 o8) (by repeat' (first | assumption | exact rfl | exact okZ_u8 _ | apply an | apply nt)) (by kernel_rfl) (keepK hS) hF
      · exact stepK (r11v14p f m n t o0 o1 o2 o3 o4 o5 o8) (by repeat' (first | assumption | exact rfl | exact okZ_u8 _ | apply an | apply nt)) (by kernel_rfl) (keepK hS) hF
      · exact stepK (r11v15p f m n t o0 o1 o2 o3 o4 o5 o8) (by repeat' (first | assumption | exact rfl | exact okZ_u8 _ | apply an | apply nt)) (by kernel_rfl) (keepK hS) hF
      · exact stepK (r11v16p f m n t o0 o1 o2 o3 o4 o5 o8) (by repeat' (first | assumption | exact rfl | exact okZ_u8 _ | apply an | apply nt)) (by kernel_rfl) (keepK hS) hF
  | negSucc m =>
    cases hm : mayL (bl s) with
    | false =>
      exact stepK (r11i0n s m n t o0 o1 o2 o3 o4 o5 o8) (by repeat' (first | assumption | exact rfl | exact okZ_u8 _ | apply an | apply nt)) (by kernel_rfl) (keepK hS) hF
    | true =>
      obtain ⟨f, hs⟩ := names16 hm
      rcases hs with rfl | rfl | rfl | rfl | rfl | rfl | rfl | rfl | rfl | rfl | rfl | rfl | rfl | rfl | rfl | rfl
      · exact stepK (r11v1n f m n t o0 o1 o2 o3 o4 o5 o8) (by repeat' (first | assumption | exact rfl | exact okZ_u8 _ | apply an | apply nt)) (by kernel_rfl) (keepK hS) hF
      · exact stepK (r11v2n f m n t o0 o1 o2 o3 o4 o5 o8) (by repeat' (first | assumption | exact rfl | exact okZ_u8 _ | apply an | apply nt)) (by kernel_rfl) (keepK hS) hF
      · exact stepK (r11v3n f m n t o0 o1 o2 o3 o4 o5 o8) (by repeat' (first | assumption | exact rfl | exact okZ_u8 _ | apply an | apply nt)) (by kernel_rfl) (keepK hS) hF
      · exact stepK (r11v4n f m n t o0 o1 o2 o3 o4 o5 o8) (by repeat' (first | assumption | exact rfl | exact okZ_u8 _ | apply an | apply nt)) (by kernel_rfl) (keepK hS) hF
      · exact stepK (r11v5n f m n t o0 o1 o2 o3 o4 o5 o8) (by repeat' (first | assumption | exact rfl | exact okZ_u8 _ | apply an | apply nt)) (by kernel_rfl) (keepK hS) hF
      · exact stepK (r11v6n f m n t o0 o1 o2 o3 o4 o5 o8) (by repeat' (first | assumption | exact rfl | exact okZ_u8 _ | apply an | apply nt)) (by kernel_rfl) (keepK hS) hF
      · exact stepK (r11v7n f m n t o0 o1 o2 o3 o4 o5 o8) (by repeat' (first | assumption | exact rfl | exact okZ_u8 _ | apply an | apply nt)) (by kernel_rfl) (keepK hS) hF
      · exact stepK (r11v8n f m n t o0 o1 o2 o3 o4 o5 o8) (by repeat' (first | assumption | exact rfl | exact okZ_u8 _ | apply an | apply nt)) (by kernel_rfl) (keepK hS) hF
      · exact stepK (r11v9n f m n t o0 o1 o2 o3 o4 o5 o8) (by repeat' (first | assumption | exact rfl | exact okZ_u8 _ | apply an | apply nt)) (by kernel_rfl) (keepK hS) hF
      · exact stepK (r11v10n f m n t o0 o1 o2 o3 o4 o5 o8) (by repeat' (first | assumption | exact rfl | exact okZ_u8 _ | apply an | apply nt)) (by kernel_rfl) (keepK hS) hF
      · exact stepK (r11v11n f m n t o0 o1 o2 o3 o4 o5 o8) (by repeat' (first | assumption | exact rfl | exact okZ_u8 _ | apply an | apply nt)) (by kernel_rfl) (keepK hS) hF
      · exact stepK (r11v12n f m n t o0 o1 o2 o3 o4 o5 o8) (by repeat' (first | assumption | exact rfl | exact okZ_u8 _ | apply an | apply nt)) (by kernel_rfl) (keepK hS) hF
      · exact stepK (r11v13n f m n t o0 o1 o2 o3 o4 o5 o8) (by repeat' (first | assumption | exact rfl | exact okZ_u8 _ | apply an | apply nt)) (by kernel_rfl) (keepK hS) hF
      · exact stepK (r11v14n f m n t o0 o1 o2 o3 o4 o5 o8) (by repeat' (first | assumption | exact rfl | exact okZ_u8 _ | apply an | apply nt)) (by kernel_rfl) (keepK hS) hF
      · exact stepK (r11v15n f m n t o0 o1 o2 o3 o4 o5 o8) (by repeat' (first | assumption | exact rfl | exact okZ_u8 _ | apply an | apply nt)) (by kernel_rfl) (keepK hS) hF
      · exact stepK (r11v16n f m n t o0 o1 o2 o3 o4 o5 o8) (by repeat' (first | assumption | exact rfl | exact okZ_u8 _ | apply an | apply nt)) (by kernel_rfl) (keepK hS) hF
theorem R_12 {s : ByteArray} {z : Int} {n t : Nat} {o0 o1 o2 o3 o4 o5 o8 : Blk} (hS : Stay o0 o1 o2 o3 o4 o5 o8) (hl : Nat.blt (bl s).length 1099511627776 = true) {N0 : Nat → Prop} {W0 W : World} {a : Act} (hF : Fam N0 102 (qK s z n t 12 o0 o1 o2 o3 o4 o5 o8) W0 a W) :
    x_rrrrrrrlrborlblrbo.wp Tryz.prog (fun ex a' w' => ExR ex .normal ∧ Fam N0 102 (qK s z n t 13 o0 o1 o2 o3 o4 o5 o8) W0 a' w') a W := by
  cases hm : mayL (bl s) with
  | false =>
    exact stepK (r12i0z s z n t o0 o1 o2 o3 o4 o5 o8) (by repeat' (first | assumption | exact rfl | exact okZ_u8 _ | apply an | apply nt)) (by kernel_rfl) (keepK hS) hF
  | true =>
    obtain ⟨f, hs⟩ := names16 hm
    rcases hs with rfl | rfl | rfl | rfl | rfl | rfl | rfl | rfl | rfl | rfl | rfl | rfl | rfl | rfl | rfl | rfl
    · exact stepK (r12v1z f z n t o0 o1 o2 o3 o4 o5 o8) (by repeat' (first | assumption | exact rfl | exact okZ_u8 _ | apply an | apply nt)) (by kernel_rfl) (keepK hS) hF
    · exact stepK (r12v2z f z n t o0 o1 o2 o3 o4 o5 o8) (by repeat' (first | assumption | exact rfl | exact okZ_u8 _ | apply an | apply nt)) (by kernel_rfl) (keepK hS) hF
    · exact stepK (r12v3z f z n t o0 o1 o2 o3 o4 o5 o8) (by repeat' (first | assumption | exact rfl | exact okZ_u8 _ | apply an | apply nt)) (by kernel_rfl) (keepK hS) hF
    · exact stepK (r12v4z f z n t o0 o1 o2 o3 o4 o5 o8) (by repeat' (first | assumption | exact rfl | exact okZ_u8 _ | apply an | apply nt)) (by kernel_rfl) (keepK hS) hF
    · exact stepK (r12v5z f z n t o0 o1 o2 o3 o4 o5 o8) (by repeat' (first | assumption | exact rfl | exact okZ_u8 _ | apply an | apply nt)) (by kernel_rfl) (keepK hS) hF
    · exact stepK (r12v6z f z n t o0 o1 o2 o3 o4 o5 o8) (by repeat' (first | assumption | exact rfl | exact okZ_u8 _ | apply an | apply nt)) (by kernel_rfl) (keepK hS) hF
    · exact stepK (r12v7z f z n t o0 o1 o2 o3 o4 o5 o8) (by repeat' (first | assumption | exact rfl | exact okZ_u8 _ | apply an | apply nt)) (by kernel_rfl) (keepK hS) hF
    · exact stepK (r12v8z f z n t o0 o1 o2 o3 o4 o5 o8) (by repeat' (first | assumption | exact rfl | exact okZ_u8 _ | apply an | apply nt)) (by kernel_rfl) (keepK hS) hF
    · exact stepK (r12v9z f z n t o0 o1 o2 o3 o4 o5 o8) (by repeat' (first | assumption | exact rfl | exact okZ_u8 _ | apply an | apply nt)) (by kernel_rfl) (keepK hS) hF
    · exact stepK (r12v10z f z n t o0 o1 o2 o3 o4 o5 o8) (by repeat' (first | assumption | exact rfl | exact okZ_u8 _ | apply an | apply nt)) (by kernel_rfl) (keepK hS) hF
    · exact stepK (r12v11z f z n t o0 o1 o2 o3 o4 o5 o8) (by repeat' (first | assumption | exact rfl | exact okZ_u8 _ | apply an | apply nt)) (by kernel_rfl) (keepK hS) hF
    · exact stepK (r12v12z f z n t o0 o1 o2 o3 o4 o5 o8) (by repeat' (first | assumption | exact rfl | exact okZ_u8 _ | apply an | apply nt)) (by kernel_rfl) (keepK hS) hF
    · exact stepK (r12v13z f z n t o0 o1 o2 o3 o4 o5 o8) (by repeat' (first | assumption | exact rfl | exact okZ_u8 _ | apply an | apply nt)) (by kernel_rfl) (keepK hS) hF
    · exact stepK (r12v14z f z n t o0 o1 o2 o3 o4 o5 o8) (by repeat' (first | assumption | exact rfl | exact okZ_u8 _ | apply an | apply nt)) (by kernel_rfl) (keepK hS) hF
    · exact stepK (r12v15z f z n t o0 o1 o2 o3 o4 o5 o8) (by repeat' (first | assumption | exact rfl | exact okZ_u8 _ | apply an | apply nt)) (by kernel_rfl) (keepK hS) hF
    · exact stepK (r12v16z f z n t o0 o1 o2 o3 o4 o5 o8) (by repeat' (first | assumption | exact rfl | exact okZ_u8 _ | apply an | apply nt)) (by kernel_rfl) (keepK hS) hF
theorem R_13 {s : ByteArray} {z : Int} {n t : Nat} {o0 o1 o2 o3 o4 o5 o8 : Blk} (hS : Stay o0 o1 o2 o3 o4 o5 o8) (hl : Nat.blt (bl s).length 1099511627776 = true) {N0 : Nat → Prop} {W0 W : World} {a : Act} (hF : Fam N0 102 (qK s z n t 13 o0 o1 o2 o3 o4 o5 o8) W0 a W) :
    x_rrrrrrrlrborlblrbo.wp Tryz.prog (fun ex a' w' => ExR ex .normal ∧ Fam N0 102 (qK s z n t 14 o0 o1 o2 o3 o4 o5 o8) W0 a' w') a W := by
  cases hm : mayL (bl s) with
  | false =>
    exact stepK (r13i0z s z n t o0 o1 o2 o3 o4 o5 o8) (by repeat' (first | assumption | exact rfl | exact okZ_u8 _ | apply an | apply nt)) (by kernel_rfl) (keepK hS) hF
  | true =>
    obtain ⟨f, hs⟩ := names16 hm
    rcases hs with rfl | rfl | rfl | rfl | rfl | rfl | rfl | rfl | rfl | rfl | rfl | rfl | rfl | rfl | rfl | rfl
    · exact stepK (r13v1z f z n t o0 o1 o2 o3 o4 o5 o8) (by repeat' (first | assumption | exact rfl | exact okZ_u8 _ | apply an | apply nt)) (by kernel_rfl) (keepK hS) hF
    · exact stepK (r13v2z f z n t o0 o1 o2 o3 o4 o5 o8) (by repeat' (first | assumption | exact rfl | exact okZ_u8 _ | apply an | apply nt)) (by kernel_rfl) (keepK hS) hF
    · exact stepK (r13v3z f z n t o0 o1 o2 o3 o4 o5 o8) (by repeat' (first | assumption | exact rfl | exact okZ_u8 _ | apply an | apply nt)) (by kernel_rfl) (keepK hS) hF
    · exact stepK (r13v4z f z n t o0 o1 o2 o3 o4 o5 o8) (by repeat' (first | assumption | exact rfl | exact okZ_u8 _ | apply an | apply nt)) (by kernel_rfl) (keepK hS) hF
    · exact stepK (r13v5z f z n t o0 o1 o2 o3 o4 o5 o8) (by repeat' (first | assumption | exact rfl | exact okZ_u8 _ | apply an | apply nt)) (by kernel_rfl) (keepK hS) hF
    · exact stepK (r13v6z f z n t o0 o1 o2 o3 o4 o5 o8) (by repeat' (first | assumption | exact rfl | exact okZ_u8 _ | apply an | apply nt)) (by kernel_rfl) (keepK hS) hF
    · exact stepK (r13v7z f z n t o0 o1 o2 o3 o4 o5 o8) (by repeat' (first | assumption | exact rfl | exact okZ_u8 _ | apply an | apply nt)) (by kernel_rfl) (keepK hS) hF
    · exact stepK (r13v8z f z n t o0 o1 o2 o3 o4 o5 o8) (by repeat' (first | assumption | exact rfl | exact okZ_u8 _ | apply an | apply nt)) (by kernel_rfl) (keepK hS) hF
    · exact stepK (r13v9z f z n t o0 o1 o2 o3 o4 o5 o8) (by repeat' (first | assumption | exact rfl | exact okZ_u8 _ | apply an | apply nt)) (by kernel_rfl) (keepK hS) hF
    · exact stepK (r13v10z f z n t o0 o1 o2 o3 o4 o5 o8) (by repeat' (first | assumption | exact rfl | exact okZ_u8 _ | apply an | apply nt)) (by kernel_rfl) (keepK hS) hF
    · exact stepK (r13v11z f z n t o0 o1 o2 o3 o4 o5 o8) (by repeat' (first | assumption | exact rfl | exact okZ_u8 _ | apply an | apply nt)) (by kernel_rfl) (keepK hS) hF
    · exact stepK (r13v12z f z n t o0 o1 o2 o3 o4 o5 o8) (by repeat' (first | assumption | exact rfl | exact okZ_u8 _ | apply an | apply nt)) (by kernel_rfl) (keepK hS) hF
    · exact stepK (r13v13z f z n t o0 o1 o2 o3 o4 o5 o8) (by repeat' (first | assumption | exact rfl | exact okZ_u8 _ | apply an | apply nt)) (by kernel_rfl) (keepK hS) hF
    · exact stepK (r13v14z f z n t o0 o1 o2 o3 o4 o5 o8) (by repeat' (first | assumption | exact rfl | exact okZ_u8 _ | apply an | apply nt)) (by kernel_rfl) (keepK hS) hF
    · exact stepK (r13v15z f z n t o0 o1 o2 o3 o4 o5 o8) (by repeat' (first | assumption | exact rfl | exact okZ_u8 _ | apply an | apply nt)) (by kernel_rfl) (keepK hS) hF
    · exact stepK (r13v16z f z n t o0 o1 o2 o3 o4 o5 o8) (by repeat' (first | assumption | exact rfl | exact okZ_u8 _ | apply an | apply nt)) (by kernel_rfl) (keepK hS) hF
theorem R_14 {s : ByteArray} {z : Int} {n t : Nat} {o0 o1 o2 o3 o4 o5 o8 : Blk} (hS : Stay o0 o1 o2 o3 o4 o5 o8) (hl : Nat.blt (bl s).length 1099511627776 = true) {N0 : Nat → Prop} {W0 W : World} {a : Act} (hF : Fam N0 102 (qK s z n t 14 o0 o1 o2 o3 o4 o5 o8) W0 a W) :
    x_rrrrrrrlrborlblrbo.wp Tryz.prog (fun ex a' w' => ExR ex .normal ∧ Fam N0 102 (qK s z n t 15 o0 o1 o2 o3 o4 o5 o8) W0 a' w') a W := by
  cases hm : mayL (bl s) with
  | false =>
    exact stepK (r14i0z s z n t o0 o1 o2 o3 o4 o5 o8) (by repeat' (first | assumption | exact rfl | exact okZ_u8 _ | apply an | apply nt)) (by kernel_rfl) (keepK hS) hF
  | true =>
    obtain ⟨f, hs⟩ := names16 hm
    rcases hs with rfl | rfl | rfl | rfl | rfl | rfl | rfl | rfl | rfl | rfl | rfl | rfl | rfl | rfl | rfl | rfl
    · exact stepK (r14v1z f z n t o0 o1 o2 o3 o4 o5 o8) (by repeat' (first | assumption | exact rfl | exact okZ_u8 _ | apply an | apply nt)) (by kernel_rfl) (keepK hS) hF
    · exact stepK (r14v2z f z n t o0 o1 o2 o3 o4 o5 o8) (by repeat' (first | assumption | exact rfl | exact okZ_u8 _ | apply an | apply nt)) (by kernel_rfl) (keepK hS) hF
    · exact stepK (r14v3z f z n t o0 o1 o2 o3 o4 o5 o8) (by repeat' (first | assumption | exact rfl | exact okZ_u8 _ | apply an | apply nt)) (by kernel_rfl) (keepK hS) hF
    · exact stepK (r14v4z f z n t o0 o1 o2 o3 o4 o5 o8) (by repeat' (first | assumption | exact rfl | exact okZ_u8 _ | apply an | apply nt)) (by kernel_rfl) (keepK hS) hF
    · exact stepK (r14v5z f z n t o0 o1 o2 o3 o4 o5 o8) (by repeat' (first | assumption | exact rfl | exact okZ_u8 _ | apply an | apply nt)) (by kernel_rfl) (keepK hS) hF
    · exact stepK (r14v6z f z n t o0 o1 o2 o3 o4 o5 o8) (by repeat' (first | assumption | exact rfl | exact okZ_u8 _ | apply an | apply nt)) (by kernel_rfl) (keepK hS) hF
    · exact stepK (r14v7z f z n t o0 o1 o2 o3 o4 o5 o8) (by repeat' (first | assumption | exact rfl | exact okZ_u8 _ | apply an | apply nt)) (by kernel_rfl) (keepK hS) hF
    · exact stepK (r14v8z f z n t o0 o1 o2 o3 o4 o5 o8) (by repeat' (first | assumption | exact rfl | exact okZ_u8 _ | apply an | apply nt)) (by kernel_rfl) (keepK hS) hF
    · exact stepK (r14v9z f z n t o0 o1 o2 o3 o4 o5 o8) (by repeat' (first | assumption | exact rfl | exact okZ_u8 _ | apply an | apply nt)) (by kernel_rfl) (keepK hS) hF
    · exact stepK (r14v10z f z n t o0 o1 o2 o3 o4 o5 o8) (by repeat' (first | assumption | exact rfl | exact okZ_u8 _ | apply an | apply nt)) (by kernel_rfl) (keepK hS) hF
    · exact stepK (r14v11z f z n t o0 o1 o2 o3 o4 o5 o8) (by repeat' (first | assumption | exact rfl | exact okZ_u8 _ | apply an | apply nt)) (by kernel_rfl) (keepK hS) hF
    · exact stepK (r14v12z f z n t o0 o1 o2 o3 o4 o5 o8) (by repeat' (first | assumption | exact rfl | exact okZ_u8 _ | apply an | apply nt)) (by kernel_rfl) (keepK hS) hF
    · exact stepK (r14v13z f z n t o0 o1 o2 o3 o4 o5 o8) (by repeat' (first | assumption | exact rfl | exact okZ_u8 _ | apply an | apply nt)) (by kernel_rfl) (keepK hS) hF
    · exact stepK (r14v14z f z n t o0 o1 o2 o3 o4 o5 o8) (by repeat' (first | assumption | exact rfl | exact okZ_u8 _ | apply an | apply nt)) (by kernel_rfl) (keepK hS) hF
    · exact stepK (r14v15z f z n t o0 o1 o2 o3 o4 o5 o8) (by repeat' (first | assumption | exact rfl | exact okZ_u8 _ | apply an | apply nt)) (by kernel_rfl) (keepK hS) hF
    · exact stepK (r14v16z f z n t o0 o1 o2 o3 o4 o5 o8) (by repeat' (first | assumption | exact rfl | exact okZ_u8 _ | apply an | apply nt)) (by kernel_rfl) (keepK hS) hF
theorem loopK {s : ByteArray} {z : Int} {n t : Nat} {o0 o1 o2 o3 o4 o5 o8 : Blk} (hS : Stay o0 o1 o2 o3 o4 o5 o8) (hl : Nat.blt (bl s).length 1099511627776 = true) {N0 : Nat → Prop} {W0 W : World} {a : Act} (hF : Fam N0 102 (qK s z n t 8 o0 o1 o2 o3 o4 o5 o8) W0 a W) :
    LoopWp Tryz.prog x_rrrrrrrlrborlblrbo (fun ex a' w' => ex = .exit 2 ∧ Fam N0 102 (qJ s z n t o0 o1 o2 o3 o4 o5 o8) W0 a' w') a W := by
  refine LoopWp.round (wp_mono (R_8 hS hl hF) ?_)
  rintro ex a8 y8 ⟨hx, hF8⟩; cases ex <;> simp only [ExR] at hx
  refine LoopWp.round (wp_mono (R_9 hS hl hF8) ?_)
  rintro ex a9 y9 ⟨hx, hF9⟩; cases ex <;> simp only [ExR] at hx
  refine LoopWp.round (wp_mono (R_10 hS hl hF9) ?_)
  rintro ex a10 y10 ⟨hx, hF10⟩; cases ex <;> simp only [ExR] at hx
  refine LoopWp.round (wp_mono (R_11 hS hl hF10) ?_)
  rintro ex a11 y11 ⟨hx, hF11⟩; cases ex <;> simp only [ExR] at hx
  refine LoopWp.round (wp_mono (R_12 hS hl hF11) ?_)
  rintro ex a12 y12 ⟨hx, hF12⟩; cases ex <;> simp only [ExR] at hx
  refine LoopWp.round (wp_mono (R_13 hS hl hF12) ?_)
  rintro ex a13 y13 ⟨hx, hF13⟩; cases ex <;> simp only [ExR] at hx
  refine LoopWp.round (wp_mono (R_14 hS hl hF13) ?_)
  rintro ex a14 y14 ⟨hx, hF14⟩; cases ex <;> simp only [ExR] at hx
  refine LoopWp.round (wp_mono (stepK (kOut s z n t o0 o1 o2 o3 o4 o5 o8) rfl (by kernel_rfl) (keepJ hS) hF14) ?_)
  rintro ex a1 y1 ⟨hx, hF1⟩; cases ex <;> simp only [ExR] at hx
  subst hx
  exact ⟨rfl, hF1⟩
theorem codeIn : x_rrrrrrrlrborlbl = .seq x_rrrrrrrlrborlbll (.block 2 (.loop x_rrrrrrrlrborlblrbo)) := by kernel_rfl
theorem inner {s : ByteArray} {z : Int} {n t : Nat} {o0 o1 o2 o3 o4 o5 o8 : Blk} (hS : Stay o0 o1 o2 o3 o4 o5 o8) (hl : Nat.blt (bl s).length 1099511627776 = true) {N0 : Nat → Prop} {W0 W : World} {a : Act} (hF : Fam N0 102 (qJ s z n t o0 o1 o2 o3 o4 o5 o8) W0 a W) :
    x_rrrrrrrlrborlbl.wp Tryz.prog (fun ex a' w' => ex = .normal ∧ Fam N0 102 (qJ s z n t o0 o1 o2 o3 o4 o5 o8) W0 a' w') a W := by
  rw [codeIn]
  refine wp_seq (wp_mono (stepK (kIn s z n t o0 o1 o2 o3 o4 o5 o8) rfl (by kernel_rfl) (keepK hS) hF) ?_)
  rintro ex a1 y1 ⟨hx, hF1⟩; cases ex <;> simp only [ExR] at hx
  refine wp_block ?_
  refine wp_mono (loopK hS hl hF1).wp ?_
  rintro ex a2 y2 ⟨rfl, hF2⟩
  exact ⟨rfl, hF2⟩
theorem stayA (n : Nat) : Stay (.cells [.int .i64 (.ofNat 1048576), .map (some 1), .map (some 5), .slice none 0 0, .int .i64 (.ofNat 5), .int .i64 (.ofNat 0)] 81 .var) (.map [(.string ⟨⟨[112, 48, 48, 48, 48, 48, 48, 48, 49]⟩⟩, .pointer (some ⟨2, 0, none⟩), 0)] 1) (.cells [.slice (some ⟨3, 0, none⟩) 256 18446744073709551872, .slice (some ⟨4, 0, none⟩) 256 18446744073709551872, .slice none 0 0] 255 .var) (.cells (fileL n) 5 .grow) (.cells (fileL n) 5 .grow) (.map [(.string ⟨⟨[112, 48, 48, 48, 48, 48, 48, 48, 49]⟩⟩, .pointer (some ⟨2, 0, none⟩), 0)] 1) (.cells [.pointer (some ⟨0, 0, none⟩), .string ⟨⟨[112, 48, 48, 48, 48, 48, 48, 48, 49]⟩⟩, .int .i64 (.ofNat 256)] 110 .var) := ⟨by kernel_rfl, by kernel_rfl, by kernel_rfl, by kernel_rfl, by kernel_rfl, by kernel_rfl, by kernel_rfl⟩
theorem stayB (n : Nat) : Stay (.cells [.int .i64 (.ofNat 1048576), .map (some 1), .map (some 5), .slice none 0 0, .int .i64 (.ofNat 14), .int .i64 (.ofNat 0)] 81 .var) (.map [(.string ⟨⟨[112, 48, 48, 48, 48, 48, 48, 48, 50]⟩⟩, .pointer (some ⟨2, 0, none⟩), 2)] 3) (.cells [.slice (some ⟨3, 0, none⟩) 256 18446744073709551872, .slice (some ⟨4, 0, none⟩) 256 18446744073709551872, .slice none 0 0] 255 .var) (.cells (fileL n) 5 .grow) (.cells (fileL n) 5 .grow) (.map [(.string ⟨⟨[112, 48, 48, 48, 48, 48, 48, 48, 50]⟩⟩, .pointer (some ⟨2, 0, none⟩), 2)] 3) (.cells [.pointer (some ⟨0, 0, none⟩), .string ⟨⟨[112, 48, 48, 48, 48, 48, 48, 48, 50]⟩⟩, .int .i64 (.ofNat 256)] 110 .var) := ⟨by kernel_rfl, by kernel_rfl, by kernel_rfl, by kernel_rfl, by kernel_rfl, by kernel_rfl, by kernel_rfl⟩
theorem codeX : x_rrrrrrrlrborlb = .seq x_rrrrrrrlrborlbl x_rrrrrrrlrborlbr := by kernel_rfl
theorem codeO : x_rrrrrrrlrbo = .seq x_rrrrrrrlrbol (.seq (.block 1 x_rrrrrrrlrborlb) x_rrrrrrrlrborr) := by kernel_rfl
theorem roundA {s : ByteArray} {z : Int} {n : Nat} (hl : Nat.blt (bl s).length 1099511627776 = true) {N0 : Nat → Prop} {W0 W : World} {a : Act} (hF : Fam N0 102 (qA s z n 0) W0 a W) :
    x_rrrrrrrlrbo.wp Tryz.prog (fun ex a' w' => ex = .normal ∧ Fam N0 102 (qB s z n 1) W0 a' w') a W := by
  rw [codeO]
  refine wp_seq (wp_mono (stepT (gA s z n) rfl (by kernel_rfl) hF) ?_)
  rintro ex a1 y1 ⟨hx, hF1⟩; cases ex <;> simp only [ExR] at hx
  refine wp_seq (wp_block ?_)
  rw [codeX]
  refine wp_seq (wp_mono (inner (stayA n) hl hF1) ?_)
  rintro ex a2 y2 ⟨rfl, hF2⟩
  refine wp_mono (stepT (hA s z n) (by repeat' (first | assumption | exact rfl | exact okZ_u8 _ | exact decide_eq_true rfl | apply an | apply nt)) (by kernel_rfl) hF2) ?_
  rintro ex a3 y3 ⟨hx, hF3⟩; cases ex <;> simp only [ExR] at hx
  refine wp_mono (stepT (iA s z n) rfl (by kernel_rfl) hF3) ?_
  rintro ex a4 y4 ⟨hx, hF4⟩; cases ex <;> simp only [ExR] at hx
  exact ⟨rfl, hF4⟩
theorem roundB {s : ByteArray} {z : Int} {n : Nat} (hl : Nat.blt (bl s).length 1099511627776 = true) {N0 : Nat → Prop} {W0 W : World} {a : Act} (hF : Fam N0 102 (qB s z n 1) W0 a W) :
    x_rrrrrrrlrbo.wp Tryz.prog (fun ex a' w' => ex = .normal ∧ Fam N0 102 (qB s z n 2) W0 a' w') a W := by
  rw [codeO]
  refine wp_seq (wp_mono (stepT (gB s z n) rfl (by kernel_rfl) hF) ?_)
  rintro ex a1 y1 ⟨hx, hF1⟩; cases ex <;> simp only [ExR] at hx
  refine wp_seq (wp_block ?_)
  rw [codeX]
  refine wp_seq (wp_mono (inner (stayB n) hl hF1) ?_)
  rintro ex a2 y2 ⟨rfl, hF2⟩
  refine wp_mono (stepT (hB s z n) (by repeat' (first | assumption | exact rfl | exact okZ_u8 _ | exact decide_eq_true rfl | apply an | apply nt)) (by kernel_rfl) hF2) ?_
  rintro ex a3 y3 ⟨hx, hF3⟩; cases ex <;> simp only [ExR] at hx
  refine wp_mono (stepT (iB s z n) rfl (by kernel_rfl) hF3) ?_
  rintro ex a4 y4 ⟨hx, hF4⟩; cases ex <;> simp only [ExR] at hx
  exact ⟨rfl, hF4⟩
theorem loopO {s : ByteArray} {z : Int} {n : Nat} (hl : Nat.blt (bl s).length 1099511627776 = true) {N0 : Nat → Prop} {W0 W : World} {a : Act} (hF : Fam N0 102 (qA s z n 0) W0 a W) :
    LoopWp Tryz.prog x_rrrrrrrlrbo (fun ex a' w' => ex = .exit 0 ∧ Fam N0 102 (qB s z n 2) W0 a' w') a W := by
  refine LoopWp.round (wp_mono (roundA hl hF) ?_)
  rintro ex a1 y1 ⟨rfl, hF1⟩
  refine LoopWp.round (wp_mono (roundB hl hF1) ?_)
  rintro ex a2 y2 ⟨rfl, hF2⟩
  refine LoopWp.round ?_
  rw [codeO]
  refine wp_seq (wp_mono (stepT (gE s z n) rfl (by kernel_rfl) hF2) ?_)
  rintro ex a3 y3 ⟨hx, hF3⟩; cases ex <;> simp only [ExR] at hx
  subst hx
  exact ⟨rfl, hF3⟩
theorem codeS : x_rrrrrrrl = .seq x_rrrrrrrll (.block 0 (.loop x_rrrrrrrlrbo)) := by kernel_rfl
theorem codeT : Tryz.f3.body = some (.seq x_l (.seq x_rl (.seq x_rrl (.seq x_rrrl (.seq x_rrrrl (.seq x_rrrrrl (.seq x_rrrrrrl (.seq x_rrrrrrrl x_rrrrrrrr)))))))) := by kernel_rfl
theorem te_body {s : ByteArray} {z : Int} {n : Nat} (hn : n < 4294967296) {N0 : Nat → Prop} {W0 W : World} {a : Act} (hF : Fam N0 102 (q00 s z n) W0 a W) :
    (Code.seq x_l (Code.seq x_rl (Code.seq x_rrl (Code.seq x_rrrl (Code.seq x_rrrrl (Code.seq x_rrrrrl (Code.seq x_rrrrrrl (Code.seq x_rrrrrrrl x_rrrrrrrr)))))))).wp Tryz.prog (fun ex a' w' => ex = .ret ∧ Fam N0 102 (qE s z n) W0 a' w') a W := by
  have hw := wrapE (n := n) (by omega)
  refine wp_seq (wp_mono (stepT (f0 s z n) (by repeat' (first | assumption | exact rfl | exact okZ_u8 _ | apply an | apply nt)) (by kernel_rfl) hF) ?_)
  rintro ex a0 y0 ⟨hx, hF0⟩; cases ex <;> simp only [ExR] at hx
  refine wp_seq (wp_mono (stepT (f1 s z n) (by repeat' (first | assumption | exact rfl | exact okZ_u8 _ | apply an | apply nt)) (by kernel_rfl) hF0) ?_)
  rintro ex a1 y1 ⟨hx, hF1⟩; cases ex <;> simp only [ExR] at hx
  by_cases h40 : 40 < (bl s).length
  · refine wp_seq (wp_mono (stepT (fLong s z n) (an (ltB h40) rfl) (by kernel_rfl) hF1) ?_)
    rintro ex a1 y1 ⟨hx, hF1⟩; cases ex <;> simp only [ExR] at hx
    exact ⟨rfl, hF1⟩
  have hl : Nat.blt (bl s).length 1099511627776 = true := ltB (by omega)
  have h4 : Nat.blt 40 (bl s).length = false := hNB h40
  refine wp_seq (wp_mono (stepT (f2 s z n) (by repeat' (first | assumption | exact rfl | exact okZ_u8 _ | apply an | apply nt)) (by kernel_rfl) hF1) ?_)
  rintro ex a2 y2 ⟨hx, hF2⟩; cases ex <;> simp only [ExR] at hx
  refine wp_seq (wp_mono (stepT (f3 s z n) (by repeat' (first | assumption | exact rfl | exact okZ_u8 _ | apply an | apply nt)) (by kernel_rfl) hF2) ?_)
  rintro ex a3 y3 ⟨hx, hF3⟩; cases ex <;> simp only [ExR] at hx
  refine wp_seq (wp_mono (stepT (f4 s z n) (by repeat' (first | assumption | exact rfl | exact okZ_u8 _ | apply an | apply nt)) (by kernel_rfl) hF3) ?_)
  rintro ex a4 y4 ⟨hx, hF4⟩; cases ex <;> simp only [ExR] at hx
  refine wp_seq (wp_mono (stepT (f5 s z n) (by repeat' (first | assumption | exact rfl | exact okZ_u8 _ | apply an | apply nt)) (by kernel_rfl) hF4) ?_)
  rintro ex a5 y5 ⟨hx, hF5⟩; cases ex <;> simp only [ExR] at hx
  refine wp_seq (wp_mono (stepT (f6 s z n) (by repeat' (first | assumption | exact rfl | exact okZ_u8 _ | apply an | apply nt)) (by kernel_rfl) hF5) ?_)
  rintro ex a6 y6 ⟨hx, hF6⟩; cases ex <;> simp only [ExR] at hx
  rw [codeS]
  refine wp_seq (wp_seq (wp_mono (stepT (f7 s z n) rfl (by kernel_rfl) hF6) ?_))
  rintro ex a7 y7 ⟨hx, hF7⟩; cases ex <;> simp only [ExR] at hx
  refine wp_block ?_
  refine wp_mono (loopO hl hF7).wp ?_
  rintro ex a8 y8 ⟨rfl, hF8⟩
  show x_rrrrrrrr.wp _ _ _ _
  refine wp_mono (stepT (gZ s z n) (an (nn (Nat.beq_refl n)) rfl) (by kernel_rfl) hF8) ?_
  rintro ex a9 y9 ⟨hx, hF9⟩; cases ex <;> simp only [ExR] at hx
  exact ⟨rfl, hF9⟩

theorem te_results : Tryz.f3.results.toList = [.tmp 6] := by kernel_rfl
theorem te_ntmps : Tryz.f3.ntmps = 102 := by kernel_rfl

theorem topEmpty_true (s0 : ByteArray) {p0 : Prop} (w0 : p0) (a1 : Int) {p1 : Prop} (w1 : p1) (a2 : Int) (w2 : (Lit.int .u32 a2).wf = true) (w : World) :
    Calls Tryz.prog 3 #[.string s0, .int .i64 a1, .int .u32 a2] w fun e w' => e = .returned (.bool true) ∧ RowKit.Below w.heap.size w w' := by
  have hw : 0 ≤ a2 ∧ a2 ≤ 4294967295 := by simpa [Lit.wf, IntKind.min, IntKind.max, IntKind.signed, IntKind.bits] using w2
  obtain ⟨n, rfl⟩ : ∃ n : Nat, a2 = Int.ofNat n := ⟨a2.toNat, by simp only [Int.ofNat_eq_natCast]; omega⟩
  have hn : n < 4294967296 := by have := hw.2; simp only [Int.ofNat_eq_natCast] at this; omega
  refine calls_of_wp Tryz.func3 codeT ?_
  have hF : Fam (fun k => w.heap.size ≤ k) 102 (q00 s0 a1 n) w { tmps := #[.string s0, .int .i64 a1, .int .u32 (.ofNat n)] ++ Array.replicate (Tryz.f3.ntmps - (#[Value.string s0, .int .i64 a1, .int .u32 (.ofNat n)] : Array Value).size) undef, defers := [] } w := by
    rw [te_ntmps]
    refine ⟨fun _ => none, ⟨fun b o hb => (by cases hb), fun b1 b2 o1 o2 L1 L2 _ hb => (by cases hb), fun _ h => h⟩, fun _ _ => rfl, ⟨by simp, rfl, fun i u hu => ?_⟩, Ideal.Below.refl _ _⟩
    rcases setT_get (q00 s0 a1 n).lt .nil i u hu with h | h
    · have h : (i, u) ∈ [(0, Value.string s0), (1, .int .i64 a1), (2, .int .u32 (.ofNat n))] := h
      simp only [List.mem_cons, List.not_mem_nil, or_false, Prod.mk.injEq] at h
      rcases h with ⟨rfl, rfl⟩ | ⟨rfl, rfl⟩ | ⟨rfl, rfl⟩
      · exact ⟨_, by simp, .string _⟩
      · exact ⟨_, by simp, .int _ _⟩
      · exact ⟨_, by simp, .int _ _⟩
    · cases h
  refine wp_mono (te_body hn hF) ?_
  rintro ex a' w' ⟨rfl, β, hI, _, hT, hB⟩
  obtain ⟨v', e1, e2⟩ := hT.rel 6 (.bool true) rfl
  cases e2
  refine ⟨hT.defers, .bool true, ?_, rfl, hB.num⟩
  refine run_results (vs' := [.bool true]) ?_
  rw [te_results]
  simp [List.mapM_cons, resF, e1]

end Go.Proofs.YtdkofgkmhgmmmaaGreatDoor

