/- PlanKeys: at every row of numbers and every next number. -/
import Derived.Test.YtelifilabbadmaaPl
namespace Go.Proofs.Ytelifilabbadmaa
set_option linter.all false
set_option linter.unusedSimpArgs false
set_option linter.unusedVariables false
open Go Go.Ideal
set_option maxRecDepth 100000
set_option maxHeartbeats 4000000

theorem tt2 {a b : Bool} (h : a = true) (h' : b = true) : (a && b) = true := by rw [h, h']; rfl

theorem two {x : Int} (h : 0 ≤ x) : x.tmod 2 = Int.ofNat 0 ∨ x.tmod 2 = Int.ofNat 1 := by
  obtain ⟨k, rfl⟩ := Int.eq_ofNat_of_zero_le h
  have e : Int.tmod (k : Int) 2 = Int.ofNat (k % 2) := rfl
  rw [e]
  have : k % 2 = 0 ∨ k % 2 = 1 := by omega
  rcases this with h | h <;> rw [h]
  · exact .inl rfl
  · exact .inr rfl
theorem idx_ok {x : Int} (h : 0 ≤ x) : oIdx x = true := by unfold oIdx; rcases two h with e | e <;> rw [e] <;> rfl
theorem load_ok {x : Int} (h : 0 ≤ x) : oLoad x = true := by unfold oLoad offK; rcases two h with e | e <;> rw [e] <;> rfl
theorem next_ok {x : Int} (h : 0 ≤ x) : oNext x = true := by unfold oNext cK offK; rcases two h with e | e <;> rw [e] <;> rfl
theorem low_ok {x : Int} (h : 0 ≤ x) : oLow x = true := by unfold oLow cK offK; rcases two h with e | e <;> rw [e] <;> rfl
theorem high_ok {x : Int} (h : 0 ≤ x) : oHigh x = true := by unfold oHigh cK offK; rcases two h with e | e <;> rw [e] <;> rfl
theorem wrap_id {x : Int} (h : 0 ≤ x) (h' : x < 9223372036854775808) : wrapF .i64 x = x := by
  unfold wrapF
  have : x % 18446744073709551616 = x := Int.emod_eq_of_lt h (by omega)
  simp only [this]
  rw [if_neg (by omega)]
theorem neg_ok {nx : Int} (h : 0 ≤ nx) (h' : nx ≤ 4294967295) (i : Nat) (hi : i ≤ 20) : oNeg nx i = true := by
  unfold oNeg
  rw [wrap_id h (by omega), wrap_id (by simp; omega) (by simp; omega), ltI_eq]
  simp; omega
theorem max_ok {nx : Int} (h : 0 ≤ nx) (h' : nx ≤ 4294967295) (n : Nat) (hn : n ≤ 20) : oMax nx n = true := by
  unfold oMax
  rw [wrap_id h (by omega), ltI_eq]
  simp; omega
theorem lt_ok {i len : Nat} (h : i < len) : ltI (Int.ofNat i) (Int.ofNat len) = true := blt_iff.2 h
theorem nlt_ok {i len : Nat} (h : ¬ i < len) : (!ltI (Int.ofNat i) (Int.ofNat len)) = true := by
  show (!Nat.blt i len) = true
  rw [blt_ff h]; rfl
theorem ten_ok {len : Nat} (h : 10 < len) : eqI (cond (ltI 10 (Int.ofNat len)) 10 (Int.ofNat len)) (Int.ofNat 10) = true := by
  have : ltI 10 (Int.ofNat len) = true := blt_iff.2 h
  rw [this]; rfl

theorem pt1 (x0 : Int) (r : List Value) (cap : Nat) (e : TypeId) (nx : Int) (h0 : 0 ≤ x0) (hn : 0 ≤ nx) (hn' : nx ≤ 4294967295) : isTrue (callM pE 100 4 [.slice (some ⟨0, 0, none⟩) 1 cap, .int .u32 nx] (SR (.int .u8 x0 :: r) e)) = true :=
  path_yes (noWaysOK _) (pk1 x0 r cap e nx) (tt2 (high_ok h0) (tt2 (low_ok h0) (tt2 (next_ok h0) (tt2 (load_ok h0) (tt2 (idx_ok h0) rfl)))))
theorem pt2 (x0 x1 : Int) (r : List Value) (cap : Nat) (e : TypeId) (nx : Int) (h0 : 0 ≤ x0) (h1 : 0 ≤ x1) (hn : 0 ≤ nx) (hn' : nx ≤ 4294967295) : isTrue (callM pE 100 4 [.slice (some ⟨0, 0, none⟩) 2 cap, .int .u32 nx] (SR (.int .u8 x0 :: .int .u8 x1 :: r) e)) = true :=
  path_yes (noWaysOK _) (pk2 x0 x1 r cap e nx) (tt2 (neg_ok hn hn' 0 (by decide)) (tt2 (neg_ok hn hn' 1 (by decide)) (tt2 (high_ok h1) (tt2 (low_ok h1) (tt2 (next_ok h1) (tt2 (neg_ok hn hn' 1 (by decide)) (tt2 (neg_ok hn hn' 0 (by decide)) (tt2 (high_ok h0) (tt2 (low_ok h0) (tt2 (next_ok h0) (tt2 (neg_ok hn hn' 0 (by decide)) (tt2 (max_ok hn hn' 2 (by decide)) (tt2 (high_ok h1) (tt2 (low_ok h1) (tt2 (next_ok h1) (tt2 (high_ok h0) (tt2 (low_ok h0) (tt2 (next_ok h0) (tt2 (load_ok h1) (tt2 (idx_ok h1) (tt2 (load_ok h0) (tt2 (idx_ok h0) rfl))))))))))))))))))))))
theorem pt3 (x0 x1 x2 : Int) (r : List Value) (cap : Nat) (e : TypeId) (nx : Int) (h0 : 0 ≤ x0) (h1 : 0 ≤ x1) (h2 : 0 ≤ x2) (hn : 0 ≤ nx) (hn' : nx ≤ 4294967295) : isTrue (callM pE 100 4 [.slice (some ⟨0, 0, none⟩) 3 cap, .int .u32 nx] (SR (.int .u8 x0 :: .int .u8 x1 :: .int .u8 x2 :: r) e)) = true :=
  path_yes (noWaysOK _) (pk3 x0 x1 x2 r cap e nx) (tt2 (neg_ok hn hn' 0 (by decide)) (tt2 (neg_ok hn hn' 2 (by decide)) (tt2 (high_ok h1) (tt2 (low_ok h1) (tt2 (next_ok h1) (tt2 (neg_ok hn hn' 2 (by decide)) (tt2 (neg_ok hn hn' 1 (by decide)) (tt2 (high_ok h2) (tt2 (low_ok h2) (tt2 (next_ok h2) (tt2 (neg_ok hn hn' 1 (by decide)) (tt2 (neg_ok hn hn' 0 (by decide)) (tt2 (high_ok h0) (tt2 (low_ok h0) (tt2 (next_ok h0) (tt2 (neg_ok hn hn' 0 (by decide)) (tt2 (max_ok hn hn' 3 (by decide)) (tt2 (high_ok h1) (tt2 (low_ok h1) (tt2 (next_ok h1) (tt2 (high_ok h2) (tt2 (low_ok h2) (tt2 (next_ok h2) (tt2 (high_ok h0) (tt2 (low_ok h0) (tt2 (next_ok h0) (tt2 (load_ok h2) (tt2 (idx_ok h2) (tt2 (load_ok h1) (tt2 (idx_ok h1) (tt2 (load_ok h0) (tt2 (idx_ok h0) rfl))))))))))))))))))))))))))))))))
theorem pt4 (x0 x1 x2 x3 : Int) (r : List Value) (cap : Nat) (e : TypeId) (nx : Int) (h0 : 0 ≤ x0) (h1 : 0 ≤ x1) (h2 : 0 ≤ x2) (h3 : 0 ≤ x3) (hn : 0 ≤ nx) (hn' : nx ≤ 4294967295) : isTrue (callM pE 100 4 [.slice (some ⟨0, 0, none⟩) 4 cap, .int .u32 nx] (SR (.int .u8 x0 :: .int .u8 x1 :: .int .u8 x2 :: .int .u8 x3 :: r) e)) = true :=
  path_yes (noWaysOK _) (pk4 x0 x1 x2 x3 r cap e nx) (tt2 (neg_ok hn hn' 0 (by decide)) (tt2 (neg_ok hn hn' 3 (by decide)) (tt2 (high_ok h3) (tt2 (low_ok h3) (tt2 (next_ok h3) (tt2 (neg_ok hn hn' 3 (by decide)) (tt2 (neg_ok hn hn' 2 (by decide)) (tt2 (high_ok h1) (tt2 (low_ok h1) (tt2 (next_ok h1) (tt2 (neg_ok hn hn' 2 (by decide)) (tt2 (neg_ok hn hn' 1 (by decide)) (tt2 (high_ok h2) (tt2 (low_ok h2) (tt2 (next_ok h2) (tt2 (neg_ok hn hn' 1 (by decide)) (tt2 (neg_ok hn hn' 0 (by decide)) (tt2 (high_ok h0) (tt2 (low_ok h0) (tt2 (next_ok h0) (tt2 (neg_ok hn hn' 0 (by decide)) (tt2 (max_ok hn hn' 4 (by decide)) (tt2 (high_ok h3) (tt2 (low_ok h3) (tt2 (next_ok h3) (tt2 (high_ok h1) (tt2 (low_ok h1) (tt2 (next_ok h1) (tt2 (high_ok h2) (tt2 (low_ok h2) (tt2 (next_ok h2) (tt2 (high_ok h0) (tt2 (low_ok h0) (tt2 (next_ok h0) (tt2 (load_ok h3) (tt2 (idx_ok h3) (tt2 (load_ok h2) (tt2 (idx_ok h2) (tt2 (load_ok h1) (tt2 (idx_ok h1) (tt2 (load_ok h0) (tt2 (idx_ok h0) rfl))))))))))))))))))))))))))))))))))))))))))
theorem pt5 (x0 x1 x2 x3 x4 : Int) (r : List Value) (cap : Nat) (e : TypeId) (nx : Int) (h0 : 0 ≤ x0) (h1 : 0 ≤ x1) (h2 : 0 ≤ x2) (h3 : 0 ≤ x3) (h4 : 0 ≤ x4) (hn : 0 ≤ nx) (hn' : nx ≤ 4294967295) : isTrue (callM pE 100 4 [.slice (some ⟨0, 0, none⟩) 5 cap, .int .u32 nx] (SR (.int .u8 x0 :: .int .u8 x1 :: .int .u8 x2 :: .int .u8 x3 :: .int .u8 x4 :: r) e)) = true :=
  path_yes (noWaysOK _) (pk5 x0 x1 x2 x3 x4 r cap e nx) (tt2 (neg_ok hn hn' 0 (by decide)) (tt2 (neg_ok hn hn' 4 (by decide)) (tt2 (high_ok h3) (tt2 (low_ok h3) (tt2 (next_ok h3) (tt2 (neg_ok hn hn' 4 (by decide)) (tt2 (neg_ok hn hn' 3 (by decide)) (tt2 (high_ok h1) (tt2 (low_ok h1) (tt2 (next_ok h1) (tt2 (neg_ok hn hn' 3 (by decide)) (tt2 (neg_ok hn hn' 2 (by decide)) (tt2 (high_ok h4) (tt2 (low_ok h4) (tt2 (next_ok h4) (tt2 (neg_ok hn hn' 2 (by decide)) (tt2 (neg_ok hn hn' 1 (by decide)) (tt2 (high_ok h2) (tt2 (low_ok h2) (tt2 (next_ok h2) (tt2 (neg_ok hn hn' 1 (by decide)) (tt2 (neg_ok hn hn' 0 (by decide)) (tt2 (high_ok h0) (tt2 (low_ok h0) (tt2 (next_ok h0) (tt2 (neg_ok hn hn' 0 (by decide)) (tt2 (max_ok hn hn' 5 (by decide)) (tt2 (high_ok h3) (tt2 (low_ok h3) (tt2 (next_ok h3) (tt2 (high_ok h1) (tt2 (low_ok h1) (tt2 (next_ok h1) (tt2 (high_ok h4) (tt2 (low_ok h4) (tt2 (next_ok h4) (tt2 (high_ok h2) (tt2 (low_ok h2) (tt2 (next_ok h2) (tt2 (high_ok h0) (tt2 (low_ok h0) (tt2 (next_ok h0) (tt2 (load_ok h4) (tt2 (idx_ok h4) (tt2 (load_ok h3) (tt2 (idx_ok h3) (tt2 (load_ok h2) (tt2 (idx_ok h2) (tt2 (load_ok h1) (tt2 (idx_ok h1) (tt2 (load_ok h0) (tt2 (idx_ok h0) rfl))))))))))))))))))))))))))))))))))))))))))))))))))))
theorem pt6 (x0 x1 x2 x3 x4 x5 : Int) (r : List Value) (cap : Nat) (e : TypeId) (nx : Int) (h0 : 0 ≤ x0) (h1 : 0 ≤ x1) (h2 : 0 ≤ x2) (h3 : 0 ≤ x3) (h4 : 0 ≤ x4) (h5 : 0 ≤ x5) (hn : 0 ≤ nx) (hn' : nx ≤ 4294967295) : isTrue (callM pE 100 4 [.slice (some ⟨0, 0, none⟩) 6 cap, .int .u32 nx] (SR (.int .u8 x0 :: .int .u8 x1 :: .int .u8 x2 :: .int .u8 x3 :: .int .u8 x4 :: .int .u8 x5 :: r) e)) = true :=
  path_yes (noWaysOK _) (pk6 x0 x1 x2 x3 x4 x5 r cap e nx) (tt2 (neg_ok hn hn' 0 (by decide)) (tt2 (neg_ok hn hn' 5 (by decide)) (tt2 (high_ok h5) (tt2 (low_ok h5) (tt2 (next_ok h5) (tt2 (neg_ok hn hn' 5 (by decide)) (tt2 (neg_ok hn hn' 4 (by decide)) (tt2 (high_ok h3) (tt2 (low_ok h3) (tt2 (next_ok h3) (tt2 (neg_ok hn hn' 4 (by decide)) (tt2 (neg_ok hn hn' 3 (by decide)) (tt2 (high_ok h1) (tt2 (low_ok h1) (tt2 (next_ok h1) (tt2 (neg_ok hn hn' 3 (by decide)) (tt2 (neg_ok hn hn' 2 (by decide)) (tt2 (high_ok h4) (tt2 (low_ok h4) (tt2 (next_ok h4) (tt2 (neg_ok hn hn' 2 (by decide)) (tt2 (neg_ok hn hn' 1 (by decide)) (tt2 (high_ok h2) (tt2 (low_ok h2) (tt2 (next_ok h2) (tt2 (neg_ok hn hn' 1 (by decide)) (tt2 (neg_ok hn hn' 0 (by decide)) (tt2 (high_ok h0) (tt2 (low_ok h0) (tt2 (next_ok h0) (tt2 (neg_ok hn hn' 0 (by decide)) (tt2 (max_ok hn hn' 6 (by decide)) (tt2 (high_ok h5) (tt2 (low_ok h5) (tt2 (next_ok h5) (tt2 (high_ok h3) (tt2 (low_ok h3) (tt2 (next_ok h3) (tt2 (high_ok h1) (tt2 (low_ok h1) (tt2 (next_ok h1) (tt2 (high_ok h4) (tt2 (low_ok h4) (tt2 (next_ok h4) (tt2 (high_ok h2) (tt2 (low_ok h2) (tt2 (next_ok h2) (tt2 (high_ok h0) (tt2 (low_ok h0) (tt2 (next_ok h0) (tt2 (load_ok h5) (tt2 (idx_ok h5) (tt2 (load_ok h4) (tt2 (idx_ok h4) (tt2 (load_ok h3) (tt2 (idx_ok h3) (tt2 (load_ok h2) (tt2 (idx_ok h2) (tt2 (load_ok h1) (tt2 (idx_ok h1) (tt2 (load_ok h0) (tt2 (idx_ok h0) rfl))))))))))))))))))))))))))))))))))))))))))))))))))))))))))))))
theorem pt7 (x0 x1 x2 x3 x4 x5 x6 : Int) (r : List Value) (cap : Nat) (e : TypeId) (nx : Int) (h0 : 0 ≤ x0) (h1 : 0 ≤ x1) (h2 : 0 ≤ x2) (h3 : 0 ≤ x3) (h4 : 0 ≤ x4) (h5 : 0 ≤ x5) (h6 : 0 ≤ x6) (hn : 0 ≤ nx) (hn' : nx ≤ 4294967295) : isTrue (callM pE 100 4 [.slice (some ⟨0, 0, none⟩) 7 cap, .int .u32 nx] (SR (.int .u8 x0 :: .int .u8 x1 :: .int .u8 x2 :: .int .u8 x3 :: .int .u8 x4 :: .int .u8 x5 :: .int .u8 x6 :: r) e)) = true :=
  path_yes (noWaysOK _) (pk7 x0 x1 x2 x3 x4 x5 x6 r cap e nx) (tt2 (neg_ok hn hn' 0 (by decide)) (tt2 (neg_ok hn hn' 6 (by decide)) (tt2 (high_ok h5) (tt2 (low_ok h5) (tt2 (next_ok h5) (tt2 (neg_ok hn hn' 6 (by decide)) (tt2 (neg_ok hn hn' 5 (by decide)) (tt2 (high_ok h3) (tt2 (low_ok h3) (tt2 (next_ok h3) (tt2 (neg_ok hn hn' 5 (by decide)) (tt2 (neg_ok hn hn' 4 (by decide)) (tt2 (high_ok h1) (tt2 (low_ok h1) (tt2 (next_ok h1) (tt2 (neg_ok hn hn' 4 (by decide)) (tt2 (neg_ok hn hn' 3 (by decide)) (tt2 (high_ok h6) (tt2 (low_ok h6) (tt2 (next_ok h6) (tt2 (neg_ok hn hn' 3 (by decide)) (tt2 (neg_ok hn hn' 2 (by decide)) (tt2 (high_ok h4) (tt2 (low_ok h4) (tt2 (next_ok h4) (tt2 (neg_ok hn hn' 2 (by decide)) (tt2 (neg_ok hn hn' 1 (by decide)) (tt2 (high_ok h2) (tt2 (low_ok h2) (tt2 (next_ok h2) (tt2 (neg_ok hn hn' 1 (by decide)) (tt2 (neg_ok hn hn' 0 (by decide)) (tt2 (high_ok h0) (tt2 (low_ok h0) (tt2 (next_ok h0) (tt2 (neg_ok hn hn' 0 (by decide)) (tt2 (max_ok hn hn' 7 (by decide)) (tt2 (high_ok h5) (tt2 (low_ok h5) (tt2 (next_ok h5) (tt2 (high_ok h3) (tt2 (low_ok h3) (tt2 (next_ok h3) (tt2 (high_ok h1) (tt2 (low_ok h1) (tt2 (next_ok h1) (tt2 (high_ok h6) (tt2 (low_ok h6) (tt2 (next_ok h6) (tt2 (high_ok h4) (tt2 (low_ok h4) (tt2 (next_ok h4) (tt2 (high_ok h2) (tt2 (low_ok h2) (tt2 (next_ok h2) (tt2 (high_ok h0) (tt2 (low_ok h0) (tt2 (next_ok h0) (tt2 (load_ok h6) (tt2 (idx_ok h6) (tt2 (load_ok h5) (tt2 (idx_ok h5) (tt2 (load_ok h4) (tt2 (idx_ok h4) (tt2 (load_ok h3) (tt2 (idx_ok h3) (tt2 (load_ok h2) (tt2 (idx_ok h2) (tt2 (load_ok h1) (tt2 (idx_ok h1) (tt2 (load_ok h0) (tt2 (idx_ok h0) rfl))))))))))))))))))))))))))))))))))))))))))))))))))))))))))))))))))))))))
theorem pt8 (x0 x1 x2 x3 x4 x5 x6 x7 : Int) (r : List Value) (cap : Nat) (e : TypeId) (nx : Int) (h0 : 0 ≤ x0) (h1 : 0 ≤ x1) (h2 : 0 ≤ x2) (h3 : 0 ≤ x3) (h4 : 0 ≤ x4) (h5 : 0 ≤ x5) (h6 : 0 ≤ x6) (h7 : 0 ≤ x7) (hn : 0 ≤ nx) (hn' : nx ≤ 4294967295) : isTrue (callM pE 100 4 [.slice (some ⟨0, 0, none⟩) 8 cap, .int .u32 nx] (SR (.int .u8 x0 :: .int .u8 x1 :: .int .u8 x2 :: .int .u8 x3 :: .int .u8 x4 :: .int .u8 x5 :: .int .u8 x6 :: .int .u8 x7 :: r) e)) = true :=
  path_yes (noWaysOK _) (pk8 x0 x1 x2 x3 x4 x5 x6 x7 r cap e nx) (tt2 (neg_ok hn hn' 0 (by decide)) (tt2 (neg_ok hn hn' 7 (by decide)) (tt2 (high_ok h7) (tt2 (low_ok h7) (tt2 (next_ok h7) (tt2 (neg_ok hn hn' 7 (by decide)) (tt2 (neg_ok hn hn' 6 (by decide)) (tt2 (high_ok h5) (tt2 (low_ok h5) (tt2 (next_ok h5) (tt2 (neg_ok hn hn' 6 (by decide)) (tt2 (neg_ok hn hn' 5 (by decide)) (tt2 (high_ok h3) (tt2 (low_ok h3) (tt2 (next_ok h3) (tt2 (neg_ok hn hn' 5 (by decide)) (tt2 (neg_ok hn hn' 4 (by decide)) (tt2 (high_ok h1) (tt2 (low_ok h1) (tt2 (next_ok h1) (tt2 (neg_ok hn hn' 4 (by decide)) (tt2 (neg_ok hn hn' 3 (by decide)) (tt2 (high_ok h6) (tt2 (low_ok h6) (tt2 (next_ok h6) (tt2 (neg_ok hn hn' 3 (by decide)) (tt2 (neg_ok hn hn' 2 (by decide)) (tt2 (high_ok h4) (tt2 (low_ok h4) (tt2 (next_ok h4) (tt2 (neg_ok hn hn' 2 (by decide)) (tt2 (neg_ok hn hn' 1 (by decide)) (tt2 (high_ok h2) (tt2 (low_ok h2) (tt2 (next_ok h2) (tt2 (neg_ok hn hn' 1 (by decide)) (tt2 (neg_ok hn hn' 0 (by decide)) (tt2 (high_ok h0) (tt2 (low_ok h0) (tt2 (next_ok h0) (tt2 (neg_ok hn hn' 0 (by decide)) (tt2 (max_ok hn hn' 8 (by decide)) (tt2 (high_ok h7) (tt2 (low_ok h7) (tt2 (next_ok h7) (tt2 (high_ok h5) (tt2 (low_ok h5) (tt2 (next_ok h5) (tt2 (high_ok h3) (tt2 (low_ok h3) (tt2 (next_ok h3) (tt2 (high_ok h1) (tt2 (low_ok h1) (tt2 (next_ok h1) (tt2 (high_ok h6) (tt2 (low_ok h6) (tt2 (next_ok h6) (tt2 (high_ok h4) (tt2 (low_ok h4) (tt2 (next_ok h4) (tt2 (high_ok h2) (tt2 (low_ok h2) (tt2 (next_ok h2) (tt2 (high_ok h0) (tt2 (low_ok h0) (tt2 (next_ok h0) (tt2 (load_ok h7) (tt2 (idx_ok h7) (tt2 (load_ok h6) (tt2 (idx_ok h6) (tt2 (load_ok h5) (tt2 (idx_ok h5) (tt2 (load_ok h4) (tt2 (idx_ok h4) (tt2 (load_ok h3) (tt2 (idx_ok h3) (tt2 (load_ok h2) (tt2 (idx_ok h2) (tt2 (load_ok h1) (tt2 (idx_ok h1) (tt2 (load_ok h0) (tt2 (idx_ok h0) rfl))))))))))))))))))))))))))))))))))))))))))))))))))))))))))))))))))))))))))))))))))
theorem pt9 (x0 x1 x2 x3 x4 x5 x6 x7 x8 : Int) (r : List Value) (cap : Nat) (e : TypeId) (nx : Int) (h0 : 0 ≤ x0) (h1 : 0 ≤ x1) (h2 : 0 ≤ x2) (h3 : 0 ≤ x3) (h4 : 0 ≤ x4) (h5 : 0 ≤ x5) (h6 : 0 ≤ x6) (h7 : 0 ≤ x7) (h8 : 0 ≤ x8) (hn : 0 ≤ nx) (hn' : nx ≤ 4294967295) : isTrue (callM pE 100 4 [.slice (some ⟨0, 0, none⟩) 9 cap, .int .u32 nx] (SR (.int .u8 x0 :: .int .u8 x1 :: .int .u8 x2 :: .int .u8 x3 :: .int .u8 x4 :: .int .u8 x5 :: .int .u8 x6 :: .int .u8 x7 :: .int .u8 x8 :: r) e)) = true :=
  path_yes (noWaysOK _) (pk9 x0 x1 x2 x3 x4 x5 x6 x7 x8 r cap e nx) (tt2 (neg_ok hn hn' 0 (by decide)) (tt2 (neg_ok hn hn' 8 (by decide)) (tt2 (high_ok h7) (tt2 (low_ok h7) (tt2 (next_ok h7) (tt2 (neg_ok hn hn' 8 (by decide)) (tt2 (neg_ok hn hn' 7 (by decide)) (tt2 (high_ok h5) (tt2 (low_ok h5) (tt2 (next_ok h5) (tt2 (neg_ok hn hn' 7 (by decide)) (tt2 (neg_ok hn hn' 6 (by decide)) (tt2 (high_ok h3) (tt2 (low_ok h3) (tt2 (next_ok h3) (tt2 (neg_ok hn hn' 6 (by decide)) (tt2 (neg_ok hn hn' 5 (by decide)) (tt2 (high_ok h1) (tt2 (low_ok h1) (tt2 (next_ok h1) (tt2 (neg_ok hn hn' 5 (by decide)) (tt2 (neg_ok hn hn' 4 (by decide)) (tt2 (high_ok h8) (tt2 (low_ok h8) (tt2 (next_ok h8) (tt2 (neg_ok hn hn' 4 (by decide)) (tt2 (neg_ok hn hn' 3 (by decide)) (tt2 (high_ok h6) (tt2 (low_ok h6) (tt2 (next_ok h6) (tt2 (neg_ok hn hn' 3 (by decide)) (tt2 (neg_ok hn hn' 2 (by decide)) (tt2 (high_ok h4) (tt2 (low_ok h4) (tt2 (next_ok h4) (tt2 (neg_ok hn hn' 2 (by decide)) (tt2 (neg_ok hn hn' 1 (by decide)) (tt2 (high_ok h2) (tt2 (low_ok h2) (tt2 (next_ok h2) (tt2 (neg_ok hn hn' 1 (by decide)) (tt2 (neg_ok hn hn' 0 (by decide)) (tt2 (high_ok h0) (tt2 (low_ok h0) (tt2 (next_ok h0) (tt2 (neg_ok hn hn' 0 (by decide)) (tt2 (max_ok hn hn' 9 (by decide)) (tt2 (high_ok h7) (tt2 (low_ok h7) (tt2 (next_ok h7) (tt2 (high_ok h5) (tt2 (low_ok h5) (tt2 (next_ok h5) (tt2 (high_ok h3) (tt2 (low_ok h3) (tt2 (next_ok h3) (tt2 (high_ok h1) (tt2 (low_ok h1) (tt2 (next_ok h1) (tt2 (high_ok h8) (tt2 (low_ok h8) (tt2 (next_ok h8) (tt2 (high_ok h6) (tt2 (low_ok h6) (tt2 (next_ok h6) (tt2 (high_ok h4) (tt2 (low_ok h4) (tt2 (next_ok h4) (tt2 (high_ok h2) (tt2 (low_ok h2) (tt2 (next_ok h2) (tt2 (high_ok h0) (tt2 (low_ok h0) (tt2 (next_ok h0) (tt2 (load_ok h8) (tt2 (idx_ok h8) (tt2 (load_ok h7) (tt2 (idx_ok h7) (tt2 (load_ok h6) (tt2 (idx_ok h6) (tt2 (load_ok h5) (tt2 (idx_ok h5) (tt2 (load_ok h4) (tt2 (idx_ok h4) (tt2 (load_ok h3) (tt2 (idx_ok h3) (tt2 (load_ok h2) (tt2 (idx_ok h2) (tt2 (load_ok h1) (tt2 (idx_ok h1) (tt2 (load_ok h0) (tt2 (idx_ok h0) rfl))))))))))))))))))))))))))))))))))))))))))))))))))))))))))))))))))))))))))))))))))))))))))))
theorem pt10 (x0 x1 x2 x3 x4 x5 x6 x7 x8 x9 : Int) (r : List Value) (cap : Nat) (e : TypeId) (nx : Int) (h0 : 0 ≤ x0) (h1 : 0 ≤ x1) (h2 : 0 ≤ x2) (h3 : 0 ≤ x3) (h4 : 0 ≤ x4) (h5 : 0 ≤ x5) (h6 : 0 ≤ x6) (h7 : 0 ≤ x7) (h8 : 0 ≤ x8) (h9 : 0 ≤ x9) (hn : 0 ≤ nx) (hn' : nx ≤ 4294967295) : isTrue (callM pE 100 4 [.slice (some ⟨0, 0, none⟩) 10 cap, .int .u32 nx] (SR (.int .u8 x0 :: .int .u8 x1 :: .int .u8 x2 :: .int .u8 x3 :: .int .u8 x4 :: .int .u8 x5 :: .int .u8 x6 :: .int .u8 x7 :: .int .u8 x8 :: .int .u8 x9 :: r) e)) = true :=
  path_yes (noWaysOK _) (pk10 x0 x1 x2 x3 x4 x5 x6 x7 x8 x9 r cap e nx) (tt2 (neg_ok hn hn' 0 (by decide)) (tt2 (neg_ok hn hn' 9 (by decide)) (tt2 (high_ok h9) (tt2 (low_ok h9) (tt2 (next_ok h9) (tt2 (neg_ok hn hn' 9 (by decide)) (tt2 (neg_ok hn hn' 8 (by decide)) (tt2 (high_ok h7) (tt2 (low_ok h7) (tt2 (next_ok h7) (tt2 (neg_ok hn hn' 8 (by decide)) (tt2 (neg_ok hn hn' 7 (by decide)) (tt2 (high_ok h5) (tt2 (low_ok h5) (tt2 (next_ok h5) (tt2 (neg_ok hn hn' 7 (by decide)) (tt2 (neg_ok hn hn' 6 (by decide)) (tt2 (high_ok h3) (tt2 (low_ok h3) (tt2 (next_ok h3) (tt2 (neg_ok hn hn' 6 (by decide)) (tt2 (neg_ok hn hn' 5 (by decide)) (tt2 (high_ok h1) (tt2 (low_ok h1) (tt2 (next_ok h1) (tt2 (neg_ok hn hn' 5 (by decide)) (tt2 (neg_ok hn hn' 4 (by decide)) (tt2 (high_ok h8) (tt2 (low_ok h8) (tt2 (next_ok h8) (tt2 (neg_ok hn hn' 4 (by decide)) (tt2 (neg_ok hn hn' 3 (by decide)) (tt2 (high_ok h6) (tt2 (low_ok h6) (tt2 (next_ok h6) (tt2 (neg_ok hn hn' 3 (by decide)) (tt2 (neg_ok hn hn' 2 (by decide)) (tt2 (high_ok h4) (tt2 (low_ok h4) (tt2 (next_ok h4) (tt2 (neg_ok hn hn' 2 (by decide)) (tt2 (neg_ok hn hn' 1 (by decide)) (tt2 (high_ok h2) (tt2 (low_ok h2) (tt2 (next_ok h2) (tt2 (neg_ok hn hn' 1 (by decide)) (tt2 (neg_ok hn hn' 0 (by decide)) (tt2 (high_ok h0) (tt2 (low_ok h0) (tt2 (next_ok h0) (tt2 (neg_ok hn hn' 0 (by decide)) (tt2 (max_ok hn hn' 10 (by decide)) (tt2 (high_ok h9) (tt2 (low_ok h9) (tt2 (next_ok h9) (tt2 (high_ok h7) (tt2 (low_ok h7) (tt2 (next_ok h7) (tt2 (high_ok h5) (tt2 (low_ok h5) (tt2 (next_ok h5) (tt2 (high_ok h3) (tt2 (low_ok h3) (tt2 (next_ok h3) (tt2 (high_ok h1) (tt2 (low_ok h1) (tt2 (next_ok h1) (tt2 (high_ok h8) (tt2 (low_ok h8) (tt2 (next_ok h8) (tt2 (high_ok h6) (tt2 (low_ok h6) (tt2 (next_ok h6) (tt2 (high_ok h4) (tt2 (low_ok h4) (tt2 (next_ok h4) (tt2 (high_ok h2) (tt2 (low_ok h2) (tt2 (next_ok h2) (tt2 (high_ok h0) (tt2 (low_ok h0) (tt2 (next_ok h0) (tt2 (load_ok h9) (tt2 (idx_ok h9) (tt2 (load_ok h8) (tt2 (idx_ok h8) (tt2 (load_ok h7) (tt2 (idx_ok h7) (tt2 (load_ok h6) (tt2 (idx_ok h6) (tt2 (load_ok h5) (tt2 (idx_ok h5) (tt2 (load_ok h4) (tt2 (idx_ok h4) (tt2 (load_ok h3) (tt2 (idx_ok h3) (tt2 (load_ok h2) (tt2 (idx_ok h2) (tt2 (load_ok h1) (tt2 (idx_ok h1) (tt2 (load_ok h0) (tt2 (idx_ok h0) rfl))))))))))))))))))))))))))))))))))))))))))))))))))))))))))))))))))))))))))))))))))))))))))))))))))))))
theorem pt11 (x0 x1 x2 x3 x4 x5 x6 x7 x8 x9 : Int) (r : List Value) (len cap : Nat) (e : TypeId) (nx : Int) (hl : 11 ≤ len) (hl' : len ≤ 60) (h0 : 0 ≤ x0) (h1 : 0 ≤ x1) (h2 : 0 ≤ x2) (h3 : 0 ≤ x3) (h4 : 0 ≤ x4) (h5 : 0 ≤ x5) (h6 : 0 ≤ x6) (h7 : 0 ≤ x7) (h8 : 0 ≤ x8) (h9 : 0 ≤ x9) (hn : 0 ≤ nx) (hn' : nx ≤ 4294967295) : isTrue (callM pE 100 4 [.slice (some ⟨0, 0, none⟩) len cap, .int .u32 nx] (SR (.int .u8 x0 :: .int .u8 x1 :: .int .u8 x2 :: .int .u8 x3 :: .int .u8 x4 :: .int .u8 x5 :: .int .u8 x6 :: .int .u8 x7 :: .int .u8 x8 :: .int .u8 x9 :: r) e)) = true :=
  path_yes (noWaysOK _) (pk11 x0 x1 x2 x3 x4 x5 x6 x7 x8 x9 r len cap e nx) (tt2 (ten_ok (by omega)) (tt2 (neg_ok hn hn' 0 (by decide)) (tt2 (neg_ok hn hn' 9 (by decide)) (tt2 (high_ok h9) (tt2 (low_ok h9) (tt2 (next_ok h9) (tt2 (neg_ok hn hn' 9 (by decide)) (tt2 (neg_ok hn hn' 8 (by decide)) (tt2 (high_ok h7) (tt2 (low_ok h7) (tt2 (next_ok h7) (tt2 (neg_ok hn hn' 8 (by decide)) (tt2 (neg_ok hn hn' 7 (by decide)) (tt2 (high_ok h5) (tt2 (low_ok h5) (tt2 (next_ok h5) (tt2 (neg_ok hn hn' 7 (by decide)) (tt2 (neg_ok hn hn' 6 (by decide)) (tt2 (high_ok h3) (tt2 (low_ok h3) (tt2 (next_ok h3) (tt2 (neg_ok hn hn' 6 (by decide)) (tt2 (neg_ok hn hn' 5 (by decide)) (tt2 (high_ok h1) (tt2 (low_ok h1) (tt2 (next_ok h1) (tt2 (neg_ok hn hn' 5 (by decide)) (tt2 (neg_ok hn hn' 4 (by decide)) (tt2 (high_ok h8) (tt2 (low_ok h8) (tt2 (next_ok h8) (tt2 (neg_ok hn hn' 4 (by decide)) (tt2 (neg_ok hn hn' 3 (by decide)) (tt2 (high_ok h6) (tt2 (low_ok h6) (tt2 (next_ok h6) (tt2 (neg_ok hn hn' 3 (by decide)) (tt2 (neg_ok hn hn' 2 (by decide)) (tt2 (high_ok h4) (tt2 (low_ok h4) (tt2 (next_ok h4) (tt2 (neg_ok hn hn' 2 (by decide)) (tt2 (neg_ok hn hn' 1 (by decide)) (tt2 (high_ok h2) (tt2 (low_ok h2) (tt2 (next_ok h2) (tt2 (neg_ok hn hn' 1 (by decide)) (tt2 (neg_ok hn hn' 0 (by decide)) (tt2 (high_ok h0) (tt2 (low_ok h0) (tt2 (next_ok h0) (tt2 (neg_ok hn hn' 0 (by decide)) (tt2 (nlt_ok (len := 2) (by omega)) (tt2 (max_ok hn hn' 10 (by decide)) (tt2 (high_ok h9) (tt2 (low_ok h9) (tt2 (next_ok h9) (tt2 (high_ok h7) (tt2 (low_ok h7) (tt2 (next_ok h7) (tt2 (high_ok h5) (tt2 (low_ok h5) (tt2 (next_ok h5) (tt2 (high_ok h3) (tt2 (low_ok h3) (tt2 (next_ok h3) (tt2 (high_ok h1) (tt2 (low_ok h1) (tt2 (next_ok h1) (tt2 (high_ok h8) (tt2 (low_ok h8) (tt2 (next_ok h8) (tt2 (high_ok h6) (tt2 (low_ok h6) (tt2 (next_ok h6) (tt2 (high_ok h4) (tt2 (low_ok h4) (tt2 (next_ok h4) (tt2 (high_ok h2) (tt2 (low_ok h2) (tt2 (next_ok h2) (tt2 (high_ok h0) (tt2 (low_ok h0) (tt2 (next_ok h0) (tt2 (lt_ok (by omega)) (tt2 (load_ok h9) (tt2 (idx_ok h9) (tt2 (blt_iff.2 (by omega)) (tt2 (lt_ok (by omega)) (tt2 (load_ok h8) (tt2 (idx_ok h8) (tt2 (blt_iff.2 (by omega)) (tt2 (lt_ok (by omega)) (tt2 (load_ok h7) (tt2 (idx_ok h7) (tt2 (blt_iff.2 (by omega)) (tt2 (lt_ok (by omega)) (tt2 (load_ok h6) (tt2 (idx_ok h6) (tt2 (blt_iff.2 (by omega)) (tt2 (lt_ok (by omega)) (tt2 (load_ok h5) (tt2 (idx_ok h5) (tt2 (blt_iff.2 (by omega)) (tt2 (lt_ok (by omega)) (tt2 (load_ok h4) (tt2 (idx_ok h4) (tt2 (blt_iff.2 (by omega)) (tt2 (lt_ok (by omega)) (tt2 (load_ok h3) (tt2 (idx_ok h3) (tt2 (blt_iff.2 (by omega)) (tt2 (lt_ok (by omega)) (tt2 (load_ok h2) (tt2 (idx_ok h2) (tt2 (blt_iff.2 (by omega)) (tt2 (lt_ok (by omega)) (tt2 (load_ok h1) (tt2 (idx_ok h1) (tt2 (blt_iff.2 (by omega)) (tt2 (lt_ok (by omega)) (tt2 (load_ok h0) (tt2 (idx_ok h0) (tt2 (blt_iff.2 (by omega)) (tt2 (lt_ok (by omega)) (tt2 (nlt_ok (i := 60) (by omega)) rfl))))))))))))))))))))))))))))))))))))))))))))))))))))))))))))))))))))))))))))))))))))))))))))))))))))))))))))))))))))))))))))))

theorem wf8 {x : Int} (h : (Lit.int .u8 x).wf = true) : 0 ≤ x := by
  have : 0 ≤ x ∧ x ≤ 255 := by simpa [Lit.wf, IntKind.min, IntKind.max, IntKind.signed, IntKind.bits] using h
  exact this.1
theorem ex_cons {r : List Int} {k : Nat} (h : k + 1 ≤ r.length) : ∃ x q, r = x :: q ∧ k ≤ q.length := by
  cases r with
  | nil => simp at h
  | cons x q => exact ⟨x, q, rfl, by simp at h; omega⟩

theorem pk_some (len cap : Nat) (x0 : Int) (r : List Int) (e : TypeId) (nx : Int) (hn : 0 ≤ nx) (hn' : nx ≤ 4294967295) (h1 : 1 ≤ len) (hr : len ≤ r.length + 1) (hw : ∀ n ∈ x0 :: r, (Lit.int .u8 n).wf = true) :
    isTrue (callM pE 100 4 [.slice (some ⟨0, 0, none⟩) len cap, .int .u32 nx] (SR (.int .u8 x0 :: r.map (.int .u8)) e)) = true := by
  have h0 := wf8 (hw x0 (by simp))
  by_cases h60 : 60 < len
  · exact path_yes (noWaysOK _) (pk12 _ len cap e nx) (tt2 (lt_ok (i := 60) h60) rfl)
  by_cases h11 : 11 ≤ len
  · obtain ⟨x1, r1, rfl, hr1⟩ := ex_cons (k := 8) (r := r) (by omega)
    obtain ⟨x2, r2, rfl, hr2⟩ := ex_cons (k := 7) (r := r1) (by omega)
    obtain ⟨x3, r3, rfl, hr3⟩ := ex_cons (k := 6) (r := r2) (by omega)
    obtain ⟨x4, r4, rfl, hr4⟩ := ex_cons (k := 5) (r := r3) (by omega)
    obtain ⟨x5, r5, rfl, hr5⟩ := ex_cons (k := 4) (r := r4) (by omega)
    obtain ⟨x6, r6, rfl, hr6⟩ := ex_cons (k := 3) (r := r5) (by omega)
    obtain ⟨x7, r7, rfl, hr7⟩ := ex_cons (k := 2) (r := r6) (by omega)
    obtain ⟨x8, r8, rfl, hr8⟩ := ex_cons (k := 1) (r := r7) (by omega)
    obtain ⟨x9, r9, rfl, hr9⟩ := ex_cons (k := 0) (r := r8) (by omega)
    have h1 := wf8 (hw x1 (by simp))
    have h2 := wf8 (hw x2 (by simp))
    have h3 := wf8 (hw x3 (by simp))
    have h4 := wf8 (hw x4 (by simp))
    have h5 := wf8 (hw x5 (by simp))
    have h6 := wf8 (hw x6 (by simp))
    have h7 := wf8 (hw x7 (by simp))
    have h8 := wf8 (hw x8 (by simp))
    have h9 := wf8 (hw x9 (by simp))
    exact pt11 x0 x1 x2 x3 x4 x5 x6 x7 x8 x9 (r9.map (.int .u8)) len cap e nx h11 (by omega) h0 h1 h2 h3 h4 h5 h6 h7 h8 h9 hn hn'
  have hl : len = 1 ∨ len = 2 ∨ len = 3 ∨ len = 4 ∨ len = 5 ∨ len = 6 ∨ len = 7 ∨ len = 8 ∨ len = 9 ∨ len = 10 := by omega
  rcases hl with rfl | rfl | rfl | rfl | rfl | rfl | rfl | rfl | rfl | rfl
  · exact pt1 x0  (r.map (.int .u8)) cap e nx h0 hn hn'
  · obtain ⟨x1, r1, rfl, hr1⟩ := ex_cons (k := 0) (r := r) (by omega)
    have h1 := wf8 (hw x1 (by simp))
    exact pt2 x0 x1 (r1.map (.int .u8)) cap e nx h0 h1 hn hn'
  · obtain ⟨x1, r1, rfl, hr1⟩ := ex_cons (k := 1) (r := r) (by omega)
    obtain ⟨x2, r2, rfl, hr2⟩ := ex_cons (k := 0) (r := r1) (by omega)
    have h1 := wf8 (hw x1 (by simp))
    have h2 := wf8 (hw x2 (by simp))
    exact pt3 x0 x1 x2 (r2.map (.int .u8)) cap e nx h0 h1 h2 hn hn'
  · obtain ⟨x1, r1, rfl, hr1⟩ := ex_cons (k := 2) (r := r) (by omega)
    obtain ⟨x2, r2, rfl, hr2⟩ := ex_cons (k := 1) (r := r1) (by omega)
    obtain ⟨x3, r3, rfl, hr3⟩ := ex_cons (k := 0) (r := r2) (by omega)
    have h1 := wf8 (hw x1 (by simp))
    have h2 := wf8 (hw x2 (by simp))
    have h3 := wf8 (hw x3 (by simp))
    exact pt4 x0 x1 x2 x3 (r3.map (.int .u8)) cap e nx h0 h1 h2 h3 hn hn'
  · obtain ⟨x1, r1, rfl, hr1⟩ := ex_cons (k := 3) (r := r) (by omega)
    obtain ⟨x2, r2, rfl, hr2⟩ := ex_cons (k := 2) (r := r1) (by omega)
    obtain ⟨x3, r3, rfl, hr3⟩ := ex_cons (k := 1) (r := r2) (by omega)
    obtain ⟨x4, r4, rfl, hr4⟩ := ex_cons (k := 0) (r := r3) (by omega)
    have h1 := wf8 (hw x1 (by simp))
    have h2 := wf8 (hw x2 (by simp))
    have h3 := wf8 (hw x3 (by simp))
    have h4 := wf8 (hw x4 (by simp))
    exact pt5 x0 x1 x2 x3 x4 (r4.map (.int .u8)) cap e nx h0 h1 h2 h3 h4 hn hn'
  · obtain ⟨x1, r1, rfl, hr1⟩ := ex_cons (k := 4) (r := r) (by omega)
    obtain ⟨x2, r2, rfl, hr2⟩ := ex_cons (k := 3) (r := r1) (by omega)
    obtain ⟨x3, r3, rfl, hr3⟩ := ex_cons (k := 2) (r := r2) (by omega)
    obtain ⟨x4, r4, rfl, hr4⟩ := ex_cons (k := 1) (r := r3) (by omega)
    obtain ⟨x5, r5, rfl, hr5⟩ := ex_cons (k := 0) (r := r4) (by omega)
    have h1 := wf8 (hw x1 (by simp))
    have h2 := wf8 (hw x2 (by simp))
    have h3 := wf8 (hw x3 (by simp))
    have h4 := wf8 (hw x4 (by simp))
    have h5 := wf8 (hw x5 (by simp))
    exact pt6 x0 x1 x2 x3 x4 x5 (r5.map (.int .u8)) cap e nx h0 h1 h2 h3 h4 h5 hn hn'
  · obtain ⟨x1, r1, rfl, hr1⟩ := ex_cons (k := 5) (r := r) (by omega)
    obtain ⟨x2, r2, rfl, hr2⟩ := ex_cons (k := 4) (r := r1) (by omega)
    obtain ⟨x3, r3, rfl, hr3⟩ := ex_cons (k := 3) (r := r2) (by omega)
    obtain ⟨x4, r4, rfl, hr4⟩ := ex_cons (k := 2) (r := r3) (by omega)
    obtain ⟨x5, r5, rfl, hr5⟩ := ex_cons (k := 1) (r := r4) (by omega)
    obtain ⟨x6, r6, rfl, hr6⟩ := ex_cons (k := 0) (r := r5) (by omega)
    have h1 := wf8 (hw x1 (by simp))
    have h2 := wf8 (hw x2 (by simp))
    have h3 := wf8 (hw x3 (by simp))
    have h4 := wf8 (hw x4 (by simp))
    have h5 := wf8 (hw x5 (by simp))
    have h6 := wf8 (hw x6 (by simp))
    exact pt7 x0 x1 x2 x3 x4 x5 x6 (r6.map (.int .u8)) cap e nx h0 h1 h2 h3 h4 h5 h6 hn hn'
  · obtain ⟨x1, r1, rfl, hr1⟩ := ex_cons (k := 6) (r := r) (by omega)
    obtain ⟨x2, r2, rfl, hr2⟩ := ex_cons (k := 5) (r := r1) (by omega)
    obtain ⟨x3, r3, rfl, hr3⟩ := ex_cons (k := 4) (r := r2) (by omega)
    obtain ⟨x4, r4, rfl, hr4⟩ := ex_cons (k := 3) (r := r3) (by omega)
    obtain ⟨x5, r5, rfl, hr5⟩ := ex_cons (k := 2) (r := r4) (by omega)
    obtain ⟨x6, r6, rfl, hr6⟩ := ex_cons (k := 1) (r := r5) (by omega)
    obtain ⟨x7, r7, rfl, hr7⟩ := ex_cons (k := 0) (r := r6) (by omega)
    have h1 := wf8 (hw x1 (by simp))
    have h2 := wf8 (hw x2 (by simp))
    have h3 := wf8 (hw x3 (by simp))
    have h4 := wf8 (hw x4 (by simp))
    have h5 := wf8 (hw x5 (by simp))
    have h6 := wf8 (hw x6 (by simp))
    have h7 := wf8 (hw x7 (by simp))
    exact pt8 x0 x1 x2 x3 x4 x5 x6 x7 (r7.map (.int .u8)) cap e nx h0 h1 h2 h3 h4 h5 h6 h7 hn hn'
  · obtain ⟨x1, r1, rfl, hr1⟩ := ex_cons (k := 7) (r := r) (by omega)
    obtain ⟨x2, r2, rfl, hr2⟩ := ex_cons (k := 6) (r := r1) (by omega)
    obtain ⟨x3, r3, rfl, hr3⟩ := ex_cons (k := 5) (r := r2) (by omega)
    obtain ⟨x4, r4, rfl, hr4⟩ := ex_cons (k := 4) (r := r3) (by omega)
    obtain ⟨x5, r5, rfl, hr5⟩ := ex_cons (k := 3) (r := r4) (by omega)
    obtain ⟨x6, r6, rfl, hr6⟩ := ex_cons (k := 2) (r := r5) (by omega)
    obtain ⟨x7, r7, rfl, hr7⟩ := ex_cons (k := 1) (r := r6) (by omega)
    obtain ⟨x8, r8, rfl, hr8⟩ := ex_cons (k := 0) (r := r7) (by omega)
    have h1 := wf8 (hw x1 (by simp))
    have h2 := wf8 (hw x2 (by simp))
    have h3 := wf8 (hw x3 (by simp))
    have h4 := wf8 (hw x4 (by simp))
    have h5 := wf8 (hw x5 (by simp))
    have h6 := wf8 (hw x6 (by simp))
    have h7 := wf8 (hw x7 (by simp))
    have h8 := wf8 (hw x8 (by simp))
    exact pt9 x0 x1 x2 x3 x4 x5 x6 x7 x8 (r8.map (.int .u8)) cap e nx h0 h1 h2 h3 h4 h5 h6 h7 h8 hn hn'
  · obtain ⟨x1, r1, rfl, hr1⟩ := ex_cons (k := 8) (r := r) (by omega)
    obtain ⟨x2, r2, rfl, hr2⟩ := ex_cons (k := 7) (r := r1) (by omega)
    obtain ⟨x3, r3, rfl, hr3⟩ := ex_cons (k := 6) (r := r2) (by omega)
    obtain ⟨x4, r4, rfl, hr4⟩ := ex_cons (k := 5) (r := r3) (by omega)
    obtain ⟨x5, r5, rfl, hr5⟩ := ex_cons (k := 4) (r := r4) (by omega)
    obtain ⟨x6, r6, rfl, hr6⟩ := ex_cons (k := 3) (r := r5) (by omega)
    obtain ⟨x7, r7, rfl, hr7⟩ := ex_cons (k := 2) (r := r6) (by omega)
    obtain ⟨x8, r8, rfl, hr8⟩ := ex_cons (k := 1) (r := r7) (by omega)
    obtain ⟨x9, r9, rfl, hr9⟩ := ex_cons (k := 0) (r := r8) (by omega)
    have h1 := wf8 (hw x1 (by simp))
    have h2 := wf8 (hw x2 (by simp))
    have h3 := wf8 (hw x3 (by simp))
    have h4 := wf8 (hw x4 (by simp))
    have h5 := wf8 (hw x5 (by simp))
    have h6 := wf8 (hw x6 (by simp))
    have h7 := wf8 (hw x7 (by simp))
    have h8 := wf8 (hw x8 (by simp))
    have h9 := wf8 (hw x9 (by simp))
    exact pt10 x0 x1 x2 x3 x4 x5 x6 x7 x8 x9 (r9.map (.int .u8)) cap e nx h0 h1 h2 h3 h4 h5 h6 h7 h8 h9 hn hn'

theorem planKeys_true (v : Value) {H : Type} (d : DataW H) (p : List MemPlace) (w : World) (hr : Row w v d p) (a1 : Int) (w1 : (Lit.int .u32 a1).wf = true) :
    Calls Try.prog 4 #[v, .int .u32 a1] w fun e w' => e = .returned (.bool true) ∧ RowKit.Below w.heap.size w w' := by
  have hy : 0 ≤ a1 ∧ a1 ≤ 4294967295 := by simpa [Lit.wf, IntKind.min, IntKind.max, IntKind.signed, IntKind.bits] using w1
  exact row_true (k := 100) pGood (pre := []) (post := [.int .u32 a1]) ⟨path_yes (noWaysOK _) (pkq a1) rfl, fun cap => path_yes (noWaysOK _) (pkr cap a1) rfl,
    fun len cap x0 r e h1 hr hw => pk_some len cap x0 r e a1 hy.1 hy.2 h1 hr hw⟩ rfl rfl hr rfl

end Go.Proofs.Ytelifilabbadmaa
