/- DbNone: its paths. -/
import Derived.Test.YtmmplhfimnhcpaaGreatDoorNe
import Derived.Test.YtmmplhfimnhcpaaGreatDoorArg
import Derived.Test.YtmmplhfimnhcpaaGreatDoorRows
import Derived.MakeChecks
import Derived.LaidSub
import Derived.FnData
import Derived.OpenShut
namespace Go.Proofs.YtmmplhfimnhcpaaGreatDoor
set_option linter.all false
set_option linter.unusedSimpArgs false
set_option linter.unusedVariables false
open Go Go.Ideal
set_option maxRecDepth 100000
set_option maxHeartbeats 4000000

noncomputable def rootB (first : Int) (i : Nat) : Int := wrapF .u8 ((wrapF .u64 first).fdiv (Int.ofNat (2 ^ (8 * i))))
noncomputable def okB (z : Int) : Bool := isNat z && Nat.blt (natOf z) 256
def lawD (n k : Nat) : UInt8 := UInt8.ofNat ((48 + n / k % 18446744073709551616 % 10) % 18446744073709551616 % 256)
def lawL (n : Nat) : List UInt8 := [112, lawD n 10000000, lawD n 1000000, lawD n 100000, lawD n 10000, lawD n 1000, lawD n 100, lawD n 10, lawD n 1]

theorem dnT (first : Int) (n : Nat) (e : TypeId) : pathOf (dnP first n e [(65, .yes), (346, .tru), (353, .tru), (359, .tru)]) =
    some (bytesEq (nameL n) (lawL n) && ((false == leI 0 first) && ((false == leI 0 first) && (ltI first 0 && true)))) := by kernel_rfl
theorem dnF (first : Int) (n : Nat) (e : TypeId) : pathOf (dnP first n e [(65, .no), (491, .no), (2284, .free), (3131, .tru), (3138, .tru), (3144, .tru)]) =
    some (bytesEq (nameL n) (lawL n) && ((true == leI 0 first) && ((true == leI 0 first) &&
      ((okB (rootB first 7) && (okB (rootB first 6) && (okB (rootB first 5) && (okB (rootB first 4) && (okB (rootB first 3) && (okB (rootB first 2) && (okB (rootB first 1) && (okB (rootB first 0) && true)))))))) &&
      (!ltI first 0 && (!ltI first 0 && true)))))) := by kernel_rfl

theorem okB_u8 (x : Int) : okB (wrapF .u8 x) = true := by
  unfold okB wrapF
  have h1 := Int.emod_nonneg x (show (256 : Int) ≠ 0 by decide)
  have h2 := Int.emod_lt_of_pos x (show (0 : Int) < 256 by decide)
  simp only
  generalize x % 256 = y at *
  obtain ⟨k, rfl⟩ := Int.eq_ofNat_of_zero_le h1
  exact blt_iff.2 (by show k < 256; omega)

theorem names_same (n : Nat) (hn : n < 18446744073709551616) : bytesEq (nameL n) (lawL n) = true := by
  have e : nameL n = lawL n := by
    have : ∀ k, dg n k = lawD n k := fun k => by
      unfold dg lawD
      have h : n / k < 18446744073709551616 := Nat.lt_of_le_of_lt (Nat.div_le_self n k) hn
      rw [Nat.mod_eq_of_lt h]; congr 1; omega
    unfold nameL lawL
    simp only [this]
  rw [e, bytesEq_iff]; simp

theorem dn_true (first : Int) (n : Nat) (hn : n < 18446744073709551616) (e : TypeId) : isTrue (callM dE 100 3 [.int .i64 first, .int .u64 (.ofNat n)] (SV 1 powers e)) = true := by
  by_cases h : first < 0
  · refine path_yes dX_ok (dnT first n e) ?_
    rw [names_same n hn]
    have h1 : leI 0 first = false := by rw [leI_eq]; simp; omega
    have h2 : ltI first 0 = true := by rw [ltI_eq]; simp; omega
    rw [h1, h2]; rfl
  · refine path_yes dX_ok (dnF first n e) ?_
    rw [names_same n hn]
    have h1 : leI 0 first = true := by rw [leI_eq]; simp; omega
    have h2 : ltI first 0 = false := by rw [ltI_eq]; simp; omega
    unfold rootB
    simp only [okB_u8]
    rw [h1, h2]; rfl

end Go.Proofs.YtmmplhfimnhcpaaGreatDoor

namespace Go.Proofs.YtmmplhfimnhcpaaGreatDoor
open Go Go.Ideal
set_option maxRecDepth 100000
set_option maxHeartbeats 1000000

def powZ : List Int := [1, 10, 100, 1000, 10000, 100000, 1000000, 10000000, 100000000, 1000000000, 10000000000, 100000000000, 1000000000000, 10000000000000, 100000000000000, 1000000000000000, 10000000000000000,
  100000000000000000, 1000000000000000000, 10000000000000000000]

theorem pow_cell {W : World} (h : laidMetH Tryz.prog Rows.dbNoneRow.laid W) (r : Nat) (hr : r < 20) : W.cell? ⟨1, r, none⟩ = some (.int .u64 (powZ.getD r 0)) := by
  rw [MakeChecks.laidMetH_plain _ _ _ (by kernel_rfl)] at h
  have h := laidMet.filter (fun x => x.1 == "internal/strconv.uint64pow10") h
  rw [show (Rows.dbNoneRow.laid.filter fun x => x.1 == "internal/strconv.uint64pow10") = [("internal/strconv.uint64pow10", Rows.laid_internal_strconv_uint64pow10)] by kernel_rfl] at h
  obtain ⟨ps, ⟨g, t, cs, fuel, p, q, hg, ht, hv, hd, _, _⟩, _, _⟩ := h
  obtain rfl := Option.some.inj ((show Tryz.prog.globalNamed "internal/strconv.uint64pow10" = some 1 by kernel_rfl).symm.trans hg)
  obtain rfl := Option.some.inj ((show (Tryz.prog.globals[1]?).map (·.type) = some 378 by kernel_rfl).symm.trans ht)
  obtain ⟨xs, m, _, ex, _, hl, hel⟩ := DataW.trod_array Tryz.underlying378 hd
  have c5 : Tryz.prog.cellsOf 22 = 1 := by kernel_rfl
  have hE := hel r hr
  rw [c5, Nat.mul_one, List.getElem?_eq_getElem (by omega)] at hE
  obtain ⟨z, e1, e2, _⟩ := DataW.trod_int Tryz.underlying22 hE
  have hlen : powZ.length = 20 := by kernel_rfl
  have e3 : (xs.map (·.1)) = powZ.map fun n => .lit (.int .u64 n) := (DataW.agg.inj (Prod.mk.inj ex).1).symm
  have e4 : (xs.map (·.1))[r]? = (powZ.map fun n => (DataW.lit (.int .u64 n) : DataW Unit))[r]? := by rw [e3]
  rw [List.getElem?_map, List.getElem?_map, List.getElem?_eq_getElem (by omega : r < xs.length), List.getElem?_eq_getElem (by omega : r < powZ.length), e2] at e4
  have hz : z = powZ.getD r 0 := by
    simp only [Option.map_some, Option.some.injEq, DataW.lit.injEq, Lit.int.injEq, true_and] at e4
    rw [e4, List.getD, List.getElem?_eq_getElem (by omega : r < powZ.length)]; rfl
  rw [World.var?_cell hg hv r, ← hz]
  have : cs.toList[r]? = some (.int .u64 z) := by
    have h0 : ((cs.toList.drop r).take 1)[0]? = some (.int .u64 z) := by rw [e1]; rfl
    simpa using h0
  simpa using this

theorem dbNone_true (a0 : Int) (w0 : (Lit.int .i64 a0).wf = true) (a1 : Int) (w1 : (Lit.int .u64 a1).wf = true) (W : World) (hl : laidMetH Tryz.prog Rows.dbNoneRow.laid W) :
    Calls Tryz.prog 3 #[.int .i64 a0, .int .u64 a1] W fun e w' => e = .returned (.bool true) ∧ RowKit.Below W.heap.size W w' := by
  have hy : 0 ≤ a1 ∧ a1 ≤ 18446744073709551615 := by simpa [Lit.wf, IntKind.min, IntKind.max, IntKind.signed, IntKind.bits] using w1
  obtain ⟨n, rfl⟩ := Int.eq_ofNat_of_zero_le hy.1
  have hcell := pow_cell hl
  have hblk : ∃ c e fz, W.heap[1]? = some (.cells c e fz) := by
    have := hcell 0 (by decide)
    unfold World.cell? at this
    cases hh : W.heap[1]? with
    | none => simp [hh] at this
    | some o =>
      cases o with
      | cells c e fz => exact ⟨c, e, fz, rfl⟩
      | _ => simp [hh] at this
  obtain ⟨c, e, fz, hb⟩ := hblk
  have hget : ∀ i, i < 20 → c[i]? = some (.int .u64 (powZ.getD i 0)) := fun i hi => by
    have := hcell i hi
    rw [cell_at hb] at this; exact this
  have hsz : 20 ≤ c.size := by
    have := (Array.getElem?_eq_some_iff.1 (hget 19 (by decide))).1
    omega
  have hp : powers = powZ.map (.int .u64) := by kernel_rfl
  obtain ⟨s', hrun⟩ := isTrue_some (dn_true a0 n (by omega) e)
  have hlen : powers.length = 20 := by kernel_rfl
  refine yes_of rfl (run_var dGood hb (xs := powers) (fun i u hi => ?_) (by kernel_rfl) (by omega) (fun g' hg' => Nat.eq_of_beq_eq_true hg') hrun rfl rfl)
  rw [hp, List.getElem?_map] at hi
  cases hj : powZ[i]? with
  | none => rw [hj] at hi; cases hi
  | some y =>
    rw [hj] at hi; cases hi
    have hlt : i < 20 := (List.getElem?_eq_some_iff.1 hj).1
    rw [hget i hlt, List.getD, hj]; rfl

end Go.Proofs.YtmmplhfimnhcpaaGreatDoor

