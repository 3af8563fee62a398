-- Written for this claim by a program, out of the translation.
import Derived.Test.YtlafgnanfkhobaaGreatDoorProg
import Derived.Test.YtlafgnanfkhobaaGreatDoorFe
import Derived.Below
import Derived.Deep.Draws
import Derived.Deep.AppendLies
import Derived.Maps.AppendAt
import Derived.OwnWalk
import Derived.Laws.BytesArg
import Derived.Laws.MakeOwn
import Derived.Laws.OwnMore
import Derived.Deep.OwnRows
import Derived.Tactics
import Derived.Lib.ConvBytes
import Derived.Laws.Slices
import Derived.WalkKit
import Derived.KernelRfl
import Derived.RowKit3
import Derived.Deep.LoopGhost
import Derived.Deep.QuietTactic
import Derived.BigQuiet
import Derived.WideLaws
import Derived.Deep.DeepCutAuto
import Derived.Deep.CutBlock
import Derived.Deep.RegionHeld3
import Derived.Laws.Rows
import Derived.Lib.AppendStr
import Derived.ArgAppend
import Derived.Laws.IdiomCopy
import Derived.OrdersHeld
import Derived.Laws.BitsLemmas
import Derived.RowKit
import Derived.Test.YtlafgnanfkhobaaGreatDoorWWords
import Derived.Test.YtlafgnanfkhobaaGreatDoorWLast
import Derived.Test.YtlafgnanfkhobaaGreatDoorWTab
import Derived.Test.YtlafgnanfkhobaaGreatDoorWFour
import Derived.Test.YtlafgnanfkhobaaGreatDoorWQPut
import Derived.Test.YtlafgnanfkhobaaGreatDoorWApart
import Derived.Test.YtlafgnanfkhobaaGreatDoorWArr
import Derived.Test.YtlafgnanfkhobaaGreatDoorWZeros
import Derived.Test.YtlafgnanfkhobaaGreatDoorWFoot
import Derived.Test.YtlafgnanfkhobaaGreatDoorWKept
import Derived.Test.YtlafgnanfkhobaaGreatDoorWShare
import Derived.Test.YtlafgnanfkhobaaGreatDoorWN
import Derived.Test.YtlafgnanfkhobaaGreatDoorWFootNe
import Derived.Test.YtlafgnanfkhobaaGreatDoorWAt
import Derived.Test.YtlafgnanfkhobaaGreatDoorWEqStruct
import Derived.Test.YtlafgnanfkhobaaGreatDoorWRepsOne
import Derived.Test.YtlafgnanfkhobaaGreatDoorWInv
import Derived.Test.YtlafgnanfkhobaaGreatDoorWInvWords
import Derived.Test.YtlafgnanfkhobaaGreatDoorWGuard
import Derived.Test.YtlafgnanfkhobaaGreatDoorWNEv
import Derived.Test.YtlafgnanfkhobaaGreatDoorWMore
namespace Go.Proofs.YtlafgnanfkhobaaGreatDoor.P2
open Go.RowKit Go.Proofs.YtlafgnanfkhobaaGreatDoorW.PrintWords Go.Proofs.YtlafgnanfkhobaaGreatDoorW.PrintLast Go.Proofs.YtlafgnanfkhobaaGreatDoorW.PrintMore
attribute [local go_sem] max2_int min2_int max_two min_two max_three min_three max_four min_four
set_option linter.unusedVariables false
set_option linter.unusedSimpArgs false
def errW : Option Int → Value
 | none => .nilIface
 | some c => .iface 0 (.int .i64 c)
theorem errW_none : errW none = .nilIface :=rfl
theorem errW_some (c : Int) : errW (some c) = .iface 0 (.int .i64 c) :=rfl
theorem info5 : (Tryz.prog.info? 5).map (fun i => (i.zero,i.size,i.bytes)) = some (some (.int .u8 0),1,1) :=by kernel_rfl
theorem info9 : (Tryz.prog.info? 9).map (fun i => (i.zero,i.size,i.bytes)) = some (some (.string ⟨#[]⟩),1,16) :=by kernel_rfl
theorem info48 : (Tryz.prog.info? 48).map (fun i => (i.zero,i.size,i.bytes)) = some (some (.agg #[(.int .i64 0),(.int .i64 0),(.string ⟨#[]⟩),(.slice none 0 0),(.string ⟨#[]⟩),(.slice none 0 0),(.int .i64 0),(.slice none 0 0),(.int .i64 0),(.int .i64 0),(.bool false),(.slice none 0 0),(.int .i64 0),(.slice none 0 0)]),14,208) :=by kernel_rfl
theorem info83 : (Tryz.prog.info? 83).map (fun i => (i.zero,i.size,i.bytes)) = some (some (.agg #[(.string ⟨#[]⟩),(.int .i64 0),(.slice none 0 0)]),3,48) :=by kernel_rfl
theorem info85 : (Tryz.prog.info? 85).map (fun i => (i.zero,i.size,i.bytes)) = some (some (.agg #[(.string ⟨#[]⟩),(.slice none 0 0)]),2,40) :=by kernel_rfl
def rd_L3 (xs : List (List Int)) (i : Int) : (List Int) :=xs.getD i.toNat ([] : List Int)
theorem at_L3 {w : World} {A : Option Addr} {n : Nat} {xs : List (List Int)} (h : Kd.C (Kd.slice 5 (Kd.int .u8)) w A n xs) (i : Int) (h0 : 0 ≤ i) (h1 : i < n) : ∃ ad A0 c0,A = some ad ∧ w.cell? (ad.add i.toNat) = some (.slice A0 (rd_L3 xs i).length c0) ∧ (rd_L3 xs i).length ≤ c0 ∧ (Kd.int .u8).C w A0 (rd_L3 xs i).length (rd_L3 xs i) :=by
 obtain ⟨ad,c,e,_,hK,hc0⟩ :=Kd.C_get h ([] : List Int) i h0 h1
 have hc : ∀ j u,c[j]? = some u → w.cell? (ad.add (i.toNat * 1 + j)) = some u :=hc0
 obtain ⟨A0,c0,rfl,l0,g0⟩ :=hK
 exact ⟨ad,A0,c0,e,by have hq :=hc 0 _ rfl;rwa [Nat.mul_one,Nat.add_zero] at hq,l0,g0⟩
structure S85 where
 f0 : ByteArray
 f1 : (List Int)
def z85 : S85 :=⟨⟨#[]⟩,([] : List Int)⟩
def k85 : Kd S85 :=Kd.iso (Kd.pair Kd.string (Kd.slice 5 (Kd.int .u8))) (fun x : S85 => (x.f0,x.f1))
theorem k85_open {w : World} {x : S85} {cs : List Value} (h : k85.K w x cs) : ∃ A1 c1,cs = [.string x.f0,.slice A1 x.f1.length c1] ∧ x.f1.length ≤ c1 ∧ (Kd.int .u8).C w A1 x.f1.length x.f1 :=by
 obtain ⟨_,_,rfl,rfl,⟨A1,c1,rfl,l1,g1⟩⟩ :=h
 exact ⟨A1,c1,rfl,l1,g1⟩
theorem k85_openM {w : World} {base : Nat} {ok : Nat → Prop} {x : S85} {cs : List Value} (h : k85.M w base ok x cs) : ∃ v1,cs = [.string x.f0,v1] ∧ (Kd.int .u8).R 5 w base ok v1 x.f1 :=by
 obtain ⟨_,_,rfl,rfl,⟨v1,rfl,g1⟩⟩ :=h
 exact ⟨v1,rfl,g1⟩
theorem k85_mk (w : World) (x : S85) {A1 : Option Addr} {c1 : Nat} (l1 : x.f1.length ≤ c1) (g1 : (Kd.int .u8).C w A1 x.f1.length x.f1) : k85.K w x [.string x.f0,.slice A1 x.f1.length c1] :=⟨[.string x.f0],[.slice A1 x.f1.length c1],rfl,rfl,⟨A1,c1,rfl,l1,g1⟩⟩
theorem k85_mkM (w : World) (base : Nat) (ok : Nat → Prop) (x : S85) {v1 : Value} (g1 : (Kd.int .u8).R 5 w base ok v1 x.f1) : k85.M w base ok x [.string x.f0,v1] :=⟨[.string x.f0],[v1],rfl,rfl,⟨v1,rfl,g1⟩⟩
theorem k85_openF {W : World} {ok : Nat → Prop} {x : S85} {cs : List Value} (h : Kd.FK k85 W ok x cs) : ∃ A1 c1,cs = [.string x.f0,.slice A1 x.f1.length c1] ∧ x.f1.length ≤ c1 ∧ Kd.F (Kd.int .u8) W ok A1 x.f1.length x.f1 :=by
 obtain ⟨A1,c1,rfl,l1,_⟩ :=k85_open (Kd.FK_now h)
 exact ⟨A1,c1,rfl,l1,(fun W' hW => by obtain ⟨A1_,c1_,he,l1_,g1_⟩ :=k85_open (h W' hW);injection (Option.some.inj (show some (Value.slice A1 x.f1.length c1) = some (Value.slice A1_ x.f1.length c1_) from congrArg (fun l => l[1]?) he)) with ha_ _ _;rw [ha_];exact g1_)⟩
theorem k85_mkF (W : World) (ok : Nat → Prop) (x : S85) {A1 : Option Addr} {c1 : Nat} (l1 : x.f1.length ≤ c1) (g1 : Kd.F (Kd.int .u8) W ok A1 x.f1.length x.f1) : Kd.FK k85 W ok x [.string x.f0,.slice A1 x.f1.length c1] :=fun W2 hW => k85_mk W2 x l1 (g1 W2 hW)
def rd_T85 (xs : List S85) (i : Int) : S85 :=xs.getD i.toNat z85
theorem at_T85 {w : World} {A : Option Addr} {n : Nat} {xs : List S85} (h : Kd.C k85 w A n xs) (i : Int) (h0 : 0 ≤ i) (h1 : i < n) : ∃ ad A1 c1,A = some ad ∧ w.cell? (ad.add (i.toNat * 2)) = some (.string (rd_T85 xs i).f0) ∧ w.cell? ⟨(ad.add (i.toNat * 2)).block,(ad.add (i.toNat * 2)).off + 1,none⟩ = some (.slice A1 (rd_T85 xs i).f1.length c1) ∧ (rd_T85 xs i).f1.length ≤ c1 ∧ (Kd.int .u8).C w A1 (rd_T85 xs i).f1.length (rd_T85 xs i).f1 :=by
 obtain ⟨ad,c,e,_,hK,hc0⟩ :=Kd.C_get h z85 i h0 h1
 have hc : ∀ j u,c[j]? = some u → w.cell? (ad.add (i.toNat * 2 + j)) = some u :=hc0
 obtain ⟨A1,c1,rfl,l1,g1⟩ :=k85_open hK
 exact ⟨ad,A1,c1,e,hc 0 _ rfl,by rw [← add_field _ _ 1 (by omega)];exact hc 1 _ rfl,l1,g1⟩
def rd_L5 (xs : List (List S85)) (i : Int) : (List S85) :=xs.getD i.toNat ([] : List S85)
theorem at_L5 {w : World} {A : Option Addr} {n : Nat} {xs : List (List S85)} (h : Kd.C (Kd.slice 85 k85) w A n xs) (i : Int) (h0 : 0 ≤ i) (h1 : i < n) : ∃ ad A0 c0,A = some ad ∧ w.cell? (ad.add i.toNat) = some (.slice A0 (rd_L5 xs i).length c0) ∧ (rd_L5 xs i).length ≤ c0 ∧ k85.C w A0 (rd_L5 xs i).length (rd_L5 xs i) :=by
 obtain ⟨ad,c,e,_,hK,hc0⟩ :=Kd.C_get h ([] : List S85) i h0 h1
 have hc : ∀ j u,c[j]? = some u → w.cell? (ad.add (i.toNat * 1 + j)) = some u :=hc0
 obtain ⟨A0,c0,rfl,l0,g0⟩ :=hK
 exact ⟨ad,A0,c0,e,by have hq :=hc 0 _ rfl;rwa [Nat.mul_one,Nat.add_zero] at hq,l0,g0⟩
structure S83 where
 f0 : ByteArray
 f1 : Int
 f2 : (List S85)
def z83 : S83 :=⟨⟨#[]⟩,(0 : Int),([] : List S85)⟩
def k83 : Kd S83 :=Kd.iso (Kd.pair Kd.string (Kd.pair (Kd.int .i64) (Kd.slice 85 k85))) (fun x : S83 => (x.f0,x.f1,x.f2))
theorem k83_open {w : World} {x : S83} {cs : List Value} (h : k83.K w x cs) : ∃ A2 c2,cs = [.string x.f0,.int .i64 x.f1,.slice A2 x.f2.length c2] ∧ x.f2.length ≤ c2 ∧ k85.C w A2 x.f2.length x.f2 :=by
 obtain ⟨_,_,rfl,rfl,⟨_,_,rfl,rfl,⟨A2,c2,rfl,l2,g2⟩⟩⟩ :=h
 exact ⟨A2,c2,rfl,l2,g2⟩
theorem k83_openM {w : World} {base : Nat} {ok : Nat → Prop} {x : S83} {cs : List Value} (h : k83.M w base ok x cs) : ∃ v2,cs = [.string x.f0,.int .i64 x.f1,v2] ∧ k85.R 85 w base ok v2 x.f2 :=by
 obtain ⟨_,_,rfl,rfl,⟨_,_,rfl,rfl,⟨v2,rfl,g2⟩⟩⟩ :=h
 exact ⟨v2,rfl,g2⟩
theorem k83_mk (w : World) (x : S83) {A2 : Option Addr} {c2 : Nat} (l2 : x.f2.length ≤ c2) (g2 : k85.C w A2 x.f2.length x.f2) : k83.K w x [.string x.f0,.int .i64 x.f1,.slice A2 x.f2.length c2] :=⟨[.string x.f0],[.int .i64 x.f1,.slice A2 x.f2.length c2],rfl,rfl,⟨[.int .i64 x.f1],[.slice A2 x.f2.length c2],rfl,rfl,⟨A2,c2,rfl,l2,g2⟩⟩⟩
theorem k83_mkM (w : World) (base : Nat) (ok : Nat → Prop) (x : S83) {v2 : Value} (g2 : k85.R 85 w base ok v2 x.f2) : k83.M w base ok x [.string x.f0,.int .i64 x.f1,v2] :=⟨[.string x.f0],[.int .i64 x.f1,v2],rfl,rfl,⟨[.int .i64 x.f1],[v2],rfl,rfl,⟨v2,rfl,g2⟩⟩⟩
theorem k83_openF {W : World} {ok : Nat → Prop} {x : S83} {cs : List Value} (h : Kd.FK k83 W ok x cs) : ∃ A2 c2,cs = [.string x.f0,.int .i64 x.f1,.slice A2 x.f2.length c2] ∧ x.f2.length ≤ c2 ∧ Kd.F k85 W ok A2 x.f2.length x.f2 :=by
 obtain ⟨A2,c2,rfl,l2,_⟩ :=k83_open (Kd.FK_now h)
 exact ⟨A2,c2,rfl,l2,(fun W' hW => by obtain ⟨A2_,c2_,he,l2_,g2_⟩ :=k83_open (h W' hW);injection (Option.some.inj (show some (Value.slice A2 x.f2.length c2) = some (Value.slice A2_ x.f2.length c2_) from congrArg (fun l => l[2]?) he)) with ha_ _ _;rw [ha_];exact g2_)⟩
theorem k83_mkF (W : World) (ok : Nat → Prop) (x : S83) {A2 : Option Addr} {c2 : Nat} (l2 : x.f2.length ≤ c2) (g2 : Kd.F k85 W ok A2 x.f2.length x.f2) : Kd.FK k83 W ok x [.string x.f0,.int .i64 x.f1,.slice A2 x.f2.length c2] :=fun W2 hW => k83_mk W2 x l2 (g2 W2 hW)
def rd_T83 (xs : List S83) (i : Int) : S83 :=xs.getD i.toNat z83
theorem at_T83 {w : World} {A : Option Addr} {n : Nat} {xs : List S83} (h : Kd.C k83 w A n xs) (i : Int) (h0 : 0 ≤ i) (h1 : i < n) : ∃ ad A2 c2,A = some ad ∧ w.cell? (ad.add (i.toNat * 3)) = some (.string (rd_T83 xs i).f0) ∧ w.cell? ⟨(ad.add (i.toNat * 3)).block,(ad.add (i.toNat * 3)).off + 1,none⟩ = some (.int .i64 (rd_T83 xs i).f1) ∧ w.cell? ⟨(ad.add (i.toNat * 3)).block,(ad.add (i.toNat * 3)).off + 2,none⟩ = some (.slice A2 (rd_T83 xs i).f2.length c2) ∧ (rd_T83 xs i).f2.length ≤ c2 ∧ k85.C w A2 (rd_T83 xs i).f2.length (rd_T83 xs i).f2 :=by
 obtain ⟨ad,c,e,_,hK,hc0⟩ :=Kd.C_get h z83 i h0 h1
 have hc : ∀ j u,c[j]? = some u → w.cell? (ad.add (i.toNat * 3 + j)) = some u :=hc0
 obtain ⟨A2,c2,rfl,l2,g2⟩ :=k83_open hK
 exact ⟨ad,A2,c2,e,hc 0 _ rfl,by rw [← add_field _ _ 1 (by omega)];exact hc 1 _ rfl,by rw [← add_field _ _ 2 (by omega)];exact hc 2 _ rfl,l2,g2⟩
def rd_L7 (xs : List (List S83)) (i : Int) : (List S83) :=xs.getD i.toNat ([] : List S83)
theorem at_L7 {w : World} {A : Option Addr} {n : Nat} {xs : List (List S83)} (h : Kd.C (Kd.slice 83 k83) w A n xs) (i : Int) (h0 : 0 ≤ i) (h1 : i < n) : ∃ ad A0 c0,A = some ad ∧ w.cell? (ad.add i.toNat) = some (.slice A0 (rd_L7 xs i).length c0) ∧ (rd_L7 xs i).length ≤ c0 ∧ k83.C w A0 (rd_L7 xs i).length (rd_L7 xs i) :=by
 obtain ⟨ad,c,e,_,hK,hc0⟩ :=Kd.C_get h ([] : List S83) i h0 h1
 have hc : ∀ j u,c[j]? = some u → w.cell? (ad.add (i.toNat * 1 + j)) = some u :=hc0
 obtain ⟨A0,c0,rfl,l0,g0⟩ :=hK
 exact ⟨ad,A0,c0,e,by have hq :=hc 0 _ rfl;rwa [Nat.mul_one,Nat.add_zero] at hq,l0,g0⟩
structure S43 where
 f0 : ByteArray
 f1 : (List S83)
def z43 : S43 :=⟨⟨#[]⟩,([] : List S83)⟩
def k43 : Kd S43 :=Kd.iso (Kd.pair Kd.string (Kd.slice 83 k83)) (fun x : S43 => (x.f0,x.f1))
theorem k43_open {w : World} {x : S43} {cs : List Value} (h : k43.K w x cs) : ∃ A1 c1,cs = [.string x.f0,.slice A1 x.f1.length c1] ∧ x.f1.length ≤ c1 ∧ k83.C w A1 x.f1.length x.f1 :=by
 obtain ⟨_,_,rfl,rfl,⟨A1,c1,rfl,l1,g1⟩⟩ :=h
 exact ⟨A1,c1,rfl,l1,g1⟩
theorem k43_openM {w : World} {base : Nat} {ok : Nat → Prop} {x : S43} {cs : List Value} (h : k43.M w base ok x cs) : ∃ v1,cs = [.string x.f0,v1] ∧ k83.R 83 w base ok v1 x.f1 :=by
 obtain ⟨_,_,rfl,rfl,⟨v1,rfl,g1⟩⟩ :=h
 exact ⟨v1,rfl,g1⟩
theorem k43_mk (w : World) (x : S43) {A1 : Option Addr} {c1 : Nat} (l1 : x.f1.length ≤ c1) (g1 : k83.C w A1 x.f1.length x.f1) : k43.K w x [.string x.f0,.slice A1 x.f1.length c1] :=⟨[.string x.f0],[.slice A1 x.f1.length c1],rfl,rfl,⟨A1,c1,rfl,l1,g1⟩⟩
theorem k43_mkM (w : World) (base : Nat) (ok : Nat → Prop) (x : S43) {v1 : Value} (g1 : k83.R 83 w base ok v1 x.f1) : k43.M w base ok x [.string x.f0,v1] :=⟨[.string x.f0],[v1],rfl,rfl,⟨v1,rfl,g1⟩⟩
theorem k43_openF {W : World} {ok : Nat → Prop} {x : S43} {cs : List Value} (h : Kd.FK k43 W ok x cs) : ∃ A1 c1,cs = [.string x.f0,.slice A1 x.f1.length c1] ∧ x.f1.length ≤ c1 ∧ Kd.F k83 W ok A1 x.f1.length x.f1 :=by
 obtain ⟨A1,c1,rfl,l1,_⟩ :=k43_open (Kd.FK_now h)
 exact ⟨A1,c1,rfl,l1,(fun W' hW => by obtain ⟨A1_,c1_,he,l1_,g1_⟩ :=k43_open (h W' hW);injection (Option.some.inj (show some (Value.slice A1 x.f1.length c1) = some (Value.slice A1_ x.f1.length c1_) from congrArg (fun l => l[1]?) he)) with ha_ _ _;rw [ha_];exact g1_)⟩
theorem k43_mkF (W : World) (ok : Nat → Prop) (x : S43) {A1 : Option Addr} {c1 : Nat} (l1 : x.f1.length ≤ c1) (g1 : Kd.F k83 W ok A1 x.f1.length x.f1) : Kd.FK k43 W ok x [.string x.f0,.slice A1 x.f1.length c1] :=fun W2 hW => k43_mk W2 x l1 (g1 W2 hW)
def rd_T43 (xs : List S43) (i : Int) : S43 :=xs.getD i.toNat z43
theorem at_T43 {w : World} {A : Option Addr} {n : Nat} {xs : List S43} (h : Kd.C k43 w A n xs) (i : Int) (h0 : 0 ≤ i) (h1 : i < n) : ∃ ad A1 c1,A = some ad ∧ w.cell? (ad.add (i.toNat * 2)) = some (.string (rd_T43 xs i).f0) ∧ w.cell? ⟨(ad.add (i.toNat * 2)).block,(ad.add (i.toNat * 2)).off + 1,none⟩ = some (.slice A1 (rd_T43 xs i).f1.length c1) ∧ (rd_T43 xs i).f1.length ≤ c1 ∧ k83.C w A1 (rd_T43 xs i).f1.length (rd_T43 xs i).f1 :=by
 obtain ⟨ad,c,e,_,hK,hc0⟩ :=Kd.C_get h z43 i h0 h1
 have hc : ∀ j u,c[j]? = some u → w.cell? (ad.add (i.toNat * 2 + j)) = some u :=hc0
 obtain ⟨A1,c1,rfl,l1,g1⟩ :=k43_open hK
 exact ⟨ad,A1,c1,e,hc 0 _ rfl,by rw [← add_field _ _ 1 (by omega)];exact hc 1 _ rfl,l1,g1⟩
def rd_L9 (xs : List (List ByteArray)) (i : Int) : (List ByteArray) :=xs.getD i.toNat ([] : List ByteArray)
theorem at_L9 {w : World} {A : Option Addr} {n : Nat} {xs : List (List ByteArray)} (h : Kd.C (Kd.slice 9 Kd.string) w A n xs) (i : Int) (h0 : 0 ≤ i) (h1 : i < n) : ∃ ad A0 c0,A = some ad ∧ w.cell? (ad.add i.toNat) = some (.slice A0 (rd_L9 xs i).length c0) ∧ (rd_L9 xs i).length ≤ c0 ∧ Kd.string.C w A0 (rd_L9 xs i).length (rd_L9 xs i) :=by
 obtain ⟨ad,c,e,_,hK,hc0⟩ :=Kd.C_get h ([] : List ByteArray) i h0 h1
 have hc : ∀ j u,c[j]? = some u → w.cell? (ad.add (i.toNat * 1 + j)) = some u :=hc0
 obtain ⟨A0,c0,rfl,l0,g0⟩ :=hK
 exact ⟨ad,A0,c0,e,by have hq :=hc 0 _ rfl;rwa [Nat.mul_one,Nat.add_zero] at hq,l0,g0⟩
structure S46 where
 f0 : Int
 f1 : S43
 f2 : ByteArray
 f3 : (List ByteArray)
 f4 : Int
 f5 : (List Int)
 f6 : Int
 f7 : Int
 f8 : Bool
 f9 : (List Int)
def z46 : S46 :=⟨(0 : Int),z43,⟨#[]⟩,([] : List ByteArray),(0 : Int),([] : List Int),(0 : Int),(0 : Int),false,([] : List Int)⟩
def k46 : Kd S46 :=Kd.iso (Kd.pair (Kd.int .i64) (Kd.pair k43 (Kd.pair Kd.string (Kd.pair (Kd.slice 9 Kd.string) (Kd.pair (Kd.int .i64) (Kd.pair (Kd.slice 5 (Kd.int .u8)) (Kd.pair (Kd.int .i64) (Kd.pair (Kd.int .i64) (Kd.pair Kd.bool (Kd.slice 5 (Kd.int .u8))))))))))) (fun x : S46 => (x.f0,x.f1,x.f2,x.f3,x.f4,x.f5,x.f6,x.f7,x.f8,x.f9))
theorem k46_open {w : World} {x : S46} {cs : List Value} (h : k46.K w x cs) : ∃ A2 c2 A4 c4 A6 c6 A10 c10,cs = [.int .i64 x.f0,.string x.f1.f0,.slice A2 x.f1.f1.length c2,.string x.f2,.slice A4 x.f3.length c4,.int .i64 x.f4,.slice A6 x.f5.length c6,.int .i64 x.f6,.int .i64 x.f7,.bool x.f8,.slice A10 x.f9.length c10] ∧ x.f1.f1.length ≤ c2 ∧ k83.C w A2 x.f1.f1.length x.f1.f1 ∧ x.f3.length ≤ c4 ∧ Kd.string.C w A4 x.f3.length x.f3 ∧ x.f5.length ≤ c6 ∧ (Kd.int .u8).C w A6 x.f5.length x.f5 ∧ x.f9.length ≤ c10 ∧ (Kd.int .u8).C w A10 x.f9.length x.f9 :=by
 obtain ⟨_,_,rfl,rfl,⟨_,_,rfl,s1,⟨_,_,rfl,rfl,⟨_,_,rfl,⟨A4,c4,rfl,l4,g4⟩,⟨_,_,rfl,rfl,⟨_,_,rfl,⟨A6,c6,rfl,l6,g6⟩,⟨_,_,rfl,rfl,⟨_,_,rfl,rfl,⟨_,_,rfl,rfl,⟨A10,c10,rfl,l10,g10⟩⟩⟩⟩⟩⟩⟩⟩⟩⟩ :=h
 obtain ⟨A2,c2,rfl,l2,g2⟩ :=k43_open s1
 exact ⟨A2,c2,A4,c4,A6,c6,A10,c10,rfl,l2,g2,l4,g4,l6,g6,l10,g10⟩
theorem k46_openM {w : World} {base : Nat} {ok : Nat → Prop} {x : S46} {cs : List Value} (h : k46.M w base ok x cs) : ∃ v2 v4 v6 v10,cs = [.int .i64 x.f0,.string x.f1.f0,v2,.string x.f2,v4,.int .i64 x.f4,v6,.int .i64 x.f6,.int .i64 x.f7,.bool x.f8,v10] ∧ k83.R 83 w base ok v2 x.f1.f1 ∧ Kd.string.R 9 w base ok v4 x.f3 ∧ (Kd.int .u8).R 5 w base ok v6 x.f5 ∧ (Kd.int .u8).R 5 w base ok v10 x.f9 :=by
 obtain ⟨_,_,rfl,rfl,⟨_,_,rfl,s1,⟨_,_,rfl,rfl,⟨_,_,rfl,⟨v4,rfl,g4⟩,⟨_,_,rfl,rfl,⟨_,_,rfl,⟨v6,rfl,g6⟩,⟨_,_,rfl,rfl,⟨_,_,rfl,rfl,⟨_,_,rfl,rfl,⟨v10,rfl,g10⟩⟩⟩⟩⟩⟩⟩⟩⟩⟩ :=h
 obtain ⟨v2,rfl,g2⟩ :=k43_openM s1
 exact ⟨v2,v4,v6,v10,rfl,g2,g4,g6,g10⟩
theorem k46_mk (w : World) (x : S46) {A2 : Option Addr} {c2 : Nat} (l2 : x.f1.f1.length ≤ c2) (g2 : k83.C w A2 x.f1.f1.length x.f1.f1) {A4 : Option Addr} {c4 : Nat} (l4 : x.f3.length ≤ c4) (g4 : Kd.string.C w A4 x.f3.length x.f3) {A6 : Option Addr} {c6 : Nat} (l6 : x.f5.length ≤ c6) (g6 : (Kd.int .u8).C w A6 x.f5.length x.f5) {A10 : Option Addr} {c10 : Nat} (l10 : x.f9.length ≤ c10) (g10 : (Kd.int .u8).C w A10 x.f9.length x.f9) : k46.K w x [.int .i64 x.f0,.string x.f1.f0,.slice A2 x.f1.f1.length c2,.string x.f2,.slice A4 x.f3.length c4,.int .i64 x.f4,.slice A6 x.f5.length c6,.int .i64 x.f6,.int .i64 x.f7,.bool x.f8,.slice A10 x.f9.length c10] :=⟨[.int .i64 x.f0],[.string x.f1.f0,.slice A2 x.f1.f1.length c2,.string x.f2,.slice A4 x.f3.length c4,.int .i64 x.f4,.slice A6 x.f5.length c6,.int .i64 x.f6,.int .i64 x.f7,.bool x.f8,.slice A10 x.f9.length c10],rfl,rfl,⟨[.string x.f1.f0,.slice A2 x.f1.f1.length c2],[.string x.f2,.slice A4 x.f3.length c4,.int .i64 x.f4,.slice A6 x.f5.length c6,.int .i64 x.f6,.int .i64 x.f7,.bool x.f8,.slice A10 x.f9.length c10],rfl,(k43_mk w x.f1 l2 g2),⟨[.string x.f2],[.slice A4 x.f3.length c4,.int .i64 x.f4,.slice A6 x.f5.length c6,.int .i64 x.f6,.int .i64 x.f7,.bool x.f8,.slice A10 x.f9.length c10],rfl,rfl,⟨[.slice A4 x.f3.length c4],[.int .i64 x.f4,.slice A6 x.f5.length c6,.int .i64 x.f6,.int .i64 x.f7,.bool x.f8,.slice A10 x.f9.length c10],rfl,⟨A4,c4,rfl,l4,g4⟩,⟨[.int .i64 x.f4],[.slice A6 x.f5.length c6,.int .i64 x.f6,.int .i64 x.f7,.bool x.f8,.slice A10 x.f9.length c10],rfl,rfl,⟨[.slice A6 x.f5.length c6],[.int .i64 x.f6,.int .i64 x.f7,.bool x.f8,.slice A10 x.f9.length c10],rfl,⟨A6,c6,rfl,l6,g6⟩,⟨[.int .i64 x.f6],[.int .i64 x.f7,.bool x.f8,.slice A10 x.f9.length c10],rfl,rfl,⟨[.int .i64 x.f7],[.bool x.f8,.slice A10 x.f9.length c10],rfl,rfl,⟨[.bool x.f8],[.slice A10 x.f9.length c10],rfl,rfl,⟨A10,c10,rfl,l10,g10⟩⟩⟩⟩⟩⟩⟩⟩⟩⟩
theorem k46_mkM (w : World) (base : Nat) (ok : Nat → Prop) (x : S46) {v2 : Value} (g2 : k83.R 83 w base ok v2 x.f1.f1) {v4 : Value} (g4 : Kd.string.R 9 w base ok v4 x.f3) {v6 : Value} (g6 : (Kd.int .u8).R 5 w base ok v6 x.f5) {v10 : Value} (g10 : (Kd.int .u8).R 5 w base ok v10 x.f9) : k46.M w base ok x [.int .i64 x.f0,.string x.f1.f0,v2,.string x.f2,v4,.int .i64 x.f4,v6,.int .i64 x.f6,.int .i64 x.f7,.bool x.f8,v10] :=⟨[.int .i64 x.f0],[.string x.f1.f0,v2,.string x.f2,v4,.int .i64 x.f4,v6,.int .i64 x.f6,.int .i64 x.f7,.bool x.f8,v10],rfl,rfl,⟨[.string x.f1.f0,v2],[.string x.f2,v4,.int .i64 x.f4,v6,.int .i64 x.f6,.int .i64 x.f7,.bool x.f8,v10],rfl,(k43_mkM w base ok x.f1 g2),⟨[.string x.f2],[v4,.int .i64 x.f4,v6,.int .i64 x.f6,.int .i64 x.f7,.bool x.f8,v10],rfl,rfl,⟨[v4],[.int .i64 x.f4,v6,.int .i64 x.f6,.int .i64 x.f7,.bool x.f8,v10],rfl,⟨v4,rfl,g4⟩,⟨[.int .i64 x.f4],[v6,.int .i64 x.f6,.int .i64 x.f7,.bool x.f8,v10],rfl,rfl,⟨[v6],[.int .i64 x.f6,.int .i64 x.f7,.bool x.f8,v10],rfl,⟨v6,rfl,g6⟩,⟨[.int .i64 x.f6],[.int .i64 x.f7,.bool x.f8,v10],rfl,rfl,⟨[.int .i64 x.f7],[.bool x.f8,v10],rfl,rfl,⟨[.bool x.f8],[v10],rfl,rfl,⟨v10,rfl,g10⟩⟩⟩⟩⟩⟩⟩⟩⟩⟩
theorem k46_openF {W : World} {ok : Nat → Prop} {x : S46} {cs : List Value} (h : Kd.FK k46 W ok x cs) : ∃ A2 c2 A4 c4 A6 c6 A10 c10,cs = [.int .i64 x.f0,.string x.f1.f0,.slice A2 x.f1.f1.length c2,.string x.f2,.slice A4 x.f3.length c4,.int .i64 x.f4,.slice A6 x.f5.length c6,.int .i64 x.f6,.int .i64 x.f7,.bool x.f8,.slice A10 x.f9.length c10] ∧ x.f1.f1.length ≤ c2 ∧ Kd.F k83 W ok A2 x.f1.f1.length x.f1.f1 ∧ x.f3.length ≤ c4 ∧ Kd.F Kd.string W ok A4 x.f3.length x.f3 ∧ x.f5.length ≤ c6 ∧ Kd.F (Kd.int .u8) W ok A6 x.f5.length x.f5 ∧ x.f9.length ≤ c10 ∧ Kd.F (Kd.int .u8) W ok A10 x.f9.length x.f9 :=by
 obtain ⟨A2,c2,A4,c4,A6,c6,A10,c10,rfl,l2,_,l4,_,l6,_,l10,_⟩ :=k46_open (Kd.FK_now h)
 exact ⟨A2,c2,A4,c4,A6,c6,A10,c10,rfl,l2,(fun W' hW => by obtain ⟨A2_,c2_,A4_,c4_,A6_,c6_,A10_,c10_,he,l2_,g2_,l4_,g4_,l6_,g6_,l10_,g10_⟩ :=k46_open (h W' hW);injection (Option.some.inj (show some (Value.slice A2 x.f1.f1.length c2) = some (Value.slice A2_ x.f1.f1.length c2_) from congrArg (fun l => l[2]?) he)) with ha_ _ _;rw [ha_];exact g2_),l4,(fun W' hW => by obtain ⟨A2_,c2_,A4_,c4_,A6_,c6_,A10_,c10_,he,l2_,g2_,l4_,g4_,l6_,g6_,l10_,g10_⟩ :=k46_open (h W' hW);injection (Option.some.inj (show some (Value.slice A4 x.f3.length c4) = some (Value.slice A4_ x.f3.length c4_) from congrArg (fun l => l[4]?) he)) with ha_ _ _;rw [ha_];exact g4_),l6,(fun W' hW => by obtain ⟨A2_,c2_,A4_,c4_,A6_,c6_,A10_,c10_,he,l2_,g2_,l4_,g4_,l6_,g6_,l10_,g10_⟩ :=k46_open (h W' hW);injection (Option.some.inj (show some (Value.slice A6 x.f5.length c6) = some (Value.slice A6_ x.f5.length c6_) from congrArg (fun l => l[6]?) he)) with ha_ _ _;rw [ha_];exact g6_),l10,(fun W' hW => by obtain ⟨A2_,c2_,A4_,c4_,A6_,c6_,A10_,c10_,he,l2_,g2_,l4_,g4_,l6_,g6_,l10_,g10_⟩ :=k46_open (h W' hW);injection (Option.some.inj (show some (Value.slice A10 x.f9.length c10) = some (Value.slice A10_ x.f9.length c10_) from congrArg (fun l => l[10]?) he)) with ha_ _ _;rw [ha_];exact g10_)⟩
theorem k46_mkF (W : World) (ok : Nat → Prop) (x : S46) {A2 : Option Addr} {c2 : Nat} (l2 : x.f1.f1.length ≤ c2) (g2 : Kd.F k83 W ok A2 x.f1.f1.length x.f1.f1) {A4 : Option Addr} {c4 : Nat} (l4 : x.f3.length ≤ c4) (g4 : Kd.F Kd.string W ok A4 x.f3.length x.f3) {A6 : Option Addr} {c6 : Nat} (l6 : x.f5.length ≤ c6) (g6 : Kd.F (Kd.int .u8) W ok A6 x.f5.length x.f5) {A10 : Option Addr} {c10 : Nat} (l10 : x.f9.length ≤ c10) (g10 : Kd.F (Kd.int .u8) W ok A10 x.f9.length x.f9) : Kd.FK k46 W ok x [.int .i64 x.f0,.string x.f1.f0,.slice A2 x.f1.f1.length c2,.string x.f2,.slice A4 x.f3.length c4,.int .i64 x.f4,.slice A6 x.f5.length c6,.int .i64 x.f6,.int .i64 x.f7,.bool x.f8,.slice A10 x.f9.length c10] :=fun W2 hW => k46_mk W2 x l2 (g2 W2 hW) l4 (g4 W2 hW) l6 (g6 W2 hW) l10 (g10 W2 hW)
def rd_T46 (xs : List S46) (i : Int) : S46 :=xs.getD i.toNat z46
theorem at_T46 {w : World} {A : Option Addr} {n : Nat} {xs : List S46} (h : Kd.C k46 w A n xs) (i : Int) (h0 : 0 ≤ i) (h1 : i < n) : ∃ ad A2 c2 A4 c4 A6 c6 A10 c10,A = some ad ∧ w.cell? (ad.add (i.toNat * 11)) = some (.int .i64 (rd_T46 xs i).f0) ∧ w.cell? ⟨(ad.add (i.toNat * 11)).block,(ad.add (i.toNat * 11)).off + 1,none⟩ = some (.string (rd_T46 xs i).f1.f0) ∧ w.cell? ⟨(ad.add (i.toNat * 11)).block,(ad.add (i.toNat * 11)).off + 2,none⟩ = some (.slice A2 (rd_T46 xs i).f1.f1.length c2) ∧ w.cell? ⟨(ad.add (i.toNat * 11)).block,(ad.add (i.toNat * 11)).off + 3,none⟩ = some (.string (rd_T46 xs i).f2) ∧ w.cell? ⟨(ad.add (i.toNat * 11)).block,(ad.add (i.toNat * 11)).off + 4,none⟩ = some (.slice A4 (rd_T46 xs i).f3.length c4) ∧ w.cell? ⟨(ad.add (i.toNat * 11)).block,(ad.add (i.toNat * 11)).off + 5,none⟩ = some (.int .i64 (rd_T46 xs i).f4) ∧ w.cell? ⟨(ad.add (i.toNat * 11)).block,(ad.add (i.toNat * 11)).off + 6,none⟩ = some (.slice A6 (rd_T46 xs i).f5.length c6) ∧ w.cell? ⟨(ad.add (i.toNat * 11)).block,(ad.add (i.toNat * 11)).off + 7,none⟩ = some (.int .i64 (rd_T46 xs i).f6) ∧ w.cell? ⟨(ad.add (i.toNat * 11)).block,(ad.add (i.toNat * 11)).off + 8,none⟩ = some (.int .i64 (rd_T46 xs i).f7) ∧ w.cell? ⟨(ad.add (i.toNat * 11)).block,(ad.add (i.toNat * 11)).off + 9,none⟩ = some (.bool (rd_T46 xs i).f8) ∧ w.cell? ⟨(ad.add (i.toNat * 11)).block,(ad.add (i.toNat * 11)).off + 10,none⟩ = some (.slice A10 (rd_T46 xs i).f9.length c10) ∧ (rd_T46 xs i).f1.f1.length ≤ c2 ∧ k83.C w A2 (rd_T46 xs i).f1.f1.length (rd_T46 xs i).f1.f1 ∧ (rd_T46 xs i).f3.length ≤ c4 ∧ Kd.string.C w A4 (rd_T46 xs i).f3.length (rd_T46 xs i).f3 ∧ (rd_T46 xs i).f5.length ≤ c6 ∧ (Kd.int .u8).C w A6 (rd_T46 xs i).f5.length (rd_T46 xs i).f5 ∧ (rd_T46 xs i).f9.length ≤ c10 ∧ (Kd.int .u8).C w A10 (rd_T46 xs i).f9.length (rd_T46 xs i).f9 :=by
 obtain ⟨ad,c,e,_,hK,hc0⟩ :=Kd.C_get h z46 i h0 h1
 have hc : ∀ j u,c[j]? = some u → w.cell? (ad.add (i.toNat * 11 + j)) = some u :=hc0
 obtain ⟨A2,c2,A4,c4,A6,c6,A10,c10,rfl,l2,g2,l4,g4,l6,g6,l10,g10⟩ :=k46_open hK
 exact ⟨ad,A2,c2,A4,c4,A6,c6,A10,c10,e,hc 0 _ rfl,by rw [← add_field _ _ 1 (by omega)];exact hc 1 _ rfl,by rw [← add_field _ _ 2 (by omega)];exact hc 2 _ rfl,by rw [← add_field _ _ 3 (by omega)];exact hc 3 _ rfl,by rw [← add_field _ _ 4 (by omega)];exact hc 4 _ rfl,by rw [← add_field _ _ 5 (by omega)];exact hc 5 _ rfl,by rw [← add_field _ _ 6 (by omega)];exact hc 6 _ rfl,by rw [← add_field _ _ 7 (by omega)];exact hc 7 _ rfl,by rw [← add_field _ _ 8 (by omega)];exact hc 8 _ rfl,by rw [← add_field _ _ 9 (by omega)];exact hc 9 _ rfl,by rw [← add_field _ _ 10 (by omega)];exact hc 10 _ rfl,l2,g2,l4,g4,l6,g6,l10,g10⟩
structure S48 where
 f0 : Int
 f1 : S46
 f2 : Int
 f3 : (List Int)
def z48 : S48 :=⟨(0 : Int),z46,(0 : Int),([] : List Int)⟩
def k48 : Kd S48 :=Kd.iso (Kd.pair (Kd.int .i64) (Kd.pair k46 (Kd.pair (Kd.int .i64) (Kd.slice 5 (Kd.int .u8))))) (fun x : S48 => (x.f0,x.f1,x.f2,x.f3))
theorem k48_open {w : World} {x : S48} {cs : List Value} (h : k48.K w x cs) : ∃ A3 c3 A5 c5 A7 c7 A11 c11 A13 c13,cs = [.int .i64 x.f0,.int .i64 x.f1.f0,.string x.f1.f1.f0,.slice A3 x.f1.f1.f1.length c3,.string x.f1.f2,.slice A5 x.f1.f3.length c5,.int .i64 x.f1.f4,.slice A7 x.f1.f5.length c7,.int .i64 x.f1.f6,.int .i64 x.f1.f7,.bool x.f1.f8,.slice A11 x.f1.f9.length c11,.int .i64 x.f2,.slice A13 x.f3.length c13] ∧ x.f1.f1.f1.length ≤ c3 ∧ k83.C w A3 x.f1.f1.f1.length x.f1.f1.f1 ∧ x.f1.f3.length ≤ c5 ∧ Kd.string.C w A5 x.f1.f3.length x.f1.f3 ∧ x.f1.f5.length ≤ c7 ∧ (Kd.int .u8).C w A7 x.f1.f5.length x.f1.f5 ∧ x.f1.f9.length ≤ c11 ∧ (Kd.int .u8).C w A11 x.f1.f9.length x.f1.f9 ∧ x.f3.length ≤ c13 ∧ (Kd.int .u8).C w A13 x.f3.length x.f3 :=by
 obtain ⟨_,_,rfl,rfl,⟨_,_,rfl,s1,⟨_,_,rfl,rfl,⟨A13,c13,rfl,l13,g13⟩⟩⟩⟩ :=h
 obtain ⟨A3,c3,A5,c5,A7,c7,A11,c11,rfl,l3,g3,l5,g5,l7,g7,l11,g11⟩ :=k46_open s1
 exact ⟨A3,c3,A5,c5,A7,c7,A11,c11,A13,c13,rfl,l3,g3,l5,g5,l7,g7,l11,g11,l13,g13⟩
theorem k48_openM {w : World} {base : Nat} {ok : Nat → Prop} {x : S48} {cs : List Value} (h : k48.M w base ok x cs) : ∃ v3 v5 v7 v11 v13,cs = [.int .i64 x.f0,.int .i64 x.f1.f0,.string x.f1.f1.f0,v3,.string x.f1.f2,v5,.int .i64 x.f1.f4,v7,.int .i64 x.f1.f6,.int .i64 x.f1.f7,.bool x.f1.f8,v11,.int .i64 x.f2,v13] ∧ k83.R 83 w base ok v3 x.f1.f1.f1 ∧ Kd.string.R 9 w base ok v5 x.f1.f3 ∧ (Kd.int .u8).R 5 w base ok v7 x.f1.f5 ∧ (Kd.int .u8).R 5 w base ok v11 x.f1.f9 ∧ (Kd.int .u8).R 5 w base ok v13 x.f3 :=by
 obtain ⟨_,_,rfl,rfl,⟨_,_,rfl,s1,⟨_,_,rfl,rfl,⟨v13,rfl,g13⟩⟩⟩⟩ :=h
 obtain ⟨v3,v5,v7,v11,rfl,g3,g5,g7,g11⟩ :=k46_openM s1
 exact ⟨v3,v5,v7,v11,v13,rfl,g3,g5,g7,g11,g13⟩
theorem k48_mk (w : World) (x : S48) {A3 : Option Addr} {c3 : Nat} (l3 : x.f1.f1.f1.length ≤ c3) (g3 : k83.C w A3 x.f1.f1.f1.length x.f1.f1.f1) {A5 : Option Addr} {c5 : Nat} (l5 : x.f1.f3.length ≤ c5) (g5 : Kd.string.C w A5 x.f1.f3.length x.f1.f3) {A7 : Option Addr} {c7 : Nat} (l7 : x.f1.f5.length ≤ c7) (g7 : (Kd.int .u8).C w A7 x.f1.f5.length x.f1.f5) {A11 : Option Addr} {c11 : Nat} (l11 : x.f1.f9.length ≤ c11) (g11 : (Kd.int .u8).C w A11 x.f1.f9.length x.f1.f9) {A13 : Option Addr} {c13 : Nat} (l13 : x.f3.length ≤ c13) (g13 : (Kd.int .u8).C w A13 x.f3.length x.f3) : k48.K w x [.int .i64 x.f0,.int .i64 x.f1.f0,.string x.f1.f1.f0,.slice A3 x.f1.f1.f1.length c3,.string x.f1.f2,.slice A5 x.f1.f3.length c5,.int .i64 x.f1.f4,.slice A7 x.f1.f5.length c7,.int .i64 x.f1.f6,.int .i64 x.f1.f7,.bool x.f1.f8,.slice A11 x.f1.f9.length c11,.int .i64 x.f2,.slice A13 x.f3.length c13] :=⟨[.int .i64 x.f0],[.int .i64 x.f1.f0,.string x.f1.f1.f0,.slice A3 x.f1.f1.f1.length c3,.string x.f1.f2,.slice A5 x.f1.f3.length c5,.int .i64 x.f1.f4,.slice A7 x.f1.f5.length c7,.int .i64 x.f1.f6,.int .i64 x.f1.f7,.bool x.f1.f8,.slice A11 x.f1.f9.length c11,.int .i64 x.f2,.slice A13 x.f3.length c13],rfl,rfl,⟨[.int .i64 x.f1.f0,.string x.f1.f1.f0,.slice A3 x.f1.f1.f1.length c3,.string x.f1.f2,.slice A5 x.f1.f3.length c5,.int .i64 x.f1.f4,.slice A7 x.f1.f5.length c7,.int .i64 x.f1.f6,.int .i64 x.f1.f7,.bool x.f1.f8,.slice A11 x.f1.f9.length c11],[.int .i64 x.f2,.slice A13 x.f3.length c13],rfl,(k46_mk w x.f1 l3 g3 l5 g5 l7 g7 l11 g11),⟨[.int .i64 x.f2],[.slice A13 x.f3.length c13],rfl,rfl,⟨A13,c13,rfl,l13,g13⟩⟩⟩⟩
theorem k48_mkM (w : World) (base : Nat) (ok : Nat → Prop) (x : S48) {v3 : Value} (g3 : k83.R 83 w base ok v3 x.f1.f1.f1) {v5 : Value} (g5 : Kd.string.R 9 w base ok v5 x.f1.f3) {v7 : Value} (g7 : (Kd.int .u8).R 5 w base ok v7 x.f1.f5) {v11 : Value} (g11 : (Kd.int .u8).R 5 w base ok v11 x.f1.f9) {v13 : Value} (g13 : (Kd.int .u8).R 5 w base ok v13 x.f3) : k48.M w base ok x [.int .i64 x.f0,.int .i64 x.f1.f0,.string x.f1.f1.f0,v3,.string x.f1.f2,v5,.int .i64 x.f1.f4,v7,.int .i64 x.f1.f6,.int .i64 x.f1.f7,.bool x.f1.f8,v11,.int .i64 x.f2,v13] :=⟨[.int .i64 x.f0],[.int .i64 x.f1.f0,.string x.f1.f1.f0,v3,.string x.f1.f2,v5,.int .i64 x.f1.f4,v7,.int .i64 x.f1.f6,.int .i64 x.f1.f7,.bool x.f1.f8,v11,.int .i64 x.f2,v13],rfl,rfl,⟨[.int .i64 x.f1.f0,.string x.f1.f1.f0,v3,.string x.f1.f2,v5,.int .i64 x.f1.f4,v7,.int .i64 x.f1.f6,.int .i64 x.f1.f7,.bool x.f1.f8,v11],[.int .i64 x.f2,v13],rfl,(k46_mkM w base ok x.f1 g3 g5 g7 g11),⟨[.int .i64 x.f2],[v13],rfl,rfl,⟨v13,rfl,g13⟩⟩⟩⟩
theorem k48_openF {W : World} {ok : Nat → Prop} {x : S48} {cs : List Value} (h : Kd.FK k48 W ok x cs) : ∃ A3 c3 A5 c5 A7 c7 A11 c11 A13 c13,cs = [.int .i64 x.f0,.int .i64 x.f1.f0,.string x.f1.f1.f0,.slice A3 x.f1.f1.f1.length c3,.string x.f1.f2,.slice A5 x.f1.f3.length c5,.int .i64 x.f1.f4,.slice A7 x.f1.f5.length c7,.int .i64 x.f1.f6,.int .i64 x.f1.f7,.bool x.f1.f8,.slice A11 x.f1.f9.length c11,.int .i64 x.f2,.slice A13 x.f3.length c13] ∧ x.f1.f1.f1.length ≤ c3 ∧ Kd.F k83 W ok A3 x.f1.f1.f1.length x.f1.f1.f1 ∧ x.f1.f3.length ≤ c5 ∧ Kd.F Kd.string W ok A5 x.f1.f3.length x.f1.f3 ∧ x.f1.f5.length ≤ c7 ∧ Kd.F (Kd.int .u8) W ok A7 x.f1.f5.length x.f1.f5 ∧ x.f1.f9.length ≤ c11 ∧ Kd.F (Kd.int .u8) W ok A11 x.f1.f9.length x.f1.f9 ∧ x.f3.length ≤ c13 ∧ Kd.F (Kd.int .u8) W ok A13 x.f3.length x.f3 :=by
 obtain ⟨A3,c3,A5,c5,A7,c7,A11,c11,A13,c13,rfl,l3,_,l5,_,l7,_,l11,_,l13,_⟩ :=k48_open (Kd.FK_now h)
 exact ⟨A3,c3,A5,c5,A7,c7,A11,c11,A13,c13,rfl,l3,(fun W' hW => by obtain ⟨A3_,c3_,A5_,c5_,A7_,c7_,A11_,c11_,A13_,c13_,he,l3_,g3_,l5_,g5_,l7_,g7_,l11_,g11_,l13_,g13_⟩ :=k48_open (h W' hW);injection (Option.some.inj (show some (Value.slice A3 x.f1.f1.f1.length c3) = some (Value.slice A3_ x.f1.f1.f1.length c3_) from congrArg (fun l => l[3]?) he)) with ha_ _ _;rw [ha_];exact g3_),l5,(fun W' hW => by obtain ⟨A3_,c3_,A5_,c5_,A7_,c7_,A11_,c11_,A13_,c13_,he,l3_,g3_,l5_,g5_,l7_,g7_,l11_,g11_,l13_,g13_⟩ :=k48_open (h W' hW);injection (Option.some.inj (show some (Value.slice A5 x.f1.f3.length c5) = some (Value.slice A5_ x.f1.f3.length c5_) from congrArg (fun l => l[5]?) he)) with ha_ _ _;rw [ha_];exact g5_),l7,(fun W' hW => by obtain ⟨A3_,c3_,A5_,c5_,A7_,c7_,A11_,c11_,A13_,c13_,he,l3_,g3_,l5_,g5_,l7_,g7_,l11_,g11_,l13_,g13_⟩ :=k48_open (h W' hW);injection (Option.some.inj (show some (Value.slice A7 x.f1.f5.length c7) = some (Value.slice A7_ x.f1.f5.length c7_) from congrArg (fun l => l[7]?) he)) with ha_ _ _;rw [ha_];exact g7_),l11,(fun W' hW => by obtain ⟨A3_,c3_,A5_,c5_,A7_,c7_,A11_,c11_,A13_,c13_,he,l3_,g3_,l5_,g5_,l7_,g7_,l11_,g11_,l13_,g13_⟩ :=k48_open (h W' hW);injection (Option.some.inj (show some (Value.slice A11 x.f1.f9.length c11) = some (Value.slice A11_ x.f1.f9.length c11_) from congrArg (fun l => l[11]?) he)) with ha_ _ _;rw [ha_];exact g11_),l13,(fun W' hW => by obtain ⟨A3_,c3_,A5_,c5_,A7_,c7_,A11_,c11_,A13_,c13_,he,l3_,g3_,l5_,g5_,l7_,g7_,l11_,g11_,l13_,g13_⟩ :=k48_open (h W' hW);injection (Option.some.inj (show some (Value.slice A13 x.f3.length c13) = some (Value.slice A13_ x.f3.length c13_) from congrArg (fun l => l[13]?) he)) with ha_ _ _;rw [ha_];exact g13_)⟩
theorem k48_mkF (W : World) (ok : Nat → Prop) (x : S48) {A3 : Option Addr} {c3 : Nat} (l3 : x.f1.f1.f1.length ≤ c3) (g3 : Kd.F k83 W ok A3 x.f1.f1.f1.length x.f1.f1.f1) {A5 : Option Addr} {c5 : Nat} (l5 : x.f1.f3.length ≤ c5) (g5 : Kd.F Kd.string W ok A5 x.f1.f3.length x.f1.f3) {A7 : Option Addr} {c7 : Nat} (l7 : x.f1.f5.length ≤ c7) (g7 : Kd.F (Kd.int .u8) W ok A7 x.f1.f5.length x.f1.f5) {A11 : Option Addr} {c11 : Nat} (l11 : x.f1.f9.length ≤ c11) (g11 : Kd.F (Kd.int .u8) W ok A11 x.f1.f9.length x.f1.f9) {A13 : Option Addr} {c13 : Nat} (l13 : x.f3.length ≤ c13) (g13 : Kd.F (Kd.int .u8) W ok A13 x.f3.length x.f3) : Kd.FK k48 W ok x [.int .i64 x.f0,.int .i64 x.f1.f0,.string x.f1.f1.f0,.slice A3 x.f1.f1.f1.length c3,.string x.f1.f2,.slice A5 x.f1.f3.length c5,.int .i64 x.f1.f4,.slice A7 x.f1.f5.length c7,.int .i64 x.f1.f6,.int .i64 x.f1.f7,.bool x.f1.f8,.slice A11 x.f1.f9.length c11,.int .i64 x.f2,.slice A13 x.f3.length c13] :=fun W2 hW => k48_mk W2 x l3 (g3 W2 hW) l5 (g5 W2 hW) l7 (g7 W2 hW) l11 (g11 W2 hW) l13 (g13 W2 hW)
def rd_T48 (xs : List S48) (i : Int) : S48 :=xs.getD i.toNat z48
theorem at_T48 {w : World} {A : Option Addr} {n : Nat} {xs : List S48} (h : Kd.C k48 w A n xs) (i : Int) (h0 : 0 ≤ i) (h1 : i < n) : ∃ ad A3 c3 A5 c5 A7 c7 A11 c11 A13 c13,A = some ad ∧ w.cell? (ad.add (i.toNat * 14)) = some (.int .i64 (rd_T48 xs i).f0) ∧ w.cell? ⟨(ad.add (i.toNat * 14)).block,(ad.add (i.toNat * 14)).off + 1,none⟩ = some (.int .i64 (rd_T48 xs i).f1.f0) ∧ w.cell? ⟨(ad.add (i.toNat * 14)).block,(ad.add (i.toNat * 14)).off + 2,none⟩ = some (.string (rd_T48 xs i).f1.f1.f0) ∧ w.cell? ⟨(ad.add (i.toNat * 14)).block,(ad.add (i.toNat * 14)).off + 3,none⟩ = some (.slice A3 (rd_T48 xs i).f1.f1.f1.length c3) ∧ w.cell? ⟨(ad.add (i.toNat * 14)).block,(ad.add (i.toNat * 14)).off + 4,none⟩ = some (.string (rd_T48 xs i).f1.f2) ∧ w.cell? ⟨(ad.add (i.toNat * 14)).block,(ad.add (i.toNat * 14)).off + 5,none⟩ = some (.slice A5 (rd_T48 xs i).f1.f3.length c5) ∧ w.cell? ⟨(ad.add (i.toNat * 14)).block,(ad.add (i.toNat * 14)).off + 6,none⟩ = some (.int .i64 (rd_T48 xs i).f1.f4) ∧ w.cell? ⟨(ad.add (i.toNat * 14)).block,(ad.add (i.toNat * 14)).off + 7,none⟩ = some (.slice A7 (rd_T48 xs i).f1.f5.length c7) ∧ w.cell? ⟨(ad.add (i.toNat * 14)).block,(ad.add (i.toNat * 14)).off + 8,none⟩ = some (.int .i64 (rd_T48 xs i).f1.f6) ∧ w.cell? ⟨(ad.add (i.toNat * 14)).block,(ad.add (i.toNat * 14)).off + 9,none⟩ = some (.int .i64 (rd_T48 xs i).f1.f7) ∧ w.cell? ⟨(ad.add (i.toNat * 14)).block,(ad.add (i.toNat * 14)).off + 10,none⟩ = some (.bool (rd_T48 xs i).f1.f8) ∧ w.cell? ⟨(ad.add (i.toNat * 14)).block,(ad.add (i.toNat * 14)).off + 11,none⟩ = some (.slice A11 (rd_T48 xs i).f1.f9.length c11) ∧ w.cell? ⟨(ad.add (i.toNat * 14)).block,(ad.add (i.toNat * 14)).off + 12,none⟩ = some (.int .i64 (rd_T48 xs i).f2) ∧ w.cell? ⟨(ad.add (i.toNat * 14)).block,(ad.add (i.toNat * 14)).off + 13,none⟩ = some (.slice A13 (rd_T48 xs i).f3.length c13) ∧ (rd_T48 xs i).f1.f1.f1.length ≤ c3 ∧ k83.C w A3 (rd_T48 xs i).f1.f1.f1.length (rd_T48 xs i).f1.f1.f1 ∧ (rd_T48 xs i).f1.f3.length ≤ c5 ∧ Kd.string.C w A5 (rd_T48 xs i).f1.f3.length (rd_T48 xs i).f1.f3 ∧ (rd_T48 xs i).f1.f5.length ≤ c7 ∧ (Kd.int .u8).C w A7 (rd_T48 xs i).f1.f5.length (rd_T48 xs i).f1.f5 ∧ (rd_T48 xs i).f1.f9.length ≤ c11 ∧ (Kd.int .u8).C w A11 (rd_T48 xs i).f1.f9.length (rd_T48 xs i).f1.f9 ∧ (rd_T48 xs i).f3.length ≤ c13 ∧ (Kd.int .u8).C w A13 (rd_T48 xs i).f3.length (rd_T48 xs i).f3 :=by
 obtain ⟨ad,c,e,_,hK,hc0⟩ :=Kd.C_get h z48 i h0 h1
 have hc : ∀ j u,c[j]? = some u → w.cell? (ad.add (i.toNat * 14 + j)) = some u :=hc0
 obtain ⟨A3,c3,A5,c5,A7,c7,A11,c11,A13,c13,rfl,l3,g3,l5,g5,l7,g7,l11,g11,l13,g13⟩ :=k48_open hK
 exact ⟨ad,A3,c3,A5,c5,A7,c7,A11,c11,A13,c13,e,hc 0 _ rfl,by rw [← add_field _ _ 1 (by omega)];exact hc 1 _ rfl,by rw [← add_field _ _ 2 (by omega)];exact hc 2 _ rfl,by rw [← add_field _ _ 3 (by omega)];exact hc 3 _ rfl,by rw [← add_field _ _ 4 (by omega)];exact hc 4 _ rfl,by rw [← add_field _ _ 5 (by omega)];exact hc 5 _ rfl,by rw [← add_field _ _ 6 (by omega)];exact hc 6 _ rfl,by rw [← add_field _ _ 7 (by omega)];exact hc 7 _ rfl,by rw [← add_field _ _ 8 (by omega)];exact hc 8 _ rfl,by rw [← add_field _ _ 9 (by omega)];exact hc 9 _ rfl,by rw [← add_field _ _ 10 (by omega)];exact hc 10 _ rfl,by rw [← add_field _ _ 11 (by omega)];exact hc 11 _ rfl,by rw [← add_field _ _ 12 (by omega)];exact hc 12 _ rfl,by rw [← add_field _ _ 13 (by omega)];exact hc 13 _ rfl,l3,g3,l5,g5,l7,g7,l11,g11,l13,g13⟩
end Go.Proofs.YtlafgnanfkhobaaGreatDoor.P2
