-- Written for this claim by a program, out of the translation.
import Derived.Test.YtlafgnanfkhobaaGreatDoorProg
import Derived.Test.YtlafgnanfkhobaaGreatDoorFe
import Derived.Below
import Derived.Deep.Draws
import Derived.Deep.AppendLies
import Derived.Maps.AppendAt
import Derived.OwnWalk
import Derived.Laws.BytesArg
import Derived.Laws.MakeOwn
import Derived.Laws.OwnMore
import Derived.Deep.OwnRows
import Derived.Tactics
import Derived.Lib.ConvBytes
import Derived.Laws.Slices
import Derived.WalkKit
import Derived.KernelRfl
import Derived.RowKit3
import Derived.Deep.LoopGhost
import Derived.Deep.QuietTactic
import Derived.BigQuiet
import Derived.WideLaws
import Derived.Deep.DeepCutAuto
import Derived.Deep.CutBlock
import Derived.Deep.RegionHeld3
import Derived.Laws.Rows
import Derived.Lib.AppendStr
import Derived.ArgAppend
import Derived.Laws.IdiomCopy
import Derived.OrdersHeld
import Derived.Laws.BitsLemmas
import Derived.RowKit
import Derived.Test.YtlafgnanfkhobaaGreatDoorWWords
import Derived.Test.YtlafgnanfkhobaaGreatDoorWLast
import Derived.Test.YtlafgnanfkhobaaGreatDoorWTab
import Derived.Test.YtlafgnanfkhobaaGreatDoorWFour
import Derived.Test.YtlafgnanfkhobaaGreatDoorWQPut
import Derived.Test.YtlafgnanfkhobaaGreatDoorWApart
import Derived.Test.YtlafgnanfkhobaaGreatDoorWArr
import Derived.Test.YtlafgnanfkhobaaGreatDoorWZeros
import Derived.Test.YtlafgnanfkhobaaGreatDoorWFoot
import Derived.Test.YtlafgnanfkhobaaGreatDoorWKept
import Derived.Test.YtlafgnanfkhobaaGreatDoorWShare
import Derived.Test.YtlafgnanfkhobaaGreatDoorWN
import Derived.Test.YtlafgnanfkhobaaGreatDoorWFootNe
import Derived.Test.YtlafgnanfkhobaaGreatDoorWAt
import Derived.Test.YtlafgnanfkhobaaGreatDoorWEqStruct
import Derived.Test.YtlafgnanfkhobaaGreatDoorWRepsOne
import Derived.Test.YtlafgnanfkhobaaGreatDoorWInv
import Derived.Test.YtlafgnanfkhobaaGreatDoorWInvWords
import Derived.Test.YtlafgnanfkhobaaGreatDoorWGuard
import Derived.Test.YtlafgnanfkhobaaGreatDoorWNEv
import Derived.Test.YtlafgnanfkhobaaGreatDoorWMore
namespace Go.Proofs.YtlafgnanfkhobaaGreatDoor.P2
open Go.RowKit Go.Proofs.YtlafgnanfkhobaaGreatDoorW.PrintWords Go.Proofs.YtlafgnanfkhobaaGreatDoorW.PrintLast Go.Proofs.YtlafgnanfkhobaaGreatDoorW.PrintMore
attribute [local go_sem] max2_int min2_int max_two min_two max_three min_three max_four min_four
def errW : Option Int → Value
 | none => .nilIface
 | some c => .iface 0 (.int .i64 c)
theorem errW_none : errW none = .nilIface :=rfl
theorem errW_some (c : Int) : errW (some c) = .iface 0 (.int .i64 c) :=rfl
theorem info5 : (Tryz.prog.info? 5).map (fun i => (i.zero,i.size,i.bytes)) = some (some (.int .u8 0),1,1) :=by kernel_rfl
theorem info9 : (Tryz.prog.info? 9).map (fun i => (i.zero,i.size,i.bytes)) = some (some (.string ⟨#[]⟩),1,16) :=by kernel_rfl
theorem info48 : (Tryz.prog.info? 48).map (fun i => (i.zero,i.size,i.bytes)) = some (some (.agg #[(.int .i64 0),(.int .i64 0),(.string ⟨#[]⟩),(.slice none 0 0),(.string ⟨#[]⟩),(.slice none 0 0),(.int .i64 0),(.slice none 0 0),(.int .i64 0),(.int .i64 0),(.bool false),(.slice none 0 0),(.int .i64 0),(.slice none 0 0)]),14,208) :=by kernel_rfl
theorem info83 : (Tryz.prog.info? 83).map (fun i => (i.zero,i.size,i.bytes)) = some (some (.agg #[(.string ⟨#[]⟩),(.int .i64 0),(.slice none 0 0)]),3,48) :=by kernel_rfl
theorem info85 : (Tryz.prog.info? 85).map (fun i => (i.zero,i.size,i.bytes)) = some (some (.agg #[(.string ⟨#[]⟩),(.slice none 0 0)]),2,40) :=by kernel_rfl
structure S85 where
 f0 : ByteArray
 f1 : (List Int)
def z85 : S85 :=⟨⟨#[]⟩,([] : List Int)⟩
def k85 : Kd S85 :=Kd.iso (Kd.pair Kd.string (Kd.slice 5 (Kd.int .u8))) (fun x : S85 => (x.f0,x.f1))
theorem k85_open {w : World} {x : S85} {cs : List Value} (h : k85.K w x cs) : ∃ A1 c1,cs = [.string x.f0,.slice A1 x.f1.length c1] ∧ x.f1.length ≤ c1 ∧ (Kd.int .u8).C w A1 x.f1.length x.f1 :=by
 obtain ⟨_,_,rfl,rfl,⟨A1,c1,rfl,l1,g1⟩⟩ :=h
 exact ⟨A1,c1,rfl,l1,g1⟩
theorem k85_mkM (w : World) (base : Nat) (ok : Nat → Prop) (x : S85) {v1 : Value} (g1 : (Kd.int .u8).R 5 w base ok v1 x.f1) : k85.M w base ok x [.string x.f0,v1] :=⟨[.string x.f0],[v1],rfl,rfl,⟨v1,rfl,g1⟩⟩
def rd_T85 (xs : List S85) (i : Int) : S85 :=xs.getD i.toNat z85
theorem at_T85 {w : World} {A : Option Addr} {n : Nat} {xs : List S85} (h : Kd.C k85 w A n xs) (i : Int) (h0 : 0 ≤ i) (h1 : i < n) : ∃ ad A1 c1,A = some ad ∧ w.cell? (ad.add (i.toNat * 2)) = some (.string (rd_T85 xs i).f0) ∧ w.cell? ⟨(ad.add (i.toNat * 2)).block,(ad.add (i.toNat * 2)).off + 1,none⟩ = some (.slice A1 (rd_T85 xs i).f1.length c1) ∧ (rd_T85 xs i).f1.length ≤ c1 ∧ (Kd.int .u8).C w A1 (rd_T85 xs i).f1.length (rd_T85 xs i).f1 :=by
 obtain ⟨ad,c,e,_,hK,hc0⟩ :=Kd.C_get h z85 i h0 h1
 have hc : ∀ j u,c[j]? = some u → w.cell? (ad.add (i.toNat * 2 + j)) = some u :=hc0
 obtain ⟨A1,c1,rfl,l1,g1⟩ :=k85_open hK
 exact ⟨ad,A1,c1,e,hc 0 _ rfl,by rw [← add_field _ _ 1 (by omega)];exact hc 1 _ rfl,l1,g1⟩
structure S83 where
 f0 : ByteArray
 f1 : Int
 f2 : (List S85)
def z83 : S83 :=⟨⟨#[]⟩,(0 : Int),([] : List S85)⟩
def k83 : Kd S83 :=Kd.iso (Kd.pair Kd.string (Kd.pair (Kd.int .i64) (Kd.slice 85 k85))) (fun x : S83 => (x.f0,x.f1,x.f2))
theorem k83_open {w : World} {x : S83} {cs : List Value} (h : k83.K w x cs) : ∃ A2 c2,cs = [.string x.f0,.int .i64 x.f1,.slice A2 x.f2.length c2] ∧ x.f2.length ≤ c2 ∧ k85.C w A2 x.f2.length x.f2 :=by
 obtain ⟨_,_,rfl,rfl,⟨_,_,rfl,rfl,⟨A2,c2,rfl,l2,g2⟩⟩⟩ :=h
 exact ⟨A2,c2,rfl,l2,g2⟩
theorem k83_mkM (w : World) (base : Nat) (ok : Nat → Prop) (x : S83) {v2 : Value} (g2 : k85.R 85 w base ok v2 x.f2) : k83.M w base ok x [.string x.f0,.int .i64 x.f1,v2] :=⟨[.string x.f0],[.int .i64 x.f1,v2],rfl,rfl,⟨[.int .i64 x.f1],[v2],rfl,rfl,⟨v2,rfl,g2⟩⟩⟩
def rd_T83 (xs : List S83) (i : Int) : S83 :=xs.getD i.toNat z83
theorem at_T83 {w : World} {A : Option Addr} {n : Nat} {xs : List S83} (h : Kd.C k83 w A n xs) (i : Int) (h0 : 0 ≤ i) (h1 : i < n) : ∃ ad A2 c2,A = some ad ∧ w.cell? (ad.add (i.toNat * 3)) = some (.string (rd_T83 xs i).f0) ∧ w.cell? ⟨(ad.add (i.toNat * 3)).block,(ad.add (i.toNat * 3)).off + 1,none⟩ = some (.int .i64 (rd_T83 xs i).f1) ∧ w.cell? ⟨(ad.add (i.toNat * 3)).block,(ad.add (i.toNat * 3)).off + 2,none⟩ = some (.slice A2 (rd_T83 xs i).f2.length c2) ∧ (rd_T83 xs i).f2.length ≤ c2 ∧ k85.C w A2 (rd_T83 xs i).f2.length (rd_T83 xs i).f2 :=by
 obtain ⟨ad,c,e,_,hK,hc0⟩ :=Kd.C_get h z83 i h0 h1
 have hc : ∀ j u,c[j]? = some u → w.cell? (ad.add (i.toNat * 3 + j)) = some u :=hc0
 obtain ⟨A2,c2,rfl,l2,g2⟩ :=k83_open hK
 exact ⟨ad,A2,c2,e,hc 0 _ rfl,by rw [← add_field _ _ 1 (by omega)];exact hc 1 _ rfl,by rw [← add_field _ _ 2 (by omega)];exact hc 2 _ rfl,l2,g2⟩
structure S43 where
 f0 : ByteArray
 f1 : (List S83)
def z43 : S43 :=⟨⟨#[]⟩,([] : List S83)⟩
def k43 : Kd S43 :=Kd.iso (Kd.pair Kd.string (Kd.slice 83 k83)) (fun x : S43 => (x.f0,x.f1))
theorem k43_open {w : World} {x : S43} {cs : List Value} (h : k43.K w x cs) : ∃ A1 c1,cs = [.string x.f0,.slice A1 x.f1.length c1] ∧ x.f1.length ≤ c1 ∧ k83.C w A1 x.f1.length x.f1 :=by
 obtain ⟨_,_,rfl,rfl,⟨A1,c1,rfl,l1,g1⟩⟩ :=h
 exact ⟨A1,c1,rfl,l1,g1⟩
theorem k43_openM {w : World} {base : Nat} {ok : Nat → Prop} {x : S43} {cs : List Value} (h : k43.M w base ok x cs) : ∃ v1,cs = [.string x.f0,v1] ∧ k83.R 83 w base ok v1 x.f1 :=by
 obtain ⟨_,_,rfl,rfl,⟨v1,rfl,g1⟩⟩ :=h
 exact ⟨v1,rfl,g1⟩
theorem k43_mkM (w : World) (base : Nat) (ok : Nat → Prop) (x : S43) {v1 : Value} (g1 : k83.R 83 w base ok v1 x.f1) : k43.M w base ok x [.string x.f0,v1] :=⟨[.string x.f0],[v1],rfl,rfl,⟨v1,rfl,g1⟩⟩
structure S46 where
 f0 : Int
 f1 : S43
 f2 : ByteArray
 f3 : (List ByteArray)
 f4 : Int
 f5 : (List Int)
 f6 : Int
 f7 : Int
 f8 : Bool
 f9 : (List Int)
def z46 : S46 :=⟨(0 : Int),z43,⟨#[]⟩,([] : List ByteArray),(0 : Int),([] : List Int),(0 : Int),(0 : Int),false,([] : List Int)⟩
def k46 : Kd S46 :=Kd.iso (Kd.pair (Kd.int .i64) (Kd.pair k43 (Kd.pair Kd.string (Kd.pair (Kd.slice 9 Kd.string) (Kd.pair (Kd.int .i64) (Kd.pair (Kd.slice 5 (Kd.int .u8)) (Kd.pair (Kd.int .i64) (Kd.pair (Kd.int .i64) (Kd.pair Kd.bool (Kd.slice 5 (Kd.int .u8))))))))))) (fun x : S46 => (x.f0,x.f1,x.f2,x.f3,x.f4,x.f5,x.f6,x.f7,x.f8,x.f9))
theorem k46_open {w : World} {x : S46} {cs : List Value} (h : k46.K w x cs) : ∃ A2 c2 A4 c4 A6 c6 A10 c10,cs = [.int .i64 x.f0,.string x.f1.f0,.slice A2 x.f1.f1.length c2,.string x.f2,.slice A4 x.f3.length c4,.int .i64 x.f4,.slice A6 x.f5.length c6,.int .i64 x.f6,.int .i64 x.f7,.bool x.f8,.slice A10 x.f9.length c10] ∧ x.f1.f1.length ≤ c2 ∧ k83.C w A2 x.f1.f1.length x.f1.f1 ∧ x.f3.length ≤ c4 ∧ Kd.string.C w A4 x.f3.length x.f3 ∧ x.f5.length ≤ c6 ∧ (Kd.int .u8).C w A6 x.f5.length x.f5 ∧ x.f9.length ≤ c10 ∧ (Kd.int .u8).C w A10 x.f9.length x.f9 :=by
 obtain ⟨_,_,rfl,rfl,⟨_,_,rfl,s1,⟨_,_,rfl,rfl,⟨_,_,rfl,⟨A4,c4,rfl,l4,g4⟩,⟨_,_,rfl,rfl,⟨_,_,rfl,⟨A6,c6,rfl,l6,g6⟩,⟨_,_,rfl,rfl,⟨_,_,rfl,rfl,⟨_,_,rfl,rfl,⟨A10,c10,rfl,l10,g10⟩⟩⟩⟩⟩⟩⟩⟩⟩⟩ :=h
 obtain ⟨A2,c2,rfl,l2,g2⟩ :=k43_open s1
 exact ⟨A2,c2,A4,c4,A6,c6,A10,c10,rfl,l2,g2,l4,g4,l6,g6,l10,g10⟩
theorem k46_openM {w : World} {base : Nat} {ok : Nat → Prop} {x : S46} {cs : List Value} (h : k46.M w base ok x cs) : ∃ v2 v4 v6 v10,cs = [.int .i64 x.f0,.string x.f1.f0,v2,.string x.f2,v4,.int .i64 x.f4,v6,.int .i64 x.f6,.int .i64 x.f7,.bool x.f8,v10] ∧ k83.R 83 w base ok v2 x.f1.f1 ∧ Kd.string.R 9 w base ok v4 x.f3 ∧ (Kd.int .u8).R 5 w base ok v6 x.f5 ∧ (Kd.int .u8).R 5 w base ok v10 x.f9 :=by
 obtain ⟨_,_,rfl,rfl,⟨_,_,rfl,s1,⟨_,_,rfl,rfl,⟨_,_,rfl,⟨v4,rfl,g4⟩,⟨_,_,rfl,rfl,⟨_,_,rfl,⟨v6,rfl,g6⟩,⟨_,_,rfl,rfl,⟨_,_,rfl,rfl,⟨_,_,rfl,rfl,⟨v10,rfl,g10⟩⟩⟩⟩⟩⟩⟩⟩⟩⟩ :=h
 obtain ⟨v2,rfl,g2⟩ :=k43_openM s1
 exact ⟨v2,v4,v6,v10,rfl,g2,g4,g6,g10⟩
theorem k46_mkM (w : World) (base : Nat) (ok : Nat → Prop) (x : S46) {v2 : Value} (g2 : k83.R 83 w base ok v2 x.f1.f1) {v4 : Value} (g4 : Kd.string.R 9 w base ok v4 x.f3) {v6 : Value} (g6 : (Kd.int .u8).R 5 w base ok v6 x.f5) {v10 : Value} (g10 : (Kd.int .u8).R 5 w base ok v10 x.f9) : k46.M w base ok x [.int .i64 x.f0,.string x.f1.f0,v2,.string x.f2,v4,.int .i64 x.f4,v6,.int .i64 x.f6,.int .i64 x.f7,.bool x.f8,v10] :=⟨[.int .i64 x.f0],[.string x.f1.f0,v2,.string x.f2,v4,.int .i64 x.f4,v6,.int .i64 x.f6,.int .i64 x.f7,.bool x.f8,v10],rfl,rfl,⟨[.string x.f1.f0,v2],[.string x.f2,v4,.int .i64 x.f4,v6,.int .i64 x.f6,.int .i64 x.f7,.bool x.f8,v10],rfl,(k43_mkM w base ok x.f1 g2),⟨[.string x.f2],[v4,.int .i64 x.f4,v6,.int .i64 x.f6,.int .i64 x.f7,.bool x.f8,v10],rfl,rfl,⟨[v4],[.int .i64 x.f4,v6,.int .i64 x.f6,.int .i64 x.f7,.bool x.f8,v10],rfl,⟨v4,rfl,g4⟩,⟨[.int .i64 x.f4],[v6,.int .i64 x.f6,.int .i64 x.f7,.bool x.f8,v10],rfl,rfl,⟨[v6],[.int .i64 x.f6,.int .i64 x.f7,.bool x.f8,v10],rfl,⟨v6,rfl,g6⟩,⟨[.int .i64 x.f6],[.int .i64 x.f7,.bool x.f8,v10],rfl,rfl,⟨[.int .i64 x.f7],[.bool x.f8,v10],rfl,rfl,⟨[.bool x.f8],[v10],rfl,rfl,⟨v10,rfl,g10⟩⟩⟩⟩⟩⟩⟩⟩⟩⟩
structure S48 where
 f0 : Int
 f1 : S46
 f2 : Int
 f3 : (List Int)
def z48 : S48 :=⟨(0 : Int),z46,(0 : Int),([] : List Int)⟩
def k48 : Kd S48 :=Kd.iso (Kd.pair (Kd.int .i64) (Kd.pair k46 (Kd.pair (Kd.int .i64) (Kd.slice 5 (Kd.int .u8))))) (fun x : S48 => (x.f0,x.f1,x.f2,x.f3))
theorem k48_open {w : World} {x : S48} {cs : List Value} (h : k48.K w x cs) : ∃ A3 c3 A5 c5 A7 c7 A11 c11 A13 c13,cs = [.int .i64 x.f0,.int .i64 x.f1.f0,.string x.f1.f1.f0,.slice A3 x.f1.f1.f1.length c3,.string x.f1.f2,.slice A5 x.f1.f3.length c5,.int .i64 x.f1.f4,.slice A7 x.f1.f5.length c7,.int .i64 x.f1.f6,.int .i64 x.f1.f7,.bool x.f1.f8,.slice A11 x.f1.f9.length c11,.int .i64 x.f2,.slice A13 x.f3.length c13] ∧ x.f1.f1.f1.length ≤ c3 ∧ k83.C w A3 x.f1.f1.f1.length x.f1.f1.f1 ∧ x.f1.f3.length ≤ c5 ∧ Kd.string.C w A5 x.f1.f3.length x.f1.f3 ∧ x.f1.f5.length ≤ c7 ∧ (Kd.int .u8).C w A7 x.f1.f5.length x.f1.f5 ∧ x.f1.f9.length ≤ c11 ∧ (Kd.int .u8).C w A11 x.f1.f9.length x.f1.f9 ∧ x.f3.length ≤ c13 ∧ (Kd.int .u8).C w A13 x.f3.length x.f3 :=by
 obtain ⟨_,_,rfl,rfl,⟨_,_,rfl,s1,⟨_,_,rfl,rfl,⟨A13,c13,rfl,l13,g13⟩⟩⟩⟩ :=h
 obtain ⟨A3,c3,A5,c5,A7,c7,A11,c11,rfl,l3,g3,l5,g5,l7,g7,l11,g11⟩ :=k46_open s1
 exact ⟨A3,c3,A5,c5,A7,c7,A11,c11,A13,c13,rfl,l3,g3,l5,g5,l7,g7,l11,g11,l13,g13⟩
theorem k48_mkM (w : World) (base : Nat) (ok : Nat → Prop) (x : S48) {v3 : Value} (g3 : k83.R 83 w base ok v3 x.f1.f1.f1) {v5 : Value} (g5 : Kd.string.R 9 w base ok v5 x.f1.f3) {v7 : Value} (g7 : (Kd.int .u8).R 5 w base ok v7 x.f1.f5) {v11 : Value} (g11 : (Kd.int .u8).R 5 w base ok v11 x.f1.f9) {v13 : Value} (g13 : (Kd.int .u8).R 5 w base ok v13 x.f3) : k48.M w base ok x [.int .i64 x.f0,.int .i64 x.f1.f0,.string x.f1.f1.f0,v3,.string x.f1.f2,v5,.int .i64 x.f1.f4,v7,.int .i64 x.f1.f6,.int .i64 x.f1.f7,.bool x.f1.f8,v11,.int .i64 x.f2,v13] :=⟨[.int .i64 x.f0],[.int .i64 x.f1.f0,.string x.f1.f1.f0,v3,.string x.f1.f2,v5,.int .i64 x.f1.f4,v7,.int .i64 x.f1.f6,.int .i64 x.f1.f7,.bool x.f1.f8,v11,.int .i64 x.f2,v13],rfl,rfl,⟨[.int .i64 x.f1.f0,.string x.f1.f1.f0,v3,.string x.f1.f2,v5,.int .i64 x.f1.f4,v7,.int .i64 x.f1.f6,.int .i64 x.f1.f7,.bool x.f1.f8,v11],[.int .i64 x.f2,v13],rfl,(k46_mkM w base ok x.f1 g3 g5 g7 g11),⟨[.int .i64 x.f2],[v13],rfl,rfl,⟨v13,rfl,g13⟩⟩⟩⟩
def rd_T48 (xs : List S48) (i : Int) : S48 :=xs.getD i.toNat z48
theorem at_T48 {w : World} {A : Option Addr} {n : Nat} {xs : List S48} (h : Kd.C k48 w A n xs) (i : Int) (h0 : 0 ≤ i) (h1 : i < n) : ∃ ad A3 c3 A5 c5 A7 c7 A11 c11 A13 c13,A = some ad ∧ w.cell? (ad.add (i.toNat * 14)) = some (.int .i64 (rd_T48 xs i).f0) ∧ w.cell? ⟨(ad.add (i.toNat * 14)).block,(ad.add (i.toNat * 14)).off + 1,none⟩ = some (.int .i64 (rd_T48 xs i).f1.f0) ∧ w.cell? ⟨(ad.add (i.toNat * 14)).block,(ad.add (i.toNat * 14)).off + 2,none⟩ = some (.string (rd_T48 xs i).f1.f1.f0) ∧ w.cell? ⟨(ad.add (i.toNat * 14)).block,(ad.add (i.toNat * 14)).off + 3,none⟩ = some (.slice A3 (rd_T48 xs i).f1.f1.f1.length c3) ∧ w.cell? ⟨(ad.add (i.toNat * 14)).block,(ad.add (i.toNat * 14)).off + 4,none⟩ = some (.string (rd_T48 xs i).f1.f2) ∧ w.cell? ⟨(ad.add (i.toNat * 14)).block,(ad.add (i.toNat * 14)).off + 5,none⟩ = some (.slice A5 (rd_T48 xs i).f1.f3.length c5) ∧ w.cell? ⟨(ad.add (i.toNat * 14)).block,(ad.add (i.toNat * 14)).off + 6,none⟩ = some (.int .i64 (rd_T48 xs i).f1.f4) ∧ w.cell? ⟨(ad.add (i.toNat * 14)).block,(ad.add (i.toNat * 14)).off + 7,none⟩ = some (.slice A7 (rd_T48 xs i).f1.f5.length c7) ∧ w.cell? ⟨(ad.add (i.toNat * 14)).block,(ad.add (i.toNat * 14)).off + 8,none⟩ = some (.int .i64 (rd_T48 xs i).f1.f6) ∧ w.cell? ⟨(ad.add (i.toNat * 14)).block,(ad.add (i.toNat * 14)).off + 9,none⟩ = some (.int .i64 (rd_T48 xs i).f1.f7) ∧ w.cell? ⟨(ad.add (i.toNat * 14)).block,(ad.add (i.toNat * 14)).off + 10,none⟩ = some (.bool (rd_T48 xs i).f1.f8) ∧ w.cell? ⟨(ad.add (i.toNat * 14)).block,(ad.add (i.toNat * 14)).off + 11,none⟩ = some (.slice A11 (rd_T48 xs i).f1.f9.length c11) ∧ w.cell? ⟨(ad.add (i.toNat * 14)).block,(ad.add (i.toNat * 14)).off + 12,none⟩ = some (.int .i64 (rd_T48 xs i).f2) ∧ w.cell? ⟨(ad.add (i.toNat * 14)).block,(ad.add (i.toNat * 14)).off + 13,none⟩ = some (.slice A13 (rd_T48 xs i).f3.length c13) ∧ (rd_T48 xs i).f1.f1.f1.length ≤ c3 ∧ k83.C w A3 (rd_T48 xs i).f1.f1.f1.length (rd_T48 xs i).f1.f1.f1 ∧ (rd_T48 xs i).f1.f3.length ≤ c5 ∧ Kd.string.C w A5 (rd_T48 xs i).f1.f3.length (rd_T48 xs i).f1.f3 ∧ (rd_T48 xs i).f1.f5.length ≤ c7 ∧ (Kd.int .u8).C w A7 (rd_T48 xs i).f1.f5.length (rd_T48 xs i).f1.f5 ∧ (rd_T48 xs i).f1.f9.length ≤ c11 ∧ (Kd.int .u8).C w A11 (rd_T48 xs i).f1.f9.length (rd_T48 xs i).f1.f9 ∧ (rd_T48 xs i).f3.length ≤ c13 ∧ (Kd.int .u8).C w A13 (rd_T48 xs i).f3.length (rd_T48 xs i).f3 :=by
 obtain ⟨ad,c,e,_,hK,hc0⟩ :=Kd.C_get h z48 i h0 h1
 have hc : ∀ j u,c[j]? = some u → w.cell? (ad.add (i.toNat * 14 + j)) = some u :=hc0
 obtain ⟨A3,c3,A5,c5,A7,c7,A11,c11,A13,c13,rfl,l3,g3,l5,g5,l7,g7,l11,g11,l13,g13⟩ :=k48_open hK
 exact ⟨ad,A3,c3,A5,c5,A7,c7,A11,c11,A13,c13,e,hc 0 _ rfl,by rw [← add_field _ _ 1 (by omega)];exact hc 1 _ rfl,by rw [← add_field _ _ 2 (by omega)];exact hc 2 _ rfl,by rw [← add_field _ _ 3 (by omega)];exact hc 3 _ rfl,by rw [← add_field _ _ 4 (by omega)];exact hc 4 _ rfl,by rw [← add_field _ _ 5 (by omega)];exact hc 5 _ rfl,by rw [← add_field _ _ 6 (by omega)];exact hc 6 _ rfl,by rw [← add_field _ _ 7 (by omega)];exact hc 7 _ rfl,by rw [← add_field _ _ 8 (by omega)];exact hc 8 _ rfl,by rw [← add_field _ _ 9 (by omega)];exact hc 9 _ rfl,by rw [← add_field _ _ 10 (by omega)];exact hc 10 _ rfl,by rw [← add_field _ _ 11 (by omega)];exact hc 11 _ rfl,by rw [← add_field _ _ 12 (by omega)];exact hc 12 _ rfl,by rw [← add_field _ _ 13 (by omega)];exact hc 13 _ rfl,l3,g3,l5,g5,l7,g7,l11,g11,l13,g13⟩
end Go.Proofs.YtlafgnanfkhobaaGreatDoor.P2
