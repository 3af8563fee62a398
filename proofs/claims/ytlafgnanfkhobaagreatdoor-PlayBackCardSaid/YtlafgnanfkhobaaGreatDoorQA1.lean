import Derived.Test.YtlafgnanfkhobaaGreatDoorQC
import Derived.Test.YtlafgnanfkhobaaGreatDoorQV
import Derived.LoopTactic
import Derived.LoopN
set_option linter.all false
namespace Go.Proofs.YtlafgnanfkhobaaGreatDoor.P2
open Go.RowKit Go.Proofs.YtlafgnanfkhobaaGreatDoorW.PrintWords Go.Proofs.YtlafgnanfkhobaaGreatDoorW.PrintLast Go.Proofs.YtlafgnanfkhobaaGreatDoorW.PrintMore
attribute [local go_sem] max2_int min2_int max_two min_two max_three min_three max_four min_four
def askFr (g b4 : Nat) (vs : Nat → Value) : Act :=⟨#[.pointer (some ⟨g,0,none⟩),.slice none 0 0,undef,undef,.pointer (some ⟨b4,0,none⟩),vs 15,undef,vs 0,vs 1,vs 2,vs 3,vs 4,vs 5,vs 6,vs 7,vs 8,vs 9,vs 10,vs 11,vs 12,vs 13,vs 14,undef,undef,undef,undef,undef,undef,undef,undef,undef,undef,undef,undef,undef,undef,undef,undef,undef,undef,undef,undef,undef,undef,undef,undef,undef,undef,undef,undef,undef,undef,undef,undef,undef,undef,undef,undef,undef,undef,undef,undef,undef,undef,undef,undef,undef,undef,undef,undef,undef,undef,undef,undef,undef,undef,undef,undef,undef,undef,undef,undef,undef,undef,undef,undef,undef,undef,undef,undef,undef,undef,undef,undef,undef,undef,undef,undef,undef,undef,undef,undef,undef,undef,undef,undef,undef,undef,undef,undef,undef,undef,undef,undef,undef,undef,undef,undef,undef,undef,undef,undef,undef,undef,undef,undef,undef,undef,undef,undef,undef,undef,undef,undef,undef,undef,undef],[]⟩
def askZ : Array Value :=#[.int .i64 0,.string ⟨#[]⟩,.slice none 0 0,.string ⟨#[]⟩,.slice none 0 0,.int .i64 0,.slice none 0 0,.int .i64 0,.int .i64 0,.bool false,.slice none 0 0]
def ask0 (s : ByteArray) (x y z : Int) (c : Bool) : Array Value :=#[.int .i64 0,.string ⟨#[]⟩,.slice none 0 0,.string s,.slice none 0 0,.int .i64 x,.slice none 0 0,.int .i64 y,.int .i64 z,.bool c,.slice none 0 0]
def askB (s : ByteArray) (x y z : Int) : Prop :=s.size ≤ 16 ∧ 0 ≤ x ∧ x ≤ 100 ∧ 0 ≤ y ∧ y ≤ 4 ∧ 0 ≤ z ∧ z ≤ 50
def tab90 : Array Value :=#[.int .i64 50,.int .i64 5,.int .i64 3,.int .i64 1,.int .i64 2,.int .i64 0]
def askTab (B : Nat) (t : Nat) (w : World) : Prop :=B ≤ t ∧ w.heap[t]? = some (.cells tab90 3 (0,0))
def numB (v : Value) (lo hi : Int) : Prop :=∃ x : Int,v = .int .i64 x ∧ lo ≤ x ∧ x ≤ hi
def askF (g B b4 : Nat) : Nat → Value → World → Prop
 | 0,v,_ | 2,v,_ | 4,v,_ | 7,v,_ | 11,v,_ => v = .pointer (some ⟨g,0,none⟩)
 | 1,v,_ => ∃ s,v = .string s ∧ s.size ≤ 16
 | 3,v,_ => numB v 0 100
 | 5,v,_ => numB v 0 4
 | 6,v,w => ∃ t,v = .slice (some ⟨t,0,none⟩) 6 6 ∧ askTab B t w
 | 8,v,_ => numB v 0 5
 | 9,v,w => ∃ t x,v = .pointer (some ⟨t,x,none⟩) ∧ x < 6 ∧ askTab B t w
 | 10,v,_ => numB v 0 50
 | 12,v,_ => numB v 0 2
 | 13,v,_ => ∃ c,v = .bool c
 | 14,v,_ => ∃ s x y z c,v = .agg (ask0 s x y z c) ∧ askB s x y z
 | 15,v,w => ∃ b,v = .pointer (some ⟨b,0,none⟩) ∧ B ≤ b ∧ b ≠ b4 ∧ w.heap[b]? = some (.cells #[.int .i64 0,.string ⟨#[]⟩,.slice none 0 0,.string ⟨#[]⟩,.slice none 0 0,.int .i64 0,.slice none 0 0,.int .i64 0,.int .i64 0,.bool false,.slice none 0 0] 46 (0,0))
 | _,_,_ => True
def askEnd (B b4 : Nat) (v : Value) (w : World) : Prop :=∃ b s x y z c,v = .pointer (some ⟨b,0,none⟩) ∧ B ≤ b ∧ b ≠ b4 ∧ w.heap[b]? = some (.cells (ask0 s x y z c) 46 (0,0)) ∧ askB s x y z
theorem askF_keep {g B b4 : Nat} {w w' : World} (h : ∀ b o,B ≤ b → w.heap[b]? = some o → w'.heap[b]? = some o) (k : Nat) (u : Value) : askF g B b4 k u w → askF g B b4 k u w' :=by
 unfold askF
 split
 all_goals first
  | exact id
  | (rintro ⟨t,h1,h2,h3⟩;exact ⟨t,h1,h2,h _ _ h2 h3⟩)
  | (rintro ⟨t,h1,h2,h3,h4⟩;exact ⟨t,h1,h2,h3,h _ _ h2 h4⟩)
  | (rintro ⟨t,x,h1,h2,h3,h4⟩;exact ⟨t,x,h1,h2,h3,h _ _ h3 h4⟩)
def AskI (w0 w : World) (g b4 : Nat) (l : Array Bool) (a : Act) (wc : World) : Prop :=
 l.size = 17 ∧ ∃ vs,a = askFr g b4 vs ∧ PkTo w0 w wc g ∧ wc.heap[b4]? = some (.cells askZ 46 (0,0)) ∧ ((¬ Done l 16 ∧ ∀ k,Done l k → askF g w.heap.size b4 k (vs k) wc) ∨ ((∀ k,k < 17 → Done l k) ∧ askEnd w.heap.size b4 (vs 15) wc))
theorem AskI.next {w0 w W W' : World} {g b4 : Nat} {l : Array Bool} {vs : Nat → Value} {i : Nat} {v : Value} {a' : Act} (ha : a' = askFr g b4 (upd vs i v)) (hsz : l.size = 17) (hn : ¬ Done l 16) (hi : 16 ≠ i) (hF : ∀ k,Done l k → askF g w.heap.size b4 k (vs k) W) (F : PkTo w0 w W' g) (h4 : w.heap.size ≤ b4)
  (K : W.heap[b4]? = some (.cells askZ 46 (0,0))) (hk : ∀ b o,w.heap.size ≤ b → W.heap[b]? = some o → W'.heap[b]? = some o) (hv : askF g w.heap.size b4 i v W') : AskI w0 w g b4 (l.setIfInBounds i true) a' W' :=by
 exact ⟨by simpa using hsz,_,ha,F,hk _ _ h4 K,.inl ⟨fun h => h.set.elim hi hn,facts_set hF (askF_keep hk) hv⟩⟩
def askD : List (List Nat) :=[[],[0],[],[2,1],[],[4,3],[],[],[7,5],[6,8],[9],[],[11,8],[12],[1,3,5,10,13],[],[15,14,12,0,1,2,3,4,5,6,7,8,9,10,11,12,13,14,15]]
theorem tab90_at {w : World} {t x : Nat} (K : w.heap[t]? = some (.cells tab90 3 (0,0))) (hx : x < 6) : ∃ y : Int,w.cell? ⟨t,x,none⟩ = some (.int .i64 y) ∧ 0 ≤ y ∧ y ≤ 50 :=by
 have h :=bkc K x
 obtain rfl | rfl | rfl | rfl | rfl | rfl : x = 0 ∨ x = 1 ∨ x = 2 ∨ x = 3 ∨ x = 4 ∨ x = 5 :=by omega
 all_goals exact ⟨_,h.trans rfl,by decide,by decide⟩
structure GReq (q : S46) : Prop where
 f0 : 0 ≤ q.f0 ∧ q.f0 ≤ 20
 id : q.f1.f0.size ≤ 16
 parts : q.f1.f1.length ≤ 3
 part : ∀ p ∈ q.f1.f1,GPart p
 f2 : q.f2.size ≤ 16
 f3 : q.f3.length ≤ 3
 f3s : ∀ s ∈ q.f3,s.size ≤ 16
 f4 : 0 ≤ q.f4 ∧ q.f4 ≤ 100
 f5 : (∀ x ∈ q.f5,0 ≤ x ∧ x ≤ 255) ∧ q.f5.length ≤ 100
 f6 : 0 ≤ q.f6 ∧ q.f6 ≤ 4
 f7 : 0 ≤ q.f7 ∧ q.f7 ≤ 50
 f9 : q.f9 = []
def askR (w0 w : World) (g b b4 : Nat) (wc : World) : Prop :=
 (∃ cs q,wc.heap[b]? = some (.cells cs.toArray 46 (0,0)) ∧ k46.M wc w.heap.size (fun _ => True) q cs ∧ GReq q) ∧ PkTo w0 w wc g ∧ wc.heap[b4]? = some (.cells askZ 46 (0,0))
theorem nil83 (w : World) (B : Nat) : Kd.R k83 83 w B (fun _ => True) (.slice none 0 0) [] :=Kd.R_nil _ _ _ _ _
theorem nil9 (w : World) (B : Nat) : Kd.R Kd.string 9 w B (fun _ => True) (.slice none 0 0) [] :=Kd.R_nil _ _ _ _ _
theorem nil5 (w : World) (B : Nat) : Kd.R (Kd.int .u8) 5 w B (fun _ => True) (.slice none 0 0) [] :=Kd.R_nil _ _ _ _ _
theorem askR.fin {w0 w wn W : World} {g b b4 : Nat} {c0 : Array Value} {v2 v4 v6 : Value} {k : Int} {id : ByteArray} {ps : List S83} {nm : ByteArray} {ns : List ByteArray} {x : Int} {ys : List Int} {y z : Int} {c : Bool} (K : wn.heap[b]? = some (.cells c0 46 (0,0))) (G : wn.grownBy W (some b)) (F : PkTo w0 w wn g) (hgl : g < w.heap.size) (hb : w.heap.size ≤ b) (hne : b ≠ b4) (K4 : wn.heap[b4]? = some (.cells askZ 46 (0,0)))
  (K' : W.heap[b]? = some (.cells #[.int .i64 k,.string id,v2,.string nm,v4,.int .i64 x,v6,.int .i64 y,.int .i64 z,.bool c,.slice none 0 0] 46 (0,0)))
  (r2 : k83.R 83 wn w.heap.size (fun _ => True) v2 ps) (r4 : Kd.string.R 9 wn w.heap.size (fun _ => True) v4 ns) (r6 : (Kd.int .u8).R 5 wn w.heap.size (fun _ => True) v6 ys) (h : GReq ⟨k,⟨id,ps⟩,nm,ns,x,ys,y,z,c,[]⟩) : askR w0 w g b b4 W :=
 ⟨⟨_,_,K',k46_mkM _ _ _ ⟨k,⟨id,ps⟩,nm,ns,x,ys,y,z,c,[]⟩ (row_grown r2 K (by decide) G) (row_grown r4 K (by decide) G) (row_grown r6 K (by decide) G) (Kd.R_nil _ _ _ _ _),h⟩,F.grown hgl G (fun k e => by injection e with e;omega),(G.block b4 (blk_lt K4) (by simpa using Ne.symm hne)).trans K4⟩
theorem askR.two {w0 w W : World} {g b b4 : Nat} {cs' : Array Value} (K' : W.heap[b]? = some (.cells cs' 46 (0,0))) (h : W.heap[b]? = some (.cells cs' 46 (0,0)) → askR w0 w g b b4 W) : askR w0 w g b b4 W :=h K'
theorem tab_two {W : World} {t e : Nat} (K : W.heap[t]? = some (.cells #[.string ⟨#[]⟩,.string ⟨#[109,97,100,101]⟩] e (0,0))) {r : Int} (h0 : 0 ≤ r) (h1 : r < 2) : ∃ s : ByteArray,s.size ≤ 16 ∧ W.cell? ⟨t,r.toNat,none⟩ = some (.string s) :=by
 obtain ⟨u,hu,hc⟩ :=tab_at K h0 h1
 simp only [List.mem_cons,List.not_mem_nil,or_false] at hu
 rcases hu with rfl | rfl
 all_goals exact ⟨_,by decide,hc⟩
theorem blk_set11 {W : World} {b t : Nat} {c0 c1 c2 c3 c4 c5 c6 c7 c8 c9 c10 v0 v1 v2 v3 v4 v5 v6 v7 v8 v9 v10 : Value} (K : W.heap[b]? = some (.cells #[c0,c1,c2,c3,c4,c5,c6,c7,c8,c9,c10] t (0,0))) : (((((((((((W.setCell ⟨b,0,none⟩ v0).setCell ⟨b,1,none⟩ v1).setCell ⟨b,2,none⟩ v2).setCell ⟨b,3,none⟩ v3).setCell ⟨b,4,none⟩ v4).setCell ⟨b,5,none⟩ v5).setCell ⟨b,6,none⟩ v6).setCell ⟨b,7,none⟩ v7).setCell ⟨b,8,none⟩ v8).setCell ⟨b,9,none⟩ v9).setCell ⟨b,10,none⟩ v10).heap[b]? = some (.cells #[v0,v1,v2,v3,v4,v5,v6,v7,v8,v9,v10] t (0,0)) :=by
 have h :=(blk_set (blk_set (blk_set (blk_set (blk_set (blk_set (blk_set (blk_set (blk_set (blk_set (blk_set K 0 v0) 1 v1) 2 v2) 3 v3) 4 v4) 5 v5) 6 v6) 7 v7) 8 v8) 9 v9) 10 v10)
 simpa only [List.setIfInBounds_toArray,List.set_cons_zero,List.set_cons_succ] using h
end Go.Proofs.YtlafgnanfkhobaaGreatDoor.P2
