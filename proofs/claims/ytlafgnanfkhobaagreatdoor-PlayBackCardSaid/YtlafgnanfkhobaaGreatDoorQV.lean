import Derived.Test.YtlafgnanfkhobaaGreatDoorQW
import Derived.LoopTactic
import Derived.LoopN
namespace Go.Proofs.YtlafgnanfkhobaaGreatDoor.P2
open Go.RowKit Go.Proofs.YtlafgnanfkhobaaGreatDoorW.PrintWords Go.Proofs.YtlafgnanfkhobaaGreatDoorW.PrintLast Go.Proofs.YtlafgnanfkhobaaGreatDoorW.PrintMore
attribute [local go_sem] max2_int min2_int max_two min_two max_three min_three max_four min_four
def encEv (e : S85) : List Int :=txt (bytesOf e.f0) ++ txt e.f1
def encPart (p : S83) : List Int :=txt (bytesOf p.f0) ++ (be (IntKind.u64.wrap p.f1) 8 ++ (be (p.f2.length : Int) 1 ++ p.f2.flatMap encEv))
def encReq (q : S46) : List Int :=be (IntKind.u64.wrap q.f0) 1 ++ (txt (bytesOf q.f1.f0) ++ (be (q.f1.f1.length : Int) 1 ++ (q.f1.f1.flatMap encPart ++ (txt (bytesOf q.f2) ++ (be (q.f3.length : Int) 1 ++ (q.f3.flatMap (fun s => txt (bytesOf s)) ++
 (be (IntKind.u64.wrap q.f4) 8 ++ (txt q.f5 ++ (be (IntKind.u64.wrap q.f6) 2 ++ (be (IntKind.u64.wrap q.f7) 2 ++ (be (if q.f8 then 1 else 0) 1 ++ txt q.f9)))))))))))
def okEv (e : S85) : Prop :=e.f0.size ≤ 255 ∧ e.f1.length ≤ 255
def okPart (p : S83) : Prop :=p.f0.size ≤ 255 ∧ p.f2.length ≤ 6 ∧ ∀ e ∈ p.f2,okEv e
def okReq (q : S46) : Prop :=q.f1.f0.size ≤ 255 ∧ q.f1.f1.length ≤ 5 ∧ (∀ p ∈ q.f1.f1,okPart p) ∧ q.f2.size ≤ 255 ∧ q.f3.length ≤ 9 ∧ (∀ s ∈ q.f3,s.size ≤ 255) ∧ q.f5.length ≤ 255 ∧ q.f9.length ≤ 255
def LenOk (j : Nat) (bs : List Int) : Prop :=bs.length ≤ 100000000 + 300 * j
theorem LenOk.num {j : Nat} {bs : List Int} (h : LenOk j bs) (x : Int) {n : Nat} (hn : n ≤ 8) : LenOk (j + 1) (bs ++ be x n) :=by
 unfold LenOk at *
 rw [List.length_append,be_length]
 omega
theorem LenOk.txt {j : Nat} {bs xs : List Int} (h : LenOk j bs) (hn : xs.length ≤ 255) : LenOk (j + 1) (bs ++ txt xs) :=by
 unfold LenOk at *
 rw [List.length_append,P2.txt,List.length_cons]
 omega
theorem LenOk.le {j : Nat} {bs : List Int} (h : LenOk j bs) (hj : j ≤ 1000000) : bs.length ≤ 900000000 :=by
 unfold LenOk at h
 omega
theorem u64_rng (x : Int) : 0 ≤ IntKind.u64.wrap x ∧ IntKind.u64.wrap x < 18446744073709551616 :=by
 have : IntKind.u64.wrap x = x % 18446744073709551616 :=rfl
 omega
def St (w0 w : World) (g : Nat) (v : Value) (bs : List Int) (j : Nat) : Prop :=IsW w0 w g v bs ∧ Below w0.heap.size w0 w ∧ LenOk j bs
theorem St.below {w0 w w1 : World} {g j : Nat} {v : Value} {bs : List Int} (h : St w0 w g v bs j) (hb : Below w.heap.size w w1) : St w0 w1 g v bs j :=⟨h.1.below hb,below_step h.2.1 hb,h.2.2⟩
section
variable {g j : Nat} {v : Value} {bs : List Int} {w0 w : World}
theorem snum1 {x : Int} (h : St w0 w g v bs j) (hx : 0 ≤ x ∧ x < 18446744073709551616) (hj : j ≤ 1000000) :
  Calls Tryz.prog 16 #[.pointer (some ⟨g,0,none⟩),.int .u64 x,.int .i64 1] w fun e w' => e = .returned (.tuple #[]) ∧ ∃ v',St w0 w' g v' (bs ++ be x 1) (j + 1) ∧ WKeep w0 w w' g v v' :=by
 refine (wnum1 x h.1 h.2.1 hx (h.2.2.le hj)).mono ?_
 rintro e w' ⟨rfl,v',h1,h2⟩
 exact ⟨rfl,v',⟨h1,h2.1,h.2.2.num x (by omega)⟩,h2⟩
theorem snum2 {x : Int} (h : St w0 w g v bs j) (hx : 0 ≤ x ∧ x < 18446744073709551616) (hj : j ≤ 1000000) :
  Calls Tryz.prog 16 #[.pointer (some ⟨g,0,none⟩),.int .u64 x,.int .i64 2] w fun e w' => e = .returned (.tuple #[]) ∧ ∃ v',St w0 w' g v' (bs ++ be x 2) (j + 1) ∧ WKeep w0 w w' g v v' :=by
 refine (wnum2 x h.1 h.2.1 hx (h.2.2.le hj)).mono ?_
 rintro e w' ⟨rfl,v',h1,h2⟩
 exact ⟨rfl,v',⟨h1,h2.1,h.2.2.num x (by omega)⟩,h2⟩
theorem snum8 {x : Int} (h : St w0 w g v bs j) (hx : 0 ≤ x ∧ x < 18446744073709551616) (hj : j ≤ 1000000) :
  Calls Tryz.prog 16 #[.pointer (some ⟨g,0,none⟩),.int .u64 x,.int .i64 8] w fun e w' => e = .returned (.tuple #[]) ∧ ∃ v',St w0 w' g v' (bs ++ be x 8) (j + 1) ∧ WKeep w0 w w' g v v' :=by
 refine (wnum8 x h.1 h.2.1 hx (h.2.2.le hj)).mono ?_
 rintro e w' ⟨rfl,v',h1,h2⟩
 exact ⟨rfl,v',⟨h1,h2.1,h.2.2.num x (by omega)⟩,h2⟩
theorem stextC {A : Option Addr} {c : Nat} {xs : List Int} (h : St w0 w g v bs j) (hs : Kd.C (Kd.int .u8) w0 A xs.length xs) (hn : xs.length ≤ 255) (hj : j ≤ 1000000) :
  Calls Tryz.prog 18 #[.pointer (some ⟨g,0,none⟩),.slice A xs.length c] w fun e w' => e = .returned (.tuple #[]) ∧ ∃ v',St w0 w' g v' (bs ++ txt xs) (j + 1) ∧ WKeep w0 w w' g v v' :=by
 refine (wtextC A c xs h.1 h.2.1 hs hn (h.2.2.le hj)).mono ?_
 rintro e w' ⟨rfl,v',h1,h2⟩
 exact ⟨rfl,v',⟨h1,h2.1,h.2.2.txt hn⟩,h2⟩
theorem stextS {s : ByteArray} {c : Nat} (h : St w0 w g v bs j) (hn : s.size ≤ 255) (hj : j ≤ 1000000) :
  Calls Tryz.prog 18 #[.pointer (some ⟨g,0,none⟩),.slice (some ⟨w.heap.size,0,none⟩) s.size c] (Lib.bytesWorld w 5 s) fun e w' => e = .returned (.tuple #[]) ∧ ∃ v',St w0 w' g v' (bs ++ txt (bytesOf s)) (j + 1) ∧ WKeep w0 w w' g v v' :=by
 refine (wtextS s c h.1 h.2.1 hn (h.2.2.le hj)).mono ?_
 rintro e w' ⟨rfl,v',h1,h2⟩
 exact ⟨rfl,v',⟨h1,h2.1,h.2.2.txt (by rw [bytesOf_length];exact hn)⟩,h2⟩
end
theorem blk_set3 {w : World} {p : Nat} {x0 x1 x2 : Value} {t : TypeId} (h : w.heap[p]? = some (.cells #[x0,x1,x2] t (0,0))) (a0 a1 a2 : Value) : (((w.setCell ⟨p,0,none⟩ a0).setCell ⟨p,1,none⟩ a1).setCell ⟨p,2,none⟩ a2).heap[p]? = some (.cells #[a0,a1,a2] t (0,0)) :=by
 have h1 : (w.setCell ⟨p,0,none⟩ a0).heap[p]? = some (.cells #[a0,x1,x2] t (0,0)) :=by simpa using blk_set h 0 a0
 have h2 : ((w.setCell ⟨p,0,none⟩ a0).setCell ⟨p,1,none⟩ a1).heap[p]? = some (.cells #[a0,a1,x2] t (0,0)) :=by simpa using blk_set h1 1 a1
 simpa using blk_set h2 2 a2
theorem blk_set2 {w : World} {p : Nat} {x0 x1 : Value} {t : TypeId} (h : w.heap[p]? = some (.cells #[x0,x1] t (0,0))) (a0 a1 : Value) : ((w.setCell ⟨p,0,none⟩ a0).setCell ⟨p,1,none⟩ a1).heap[p]? = some (.cells #[a0,a1] t (0,0)) :=by
 have h1 : (w.setCell ⟨p,0,none⟩ a0).heap[p]? = some (.cells #[a0,x1] t (0,0)) :=by simpa using blk_set h 0 a0
 simpa using blk_set h1 1 a1
theorem takeFlat {α : Type} (f : α → List Int) (xs : List α) (k : Nat) (h : k < xs.length) : (xs.take (k + 1)).flatMap f = (xs.take k).flatMap f ++ f xs[k] :=by
 rw [List.take_succ_eq_append_getElem h,List.flatMap_append]
 simp
theorem St.mono {w0 w : World} {g j j' : Nat} {v : Value} {bs : List Int} (h : St w0 w g v bs j) (hj : j ≤ j') : St w0 w g v bs j' :=⟨h.1,h.2.1,by have :=h.2.2;unfold LenOk at *;omega⟩
theorem WKeep.below {w0 w w1 w2 : World} {g : Nat} {v v1 : Value} (h : WKeep w0 w w1 g v v1) (hb : Below w1.heap.size w1 w2) : WKeep w0 w w2 g v v1 :=⟨below_step h.1 hb,KB.trans h.2.1 (KB.of_below hb _ _) (.inl rfl),h.2.2⟩
theorem IsW.blk {w0 w w1 : World} {g : Nat} {v v1 : Value} {bs : List Int} (hI : IsW w0 w g v bs) (hK : WKeep w0 w w1 g v v1) {b : Nat} {cs : Array Value} {t : TypeId} (hb : w.heap[b]? = some (.cells cs t (0,0))) (hn : b ≠ g) (ht : 5 ≠ t) : w1.heap[b]? = some (.cells cs t (0,0)) :=
 (hK.2.1.2 b (blk_lt hb) hn (Kd.R_ne hI.2.2 hb ht)).trans hb
theorem cells11 {w : World} {b : Nat} {a0 a1 a2 a3 a4 a5 a6 a7 a8 a9 a10 : Value} {t : TypeId} (h : w.heap[b]? = some (.cells #[a0,a1,a2,a3,a4,a5,a6,a7,a8,a9,a10] t (0,0))) :
  w.cell? ⟨b,0,none⟩ = some a0 ∧ w.cell? ⟨b,1,none⟩ = some a1 ∧ w.cell? ⟨b,2,none⟩ = some a2 ∧ w.cell? ⟨b,3,none⟩ = some a3 ∧ w.cell? ⟨b,4,none⟩ = some a4 ∧ w.cell? ⟨b,5,none⟩ = some a5 ∧ w.cell? ⟨b,6,none⟩ = some a6 ∧ w.cell? ⟨b,7,none⟩ = some a7 ∧ w.cell? ⟨b,8,none⟩ = some a8 ∧ w.cell? ⟨b,9,none⟩ = some a9 ∧ w.cell? ⟨b,10,none⟩ = some a10 :=
 ⟨(bkc h 0).trans rfl,(bkc h 1).trans rfl,(bkc h 2).trans rfl,(bkc h 3).trans rfl,(bkc h 4).trans rfl,(bkc h 5).trans rfl,(bkc h 6).trans rfl,(bkc h 7).trans rfl,(bkc h 8).trans rfl,(bkc h 9).trans rfl,(bkc h 10).trans rfl⟩
set_option maxHeartbeats 2000000 in
set_option maxRecDepth 100000 in
theorem writer_request.calls (g : Nat) (v : Value) (bs : List Int) (q : S46) (A2 : Option Addr) (c2 : Nat) (A4 : Option Addr) (c4 : Nat) (A6 : Option Addr) (c6 : Nat) (A10 : Option Addr) (c10 : Nat) (w0 w : World) (hI : IsW w0 w g v bs) (HB : Below w0.heap.size w0 w)
  (h2 : k83.C w0 A2 q.f1.f1.length q.f1.f1) (h4 : Kd.string.C w0 A4 q.f3.length q.f3) (h6 : (Kd.int .u8).C w0 A6 q.f5.length q.f5) (h10 : (Kd.int .u8).C w0 A10 q.f9.length q.f9) (hok : okReq q) (hL : LenOk 0 bs) :
  Calls Tryz.prog 17 #[.pointer (some ⟨g,0,none⟩),.agg #[.int .i64 q.f0,.string q.f1.f0,.slice A2 q.f1.f1.length c2,.string q.f2,.slice A4 q.f3.length c4,.int .i64 q.f4,.slice A6 q.f5.length c6,.int .i64 q.f6,.int .i64 q.f7,.bool q.f8,.slice A10 q.f9.length c10]] w
   fun e w' => e = .returned (.tuple #[]) ∧ ∃ v',IsW w0 w' g v' (bs ++ encReq q) ∧ WKeep w0 w w' g v v' :=by
 obtain ⟨o1,o2,o3,o4,o5,o6,o7,o8⟩ :=hok
 have HK : WKeep w0 w w g v v :=⟨HB,KB.refl _ _ _,.inl rfl⟩
 replace hI : St w0 w g v bs 0 :=⟨hI,HB,hL⟩
 clear HB hL
 have kb :=print_bytes (P :=Tryz.prog) 9 22 5 Tryz.underlying9 Tryz.underlying22 Tryz.underlying5
 go_enter Tryz.func17,Tryz.ntmps17
 go_wp2_with (first | ((with_reducible refine gate_dst (N :=3) rfl ?_);go_loud (refine box_event ?hg (N :=3) ?hd (cs :=#[.int .i64 q.f0,.string q.f1.f0,.slice A2 q.f1.f1.length c2,.string q.f2,.slice A4 q.f3.length c4,.int .i64 q.f4,.slice A6 q.f5.length c6,.int .i64 q.f6,.int .i64 q.f7,.bool q.f8,.slice A10 q.f9.length c10]) (t :=46) ?hr ?_;(case hd => rfl);(case hg => rfl);(case hr => first | (go_simp;done) | (go_simp;rfl));intro b hgb w1 BK hb;have NB : b ≠ g :=(by rw [hgb];exact Nat.ne_of_gt (blk_lt hI.1.1));replace HK : WKeep w0 w w1 g v v :=⟨below_step hI.2.1 hb,KB.of_below hb _ _,.inl rfl⟩;replace hI :=hI.below hb;clear hb hgb;obtain ⟨k0,k1,k2,k3,k4,k5,k6,k7,k8,k9,k10⟩ :=cells11 BK)) | (go_at_call 16;((with_reducible refine (snum1 hI (by first | exact u64_rng _ | (constructor <;> omega)) (by omega)).mono ?_);rintro e wn ⟨rfl,vn,hS,hKn⟩;replace BK :=hI.1.blk hKn BK NB (by decide);replace HK :=HK.trans hKn;replace hI :=hS;clear hS hKn k0 k1 k2 k3 k4 k5 k6 k7 k8 k9 k10;obtain ⟨k0,k1,k2,k3,k4,k5,k6,k7,k8,k9,k10⟩ :=cells11 BK)) | (go_at_call 18;((with_reducible refine (stextS hI (by assumption) (by omega)).mono ?_);rintro e wn ⟨rfl,vn,hS,hKn⟩;replace BK :=hI.1.blk hKn BK NB (by decide);replace HK :=HK.trans hKn;replace hI :=hS;clear hS hKn k0 k1 k2 k3 k4 k5 k6 k7 k8 k9 k10;obtain ⟨k0,k1,k2,k3,k4,k5,k6,k7,k8,k9,k10⟩ :=cells11 BK)))
 obtain ⟨B1,hB1⟩ : ∃ B1,B1 = bs ++ be (IntKind.u64.wrap q.f0) 1 ++ txt (bytesOf q.f1.f0) ++ be (q.f1.f1.length : Int) 1 :=⟨_,rfl⟩
 rw [← hB1] at hI
 go_loopw [33] (fun i wr => ∃ (k : Nat) (v' : Value),k ≤ q.f1.f1.length ∧ i = .int .i64 k ∧ St w0 wr g v' (B1 ++ (q.f1.f1.take k).flatMap encPart) (3 + 40 * k) ∧ WKeep w0 w wr g v v' ∧ wr.heap[b]? = some (.cells #[.int .i64 q.f0,.string q.f1.f0,.slice A2 q.f1.f1.length c2,.string q.f2,.slice A4 q.f3.length c4,.int .i64 q.f4,.slice A6 q.f5.length c6,.int .i64 q.f6,.int .i64 q.f7,.bool q.f8,.slice A10 q.f9.length c10] 46 (0,0))) (fun i _ => q.f1.f1.length - (intOf i).toNat)
 case atStart => exact ⟨0,_,Nat.zero_le _,rfl,by simpa using hI,HK,BK⟩
 case round =>
  clear hI HK BK k0 k1 k2 k3 k4 k5 k6 k7 k8 k9 k10
  obtain ⟨k,v1,hk,rfl,hI,HK,BK⟩ :=hrel
  by_cases hkn : k < q.f1.f1.length
  ·obtain ⟨ad,A3,c3,eA,g0,g1,g2,hl2,hr2⟩ :=at_T83 h2 (k : Int) (by omega) (by omega)
   have hpk : rd_T83 q.f1.f1 k = q.f1.f1[k] :=by simp [rd_T83,hkn]
   obtain ⟨pp,hpp⟩ : ∃ pp,pp = q.f1.f1[k] :=⟨_,rfl⟩
   rw [hpk,← hpp] at g0 g1 g2 hl2 hr2
   have hop :=o3 _ (List.getElem_mem hkn)
   rw [← hpp] at hop
   obtain ⟨op1,op2,op3⟩ :=hop
   replace hpp :=AZ.mk hpp
   clear hpk
   have hBw :=hI.2.1
   replace g0 : wr.cell? (ad.add (k * 3)) = some (.string pp.f0) :=(hBw.cell (World.block_lt_of_cell? _ _ g0)).trans g0
   replace g1 : wr.cell? ⟨(ad.add (k * 3)).block,(ad.add (k * 3)).off + 1,none⟩ = some (.int .i64 pp.f1) :=(hBw.cell (World.block_lt_of_cell? _ _ g1)).trans g1
   replace g2 : wr.cell? ⟨(ad.add (k * 3)).block,(ad.add (k * 3)).off + 2,none⟩ = some (.slice A3 pp.f2.length c3) :=(hBw.cell (World.block_lt_of_cell? _ _ g2)).trans g2
   have hkn' : (k : Int) < (q.f1.f1.length : Int) :=by omega
   subst eA
   go_wp2_with (first | ((with_reducible refine gate_dst (N :=5) rfl ?_);go_loud (refine box_event ?hg (N :=5) ?hd (cs :=#[.string ⟨#[]⟩,.int .i64 0,.slice none 0 0]) (t :=83) ?hr ?_;(case hd => rfl);(case hg => rfl);(case hr => first | (go_simp;done) | (go_simp;rfl));intro p hgp wa BP hbp;have hpge : wr.heap.size ≤ p :=Nat.le_of_eq hgp.symm;have NP : p ≠ g :=(by rw [hgp];exact Nat.ne_of_gt (blk_lt hI.1.1));clear hgp;have f0 :=bkz BP 0;have f1 :=bkz BP 1;have f2 :=bkz BP 2;have p0 :=(bkc BP 0).trans rfl;have p1 :=(bkc BP 1).trans rfl;have p2 :=(bkc BP 2).trans rfl)) | ((with_reducible refine gate_store (t :=83) (p :=5) rfl ?_);go_loud (refine store_event (t :=83) (p :=5) (v :=?vo) (w1 :=((wa.setCell ⟨p,0,none⟩ (.string pp.f0)).setCell ⟨p,1,none⟩ (.int .i64 pp.f1)).setCell ⟨p,2,none⟩ (.slice A3 pp.f2.length c3)) ?hg ?ho ?hn ?hr ?_;(case ho => rfl);(case hg => rfl);(case hn => rfl);(case hr => first | (go_simp;done) | (go_simp;rfl));intro wb hwb;replace BP : wb.heap[p]? = some (.cells #[.string pp.f0,.int .i64 pp.f1,.slice A3 pp.f2.length c3] 83 (0,0)) :=(by rw [hwb];exact blk_set3 BP _ _ _);replace hbp : Below wr.heap.size wr wb :=(by rw [hwb];exact bws (bws (bws hbp hpge) hpge) hpge);clear hwb f0 f1 f2 p0 p1 p2;replace BK :=blk_below BK hbp;replace HK :=HK.below hbp;replace hI :=hI.below hbp;have p0 :=(bkc BP 0).trans rfl;have p1 :=(bkc BP 1).trans rfl;have p2 :=(bkc BP 2).trans rfl)) | (go_at_call 16;((with_reducible refine (snum1 hI (by constructor <;> omega) (by omega)).mono ?_);rintro e wn ⟨rfl,vn,hS,hKn⟩;replace BK :=hI.1.blk hKn BK NB (by decide);replace BP :=hI.1.blk hKn BP NP (by decide);replace HK :=HK.trans hKn;replace hI :=hS;clear hS hKn p0 p1 p2;have p0 :=(bkc BP 0).trans rfl;have p1 :=(bkc BP 1).trans rfl;have p2 :=(bkc BP 2).trans rfl)) | (go_at_call 16;((with_reducible refine (snum8 hI (u64_rng _) (by omega)).mono ?_);rintro e wn ⟨rfl,vn,hS,hKn⟩;replace BK :=hI.1.blk hKn BK NB (by decide);replace BP :=hI.1.blk hKn BP NP (by decide);replace HK :=HK.trans hKn;replace hI :=hS;clear hS hKn p0 p1 p2;have p0 :=(bkc BP 0).trans rfl;have p1 :=(bkc BP 1).trans rfl;have p2 :=(bkc BP 2).trans rfl)) | (go_at_call 18;((with_reducible refine (stextS hI (by assumption) (by omega)).mono ?_);rintro e wn ⟨rfl,vn,hS,hKn⟩;replace BK :=hI.1.blk hKn BK NB (by decide);replace BP :=hI.1.blk hKn BP NP (by decide);replace HK :=HK.trans hKn;replace hI :=hS;clear hS hKn p0 p1 p2;have p0 :=(bkc BP 0).trans rfl;have p1 :=(bkc BP 1).trans rfl;have p2 :=(bkc BP 2).trans rfl)))
   obtain ⟨B2,hB2⟩ : ∃ B2,B2 = B1 ++ (q.f1.f1.take k).flatMap encPart ++ txt (bytesOf pp.f0) ++ be (IntKind.u64.wrap pp.f1) 8 ++ be (pp.f2.length : Int) 1 :=⟨_,rfl⟩
   rw [← hB2] at hI
   replace hB2 :=AZ.mk hB2
   go_loopw [56] (fun i wr => ∃ (m : Nat) (v' : Value),m ≤ pp.f2.length ∧ i = .int .i64 m ∧ St w0 wr g v' (B2 ++ (pp.f2.take m).flatMap encEv) (6 + 40 * k + 2 * m) ∧ WKeep w0 w wr g v v' ∧ wr.heap[b]? = some (.cells #[.int .i64 q.f0,.string q.f1.f0,.slice (some ad) q.f1.f1.length c2,.string q.f2,.slice A4 q.f3.length c4,.int .i64 q.f4,.slice A6 q.f5.length c6,.int .i64 q.f6,.int .i64 q.f7,.bool q.f8,.slice A10 q.f9.length c10] 46 (0,0)) ∧ wr.heap[p]? = some (.cells #[.string pp.f0,.int .i64 pp.f1,.slice A3 pp.f2.length c3] 83 (0,0))) (fun i _ => pp.f2.length - (intOf i).toNat)
   case atStart => exact ⟨0,_,Nat.zero_le _,rfl,by simpa using hI.mono (by omega),HK,BK,BP⟩
   case round =>
    clear hI HK BK BP p0 p1 p2
    rename_i wx
    obtain ⟨m,v2,hm,rfl,hI,HK,BK,BP⟩ :=hrel
    by_cases hmn : m < pp.f2.length
    ·obtain ⟨ae,A5,c5,eA,g0,g1,hl5,hr5⟩ :=at_T85 hr2 (m : Int) (by omega) (by omega)
     have hek : rd_T85 pp.f2 m = pp.f2[m] :=by simp [rd_T85,hmn]
     obtain ⟨ee,hee⟩ : ∃ ee,ee = pp.f2[m] :=⟨_,rfl⟩
     rw [hek,← hee] at g0 g1 hl5 hr5
     have hoe :=op3 _ (List.getElem_mem hmn)
     rw [← hee] at hoe
     obtain ⟨oe1,oe2⟩ :=hoe
     replace hee :=AZ.mk hee
     clear hek
     have hBw :=hI.2.1
     replace g0 : wr.cell? (ae.add (m * 2)) = some (.string ee.f0) :=(hBw.cell (World.block_lt_of_cell? _ _ g0)).trans g0
     replace g1 : wr.cell? ⟨(ae.add (m * 2)).block,(ae.add (m * 2)).off + 1,none⟩ = some (.slice A5 ee.f1.length c5) :=(hBw.cell (World.block_lt_of_cell? _ _ g1)).trans g1
     have hmn' : (m : Int) < (pp.f2.length : Int) :=by omega
     subst eA
     go_wp2_with (first | ((with_reducible refine gate_dst (N :=7) rfl ?_);go_loud (refine box_event ?hg (N :=7) ?hd (cs :=#[.string ⟨#[]⟩,.slice none 0 0]) (t :=85) ?hr ?_;(case hd => rfl);(case hg => rfl);(case hr => first | (go_simp;done) | (go_simp;rfl));intro pe hgp wa BE hbp;have hpge : wr.heap.size ≤ pe :=Nat.le_of_eq hgp.symm;have NE : pe ≠ g :=(by rw [hgp];exact Nat.ne_of_gt (blk_lt hI.1.1));clear hgp;have f0 :=bkz BE 0;have f1 :=bkz BE 1;have e0 :=(bkc BE 0).trans rfl;have e1 :=(bkc BE 1).trans rfl)) | ((with_reducible refine gate_store (t :=85) (p :=7) rfl ?_);go_loud (refine store_event (t :=85) (p :=7) (v :=?ve) (w1 :=(wa.setCell ⟨pe,0,none⟩ (.string ee.f0)).setCell ⟨pe,1,none⟩ (.slice A5 ee.f1.length c5)) ?hg ?ho ?hn ?hr ?_;(case ho => rfl);(case hg => rfl);(case hn => rfl);(case hr => first | (go_simp;done) | (go_simp;rfl));intro wb hwb;replace BE : wb.heap[pe]? = some (.cells #[.string ee.f0,.slice A5 ee.f1.length c5] 85 (0,0)) :=(by rw [hwb];exact blk_set2 BE _ _);replace hbp : Below wr.heap.size wr wb :=(by rw [hwb];exact bws (bws hbp hpge) hpge);clear hwb f0 f1 e0 e1;replace BK :=blk_below BK hbp;replace BP :=blk_below BP hbp;replace HK :=HK.below hbp;replace hI :=hI.below hbp;have e0 :=(bkc BE 0).trans rfl;have e1 :=(bkc BE 1).trans rfl)) | (go_at_call 18;((with_reducible refine (stextS hI (by assumption) (by omega)).mono ?_);rintro e wn ⟨rfl,vn,hS,hKn⟩;replace BK :=hI.1.blk hKn BK NB (by decide);replace BP :=hI.1.blk hKn BP NP (by decide);replace BE :=hI.1.blk hKn BE NE (by decide);replace HK :=HK.trans hKn;replace hI :=hS;clear hS hKn e0 e1;have e0 :=(bkc BE 0).trans rfl;have e1 :=(bkc BE 1).trans rfl)) | (go_at_call 18;((with_reducible refine (stextC hI hr5 (by assumption) (by omega)).mono ?_);rintro e wn ⟨rfl,vn,hS,hKn⟩;replace BK :=hI.1.blk hKn BK NB (by decide);replace BP :=hI.1.blk hKn BP NP (by decide);replace BE :=hI.1.blk hKn BE NE (by decide);replace HK :=HK.trans hKn;replace hI :=hS;clear hS hKn e0 e1;have e0 :=(bkc BE 0).trans rfl;have e1 :=(bkc BE 1).trans rfl)))
     go_roundw
     case measure => simp only [intOf];omega
     case rel => exact ⟨m + 1,_,by omega,rfl,by rw [takeFlat _ _ _ hmn,← hee.out];simpa [encEv,List.append_assoc] using hI.mono (by omega),HK,BK,BP⟩
    ·have hme : m = pp.f2.length :=by omega
     have hmn' : ¬ (m : Int) < (pp.f2.length : Int) :=by omega
     go_wp2
     go_roundw
     case measure => simp only [intOf];omega
     case rel =>
      refine ⟨k + 1,_,by omega,rfl,?_,HK,BK⟩
      rw [takeFlat _ _ _ hkn,← hpp.out]
      rw [hme,List.take_length,hB2.out] at hI
      simpa [encPart,List.append_assoc] using hI.mono (by omega)
  ·have hke : k = q.f1.f1.length :=by omega
   have hkn' : ¬ (k : Int) < (q.f1.f1.length : Int) :=by omega
   obtain ⟨k0,k1,k2,k3,k4,k5,k6,k7,k8,k9,k10⟩ :=cells11 BK
   go_wp2_with (first | (go_at_call 16;((with_reducible refine (snum1 hI (by constructor <;> omega) (by omega)).mono ?_);rintro e wn ⟨rfl,vn,hS,hKn⟩;replace BK :=hI.1.blk hKn BK NB (by decide);replace HK :=HK.trans hKn;replace hI :=hS;clear hS hKn k0 k1 k2 k3 k4 k5 k6 k7 k8 k9 k10;obtain ⟨k0,k1,k2,k3,k4,k5,k6,k7,k8,k9,k10⟩ :=cells11 BK)) | (go_at_call 18;((with_reducible refine (stextS hI (by assumption) (by omega)).mono ?_);rintro e wn ⟨rfl,vn,hS,hKn⟩;replace BK :=hI.1.blk hKn BK NB (by decide);replace HK :=HK.trans hKn;replace hI :=hS;clear hS hKn k0 k1 k2 k3 k4 k5 k6 k7 k8 k9 k10;obtain ⟨k0,k1,k2,k3,k4,k5,k6,k7,k8,k9,k10⟩ :=cells11 BK)))
   rw [hke,List.take_length] at hI
   obtain ⟨B3,hB3⟩ : ∃ B3,B3 = B1 ++ q.f1.f1.flatMap encPart ++ txt (bytesOf q.f2) ++ be (q.f3.length : Int) 1 :=⟨_,rfl⟩
   rw [← hB3] at hI
   replace hB3 :=AZ.mk hB3
   clear hkn hkn' hke hk
   go_loopw [85] (fun i wr => ∃ (m : Nat) (v' : Value),m ≤ q.f3.length ∧ i = .int .i64 m ∧ St w0 wr g v' (B3 ++ (q.f3.take m).flatMap (fun s => txt (bytesOf s))) (300 + m) ∧ WKeep w0 w wr g v v' ∧ wr.heap[b]? = some (.cells #[.int .i64 q.f0,.string q.f1.f0,.slice A2 q.f1.f1.length c2,.string q.f2,.slice A4 q.f3.length c4,.int .i64 q.f4,.slice A6 q.f5.length c6,.int .i64 q.f6,.int .i64 q.f7,.bool q.f8,.slice A10 q.f9.length c10] 46 (0,0))) (fun i _ => q.f3.length - (intOf i).toNat)
   case atStart => exact ⟨0,_,Nat.zero_le _,rfl,by simpa using hI.mono (by omega),HK,BK⟩
   case round =>
    clear hI HK BK k0 k1 k2 k3 k4 k5 k6 k7 k8 k9 k10
    obtain ⟨m,v2,hm,rfl,hI,HK,BK⟩ :=hrel
    by_cases hmn : m < q.f3.length
    ·obtain ⟨an,eA,g0⟩ :=Kd.at_string h4 (m : Int) (by omega) (by omega)
     have hsk : rdOf ByteArray.empty q.f3 m = q.f3[m] :=by simp [rdOf,hmn]
     obtain ⟨ss,hss⟩ : ∃ ss,ss = q.f3[m] :=⟨_,rfl⟩
     rw [hsk,← hss] at g0
     have hos :=o6 _ (List.getElem_mem hmn)
     rw [← hss] at hos
     replace hss :=AZ.mk hss
     clear hsk
     have hBw :=hI.2.1
     replace g0 : wr.cell? (an.add m) = some (.string ss) :=(hBw.cell (World.block_lt_of_cell? _ _ g0)).trans g0
     have hmn' : (m : Int) < (q.f3.length : Int) :=by omega
     subst eA
     go_wp2_with (go_at_call 18;((with_reducible refine (stextS hI (by assumption) (by omega)).mono ?_);rintro e wn ⟨rfl,vn,hS,hKn⟩;replace BK :=hI.1.blk hKn BK NB (by decide);replace HK :=HK.trans hKn;replace hI :=hS;clear hS hKn))
     go_roundw
     case measure => simp only [intOf];omega
     case rel => exact ⟨m + 1,_,by omega,rfl,by rw [takeFlat _ _ _ hmn,← hss.out];simpa [List.append_assoc] using hI.mono (by omega),HK,BK⟩
    ·have hme : m = q.f3.length :=by omega
     have hmn' : ¬ (m : Int) < (q.f3.length : Int) :=by omega
     obtain ⟨k0,k1,k2,k3,k4,k5,k6,k7,k8,k9,k10⟩ :=cells11 BK
     have h8 : q.f8 = true ∨ q.f8 = false :=by cases q.f8 <;> simp
     rcases h8 with h8 | h8
     all_goals
      go_wp2_with (first | (go_at_call 16;first | ((with_reducible refine (snum1 hI (by constructor <;> omega) (by omega)).mono ?_);rintro e wn ⟨rfl,vn,hS,hKn⟩;replace BK :=hI.1.blk hKn BK NB (by decide);replace HK :=HK.trans hKn;replace hI :=hS;clear hS hKn k0 k1 k2 k3 k4 k5 k6 k7 k8 k9 k10;obtain ⟨k0,k1,k2,k3,k4,k5,k6,k7,k8,k9,k10⟩ :=cells11 BK) | ((with_reducible refine (snum2 hI (u64_rng _) (by omega)).mono ?_);rintro e wn ⟨rfl,vn,hS,hKn⟩;replace BK :=hI.1.blk hKn BK NB (by decide);replace HK :=HK.trans hKn;replace hI :=hS;clear hS hKn k0 k1 k2 k3 k4 k5 k6 k7 k8 k9 k10;obtain ⟨k0,k1,k2,k3,k4,k5,k6,k7,k8,k9,k10⟩ :=cells11 BK) | ((with_reducible refine (snum8 hI (u64_rng _) (by omega)).mono ?_);rintro e wn ⟨rfl,vn,hS,hKn⟩;replace BK :=hI.1.blk hKn BK NB (by decide);replace HK :=HK.trans hKn;replace hI :=hS;clear hS hKn k0 k1 k2 k3 k4 k5 k6 k7 k8 k9 k10;obtain ⟨k0,k1,k2,k3,k4,k5,k6,k7,k8,k9,k10⟩ :=cells11 BK)) | (go_at_call 18;first | ((with_reducible refine (stextC hI h6 (by assumption) (by omega)).mono ?_);rintro e wn ⟨rfl,vn,hS,hKn⟩;replace BK :=hI.1.blk hKn BK NB (by decide);replace HK :=HK.trans hKn;replace hI :=hS;clear hS hKn k0 k1 k2 k3 k4 k5 k6 k7 k8 k9 k10;obtain ⟨k0,k1,k2,k3,k4,k5,k6,k7,k8,k9,k10⟩ :=cells11 BK) | ((with_reducible refine (stextC hI h10 (by assumption) (by omega)).mono ?_);rintro e wn ⟨rfl,vn,hS,hKn⟩;replace BK :=hI.1.blk hKn BK NB (by decide);replace HK :=HK.trans hKn;replace hI :=hS;clear hS hKn k0 k1 k2 k3 k4 k5 k6 k7 k8 k9 k10;obtain ⟨k0,k1,k2,k3,k4,k5,k6,k7,k8,k9,k10⟩ :=cells11 BK)))
      go_end0
      refine ⟨rfl,_,?_,HK⟩
      have hx :=hI.1
      rw [hme,List.take_length,hB3.out,hB1] at hx
      simpa [encReq,List.append_assoc,h8] using hx
end Go.Proofs.YtlafgnanfkhobaaGreatDoor.P2
