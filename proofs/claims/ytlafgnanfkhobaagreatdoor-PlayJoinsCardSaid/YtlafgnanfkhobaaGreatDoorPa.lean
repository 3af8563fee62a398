import Derived.Test.YtlafgnanfkhobaaGreatDoorQ4
namespace Go.Proofs.YtlafgnanfkhobaaGreatDoor.P2
open Go.RowKit Go.Proofs.YtlafgnanfkhobaaGreatDoorW.PrintWords Go.Proofs.YtlafgnanfkhobaaGreatDoorW.PrintLast Go.Proofs.YtlafgnanfkhobaaGreatDoorW.PrintMore
set_option linter.unusedVariables false
set_option linter.unusedSimpArgs false
def T {α : Type} (g : Nat → Option α) (Q : α → Prop) : Prop :=∃ r,Ev g r ∧ Q r
theorem T.of {α : Type} {g : Nat → Option α} {Q : α → Prop} {r : α} (h : Ev g r) (hq : Q r) : T g Q :=⟨r,h,hq⟩
theorem T.now {α : Type} {Q : α → Prop} (r : α) (h : Q r) : T (fun _ => some r) Q :=⟨r,Ev.now r,h⟩
theorem T.bind {α β : Type} {g : Nat → Option α} {f : Nat → α → Option β} {Q : α → Prop} {R : β → Prop} (h : T g Q) (k : ∀ a,Q a → T (fun n => f n a) R) : T (fun n => (g n).bind (f n)) R :=by
 obtain ⟨a,ha,hq⟩ :=h
 obtain ⟨r,hr,hR⟩ :=k a hq
 exact ⟨r,Ev.bind ha hr,hR⟩
theorem T.step {α : Type} {g f : Nat → Option α} {Q : α → Prop} (h : ∀ k,g (k + 1) = f k) (k : T f Q) : T g Q :=by
 obtain ⟨r,hr,hq⟩ :=k
 exact ⟨r,Ev.step h hr,hq⟩
theorem T.congr {α : Type} {g f : Nat → Option α} {Q : α → Prop} (h : ∀ k,g k = f k) (k : T f Q) : T g Q :=by
 obtain ⟨r,hr,hq⟩ :=k
 exact ⟨r,Ev.congr h hr,hq⟩
theorem T.yes {α : Type} {c : Prop} [Decidable c] {g f : Nat → Option α} {Q : α → Prop} (h : c) (k : T g Q) : T (fun n => if c then g n else f n) Q :=T.congr (fun n => if_pos h) k
theorem T.no {α : Type} {c : Prop} [Decidable c] {g f : Nat → Option α} {Q : α → Prop} (h : ¬ c) (k : T f Q) : T (fun n => if c then g n else f n) Q :=T.congr (fun n => if_neg h) k
theorem T.mono {α : Type} {g : Nat → Option α} {Q R : α → Prop} (h : T g Q) (k : ∀ r,Q r → R r) : T g R :=by
 obtain ⟨r,hr,hq⟩ :=h
 exact ⟨r,hr,k r hq⟩
theorem Ev.yes {α : Type} {c : Prop} [Decidable c] {g f : Nat → Option α} {r : α} (h : c) (k : Ev g r) : Ev (fun n => if c then g n else f n) r :=Ev.congr (fun n => if_pos h) k
theorem Ev.no {α : Type} {c : Prop} [Decidable c] {g f : Nat → Option α} {r : α} (h : ¬ c) (k : Ev f r) : Ev (fun n => if c then g n else f n) r :=Ev.congr (fun n => if_neg h) k
def V (xs : List Int) : Prop :=∀ x ∈ xs,0 ≤ x ∧ x ≤ 255
theorem V.append {xs ys : List Int} (h : V xs) (k : V ys) : V (xs ++ ys) :=fun x hx => (List.mem_append.1 hx).elim (h x) (k x)
theorem V.take {xs : List Int} (h : V xs) (n : Nat) : V (xs.take n) :=fun x hx => h x (List.mem_of_mem_take hx)
theorem V.drop {xs : List Int} (h : V xs) (n : Nat) : V (xs.drop n) :=fun x hx => h x (List.mem_of_mem_drop hx)
theorem V.nil : V [] :=fun x hx => by cases hx
theorem st_size (xs : List Int) : (strOfNums xs).size = xs.length :=by simp [strOfNums,ByteArray.size]
theorem st_bytes (s : ByteArray) : strOfNums (bytesOf s) = s :=by
 cases s with
 | mk d =>
  simp [strOfNums,bytesOf,List.map_map,Function.comp_def]
theorem V_bytes (s : ByteArray) : V (bytesOf s) :=bytesOf_range s
theorem bytes_ok {xs : List Int} (hx : V xs) (hl : xs.length ≤ 1000000000000) (b : Bool) {n : Nat} (hn : n ≤ xs.length) :
  play_reader_bytes.f (strOfNums xs) b n = some (xs.take n,strOfNums (xs.drop n),b) :=by
 unfold play_reader_bytes.f
 rw [bytesOf_strOfNums xs hx,if_neg (by omega),if_pos (by omega),if_pos (by rw [List.length_take];omega),Int.toNat_natCast]
theorem bytes_short {xs : List Int} (hx : V xs) (b : Bool) {n : Nat} (hn : xs.length < n) :
  play_reader_bytes.f (strOfNums xs) b n = some ([],strOfNums [],true) :=by
 unfold play_reader_bytes.f
 rw [bytesOf_strOfNums xs hx,if_pos (by omega)]
theorem p256pos : ∀ n : Nat,0 < (256 : Int) ^ n
 | 0 => by decide
 | n + 1 => by
  have :=p256pos n
  rw [Int.pow_succ]
  omega
theorem p256 : ∀ d i : Nat,(256 : Int) ^ i ≤ 256 ^ (i + d)
 | 0,i => Int.le_refl _
 | d + 1,i => by
  have h1 :=p256 d i
  have h2 :=p256pos (i + d)
  rw [← Nat.add_assoc,Int.pow_succ]
  omega
def numOf (xs : List Int) : Int :=xs.foldl (fun v c => v * 256 + c) 0
theorem numOf_snoc (xs : List Int) (c : Int) : numOf (xs ++ [c]) = numOf xs * 256 + c :=by simp [numOf,List.foldl_append]
theorem numOf_bound : ∀ (n : Nat) (xs : List Int),xs.length = n → V xs → 0 ≤ numOf xs ∧ numOf xs < (256 : Int) ^ n
 | 0,xs,h,_ => by
  rw [List.eq_nil_of_length_eq_zero h]
  exact ⟨by decide,by decide⟩
 | n + 1,xs,h,hx => by
  obtain ⟨ys,c,rfl⟩ : ∃ ys c,xs = ys ++ [c] :=⟨xs.dropLast,xs.getLast (by intro e;rw [e] at h;cases h),(List.dropLast_concat_getLast _).symm⟩
  have hy : ys.length = n :=by simpa using h
  obtain ⟨h0,h1⟩ :=numOf_bound n ys hy (fun x hx' => hx x (List.mem_append_left _ hx'))
  obtain ⟨c0,c1⟩ :=hx c (by simp)
  rw [numOf_snoc,Int.pow_succ]
  omega
theorem or_bytes {v c : Int} (h0 : 0 ≤ v) (h1 : v < 72057594037927936) (c0 : 0 ≤ c) (c1 : c ≤ 255) : Go.bits .or .u64 (IntKind.u64.wrap (v * 256)) (IntKind.u64.wrap c) = v * 256 + c :=by
 have e1 : IntKind.u64.wrap (v * 256) = v * 256 :=by
  have : IntKind.u64.wrap (v * 256) = (v * 256) % 18446744073709551616 :=rfl
  omega
 have e2 : IntKind.u64.wrap c = c :=by
  have : IntKind.u64.wrap c = c % 18446744073709551616 :=rfl
  omega
 rw [e1,e2,Go.u64_or _ _ (by omega) (by omega) (by omega) (by omega)]
 obtain ⟨a,rfl⟩ :=Int.eq_ofNat_of_zero_le h0
 obtain ⟨d,rfl⟩ :=Int.eq_ofNat_of_zero_le c0
 have hd : d < 2 ^ 8 :=by omega
 have :=Nat.shiftLeft_add_eq_or_of_lt hd a
 rw [Nat.shiftLeft_eq] at this
 have e3 : ((a : Int) * 256).toNat = a * 2 ^ 8 :=by omega
 rw [e3,Int.toNat_natCast,← this]
 omega
theorem num_loop {ys : List Int} (hy : V ys) (hl : ys.length ≤ 8) (s : ByteArray) (b : Bool) : ∀ (d i : Nat),i + d = ys.length → Ev (fun k => play_reader_num.l0 k (numOf (ys.take i)) ys (ys.length : Int) (i : Int) s b) (numOf ys,s,b)
 | 0,i,h => Ev.step (fun k => rfl) (Ev.no (by omega) (by
   have hi : i = ys.length :=by omega
   rw [hi,List.take_length]
   exact Ev.now _))
 | d + 1,i,h => Ev.step (fun k => rfl) (Ev.yes (by omega) (Ev.yes (by omega) (Ev.yes (by omega) (by
   have hlt : i < ys.length :=by omega
   have hr : rd ys (i : Int) = ys[i] :=by simp [rd,hlt]
   obtain ⟨c0,c1⟩ :=hy _ (List.getElem_mem hlt)
   have hb :=numOf_bound i (ys.take i) (by rw [List.length_take];omega) (hy.take i)
   have hp : (256 : Int) ^ i ≤ 256 ^ 7 :=by
    have :=p256 (7 - i) i
    rwa [show i + (7 - i) = 7 by omega] at this
   have e : numOf (ys.take (i + 1)) = Go.bits .or .u64 (IntKind.u64.wrap (numOf (ys.take i) * 256)) (IntKind.u64.wrap (rd ys (i : Int))) :=by
    rw [List.take_succ_eq_append_getElem hlt,numOf_snoc,hr,or_bytes hb.1 (Int.lt_of_lt_of_le hb.2 hp) c0 c1]
   have e2 : wrap64 ((i : Int) + 1) = ((i + 1 : Nat) : Int) :=by unfold wrap64;omega
   rw [← e,e2]
   exact num_loop hy hl s b d (i + 1) (by omega)))))
theorem num_ok {xs : List Int} (hx : V xs) (hl : xs.length ≤ 1000000000000) (b : Bool) {n : Nat} (hn : n ≤ xs.length) (h8 : n ≤ 8) :
  Ev (fun k => play_reader_num.f k (strOfNums xs) b n) (numOf (xs.take n),strOfNums (xs.drop n),b) :=by
 unfold play_reader_num.f
 refine Ev.bind (a :=(xs.take n,strOfNums (xs.drop n),b)) (Ev.congr (fun k => bytes_ok hx hl b hn) (Ev.now _)) ?_
 exact num_loop (hx.take n) (by rw [List.length_take];omega) _ _ (xs.take n).length 0 (by omega)
theorem num_short {xs : List Int} (hx : V xs) (b : Bool) {n : Nat} (hn : xs.length < n) : Ev (fun k => play_reader_num.f k (strOfNums xs) b n) (0,strOfNums [],true) :=by
 unfold play_reader_num.f
 refine Ev.bind (a :=([],strOfNums [],true)) (Ev.congr (fun k => bytes_short hx b hn) (Ev.now _)) ?_
 exact num_loop (ys :=[]) V.nil (by decide) _ _ 0 0 rfl
end Go.Proofs.YtlafgnanfkhobaaGreatDoor.P2
