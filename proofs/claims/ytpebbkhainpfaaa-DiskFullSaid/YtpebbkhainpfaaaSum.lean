/- Sums of bytes: sum.table, Sum, Next, foot, Seal, and the document's. Conditions: the slices are readable. -/
import Derived.Test.YtpebbkhainpfaaaNum
import Derived.Test.YtpebbkhainpfaaaHlMore
namespace Go.Proofs.Ytpebbkhainpfaaa
open Go Go.HL

/-- One bit falls out on the right; some. -/
def bitN (c : Nat) : Nat := if c % 2 = 1 then c / 2 ^^^ 2197175160 else c / 2
def stN : Nat → Nat → Nat
  | 0, c => c
  | k + 1, c => bitN (stN k c)
def crcN (c : Nat) (l : List UInt8) : Nat := l.foldl (fun c x => stN 8 (c ^^^ x.toNat)) c
@[irreducible] def sumN (l : List UInt8) : Nat := 4294967295 - crcN 4294967295 l
theorem sumN_def (l : List UInt8) : sumN l = 4294967295 - crcN 4294967295 l := by unfold sumN; rfl
theorem bitN_lt {c : Nat} (h : c < 4294967296) : bitN c < 4294967296 := by
  unfold bitN
  split
  · exact Nat.xor_lt_two_pow (n := 32) (by omega) (by omega)
  · omega
theorem stN_lt {c : Nat} (h : c < 4294967296) : ∀ k, stN k c < 4294967296
  | 0 => h
  | k + 1 => bitN_lt (stN_lt h k)
theorem byte32 {c : Nat} (h : c < 4294967296) (x : UInt8) : c ^^^ x.toNat < 4294967296 := Nat.xor_lt_two_pow (n := 32) h (Nat.lt_trans x.toNat_lt (by decide))
theorem crcN_lt : ∀ {c : Nat} (_ : c < 4294967296) (l : List UInt8), crcN c l < 4294967296
  | _, h, [] => h
  | c, h, x :: l => crcN_lt (c := stN 8 (c ^^^ x.toNat)) (stN_lt (byte32 h x) 8) l
theorem crcN_snoc (c : Nat) (l : List UInt8) (x : UInt8) : crcN c (l ++ [x]) = stN 8 (crcN c l ^^^ x.toNat) := by simp [crcN]
theorem bitN_xor (a b : Nat) : bitN (a ^^^ b) = bitN a ^^^ bitN b := by
  have h := @Nat.xor_mod_two_eq_one a b
  unfold bitN
  rw [Nat.xor_div_two]
  by_cases ha : a % 2 = 1 <;> by_cases hb : b % 2 = 1
  · rw [if_neg (by rw [h]; simp [ha, hb]), if_pos ha, if_pos hb, Nat.xor_assoc, Nat.xor_comm 2197175160, Nat.xor_assoc (b / 2), Nat.xor_self, Nat.xor_zero]
  · rw [if_pos (by rw [h]; simp [ha, hb]), if_pos ha, if_neg hb, Nat.xor_assoc, Nat.xor_assoc, Nat.xor_comm (b / 2)]
  · rw [if_pos (by rw [h]; simp [ha, hb]), if_neg ha, if_pos hb, Nat.xor_assoc]
  · rw [if_neg (by rw [h]; simp [ha, hb]), if_neg ha, if_neg hb]
theorem stN_xor (a b : Nat) : ∀ k, stN k (a ^^^ b) = stN k a ^^^ stN k b
  | 0 => rfl
  | k + 1 => by unfold stN; rw [stN_xor a b k, bitN_xor]
theorem stN_add (a c : Nat) : ∀ b, stN (a + b) c = stN b (stN a c)
  | 0 => rfl
  | b + 1 => by show bitN (stN (a + b) c) = bitN (stN b (stN a c)); rw [stN_add a c b]
theorem bitN_even (q : Nat) : bitN (2 * q) = q := by unfold bitN; rw [if_neg (by omega)]; omega
theorem split16 (c : Nat) : c = (c / 16 * 16) ^^^ (c % 16) := by
  apply Nat.eq_of_testBit_eq
  intro i
  rw [Nat.testBit_xor]
  have h2 : (c / 16 * 16).testBit i = (decide (4 ≤ i) && (c / 16).testBit (i - 4)) := by
    have : c / 16 * 16 = (c / 16) <<< 4 := by rw [Nat.shiftLeft_eq]
    rw [this, Nat.testBit_shiftLeft]
  have h3 : (c % 16).testBit i = (decide (i < 4) && c.testBit i) := by
    have : c % 16 = c % 2 ^ 4 := by rfl
    rw [this, Nat.testBit_mod_two_pow]
  have h4 : (c / 16).testBit (i - 4) = c.testBit (4 + (i - 4)) := by
    have : c / 16 = c >>> 4 := by rw [Nat.shiftRight_eq_div_pow]
    rw [this, Nat.testBit_shiftRight]
  rw [h2, h3, h4]
  by_cases hi : 4 ≤ i
  · rw [show 4 + (i - 4) = i by omega]; simp [hi, Nat.not_lt.2 hi]
  · simp [hi, Nat.not_le.1 hi]
theorem stN_four (c : Nat) : stN 4 c = c / 16 ^^^ stN 4 (c % 16) := by
  have h : stN 4 (c / 16 * 16) = c / 16 := by
    show bitN (bitN (bitN (bitN (c / 16 * 16)))) = _
    rw [show c / 16 * 16 = 2 * (2 * (2 * (2 * (c / 16)))) by omega, bitN_even, bitN_even, bitN_even, bitN_even]
  conv => lhs; rw [split16 c, stN_xor, h]
theorem and15 (c : Nat) : c &&& 15 = c % 16 := Nat.and_two_pow_sub_one_eq_mod c 4
/-- The table. -/
def tabN : List Nat := (List.range 16).map (stN 4)
theorem tabN_at {i : Nat} (h : i < 16) : tabN[i]? = some (stN 4 i) := by unfold tabN; simp [h]
@[reducible] def w32 (n : Nat) : Value := .int .u32 ((n : Nat) : Int)
theorem four_step {c : Nat} {q r : Nat} (hq : q = c / 2 ^ 4) (hr : r = stN 4 (c &&& 15)) : q ^^^ r = stN 4 c := by subst hq hr; rw [and15, ← stN_four]
theorem foldl_snoc {f : Nat → UInt8 → Nat} (p : Nat) (l : List UInt8) (x : UInt8) : (l ++ [x]).foldl f p = f (l.foldl f p) x := by rw [List.foldl_append]; rfl
def nextB (p : Nat) (x : UInt8) : Nat := (p ^^^ x.toNat) * 1099511628211 % 18446744073709551616
theorem nextB_lt (p : Nat) (x : UInt8) : nextB p x < 18446744073709551616 := by unfold nextB; exact Nat.mod_lt _ (by decide)
def nextN (p : Nat) (l : List UInt8) : Nat := l.foldl nextB p
theorem nextN_snoc (p : Nat) (l : List UInt8) (x : UInt8) : nextN p (l ++ [x]) = nextB (nextN p l) x := foldl_snoc p l x
theorem nextN_lt {p : Nat} (hp : p < 18446744073709551616) (l : List UInt8) : nextN p l < 18446744073709551616 := by
  rcases List.eq_nil_or_concat l with rfl | ⟨m, x, rfl⟩
  · exact hp
  · rw [List.concat_eq_append, nextN_snoc]; exact nextB_lt _ _
def sealN (l : List UInt8) : List UInt8 := l ++ [UInt8.ofNat (sumN l), UInt8.ofNat (sumN l / 2 ^ 8), UInt8.ofNat (sumN l / 2 ^ 16), UInt8.ofNat (sumN l / 2 ^ 24)]

set_option maxRecDepth 100000 in
set_option maxHeartbeats 2000000 in
theorem table_any {h : Heap} :
    HC Try.prog 132 #[] h (fun v h' => v = .agg (tabN.map w32).toArray ∧ Ext h h') := by
  have ok := Hp.nil h none_
  refine HC.go Try.func132 26 ?_
  refine .seq <| .r <| .a' 0 (.alA T.zr181 ok) ?_
  rintro _ η1 ⟨pb1, rfl, ok, xe⟩
  refine .nil ?_
  refine .seq <| .r <| .a' 1 (.alA T.zr181 ok) ?_
  rintro _ η2 ⟨pb2, rfl, ok, xe⟩
  refine .nil ?_
  refine .seq <| .seq <| .r <| .w 5 .mvI <| .nil ?_
  refine .block fun K0 hK0 => .loop (fun m s hh => ∃ (i : Nat), Has s [(0, .pointer (some ⟨pb1, 0, none⟩)), (1, .pointer (some ⟨pb2, 0, none⟩)), (5, .int .i64 (i : Int))] ∧ Hp h none_ [boxI pb2 181 (((List.range i).map (stN 4) ++ List.replicate (16 - i) 0).map w32), boxI pb1 181 [.int .u32 0, .int .u32 0, .int .u32 0, .int .u32 0, .int .u32 0, .int .u32 0, .int .u32 0, .int .u32 0, .int .u32 0, .int .u32 0, .int .u32 0, .int .u32 0, .int .u32 0, .int .u32 0, .int .u32 0, .int .u32 0]] [] hh ∧ i ≤ 16 ∧ m = 16 - i) ?_ ?_
  · exact ⟨_, 0, ⟨rfl, rfl, rfl, trivial⟩, ok.n1.n1.bx (by rfl), Nat.zero_le _, rfl⟩
  rintro _ _ η3 ⟨i, hs, ok, hi, rfl⟩ J0 hJ0
  refine .frame hs fun τ => ?_
  refine .seq <| .r <| .w 6 .lss <| .nil ?_
  refine .seq <| .cdr (fun C0 => ?_) (fun C0 => ?_)
  · --
    have hi16 : i = 16 := by omega
    subst hi16
    refine .exit <| hK0 _ _ <| .seq <| .r <| .w 25 (.ldb T.ag181 ok.m0 T.sz181) <| .ur' (.stW (vs := tabN.map w32) T.sz181 ok.n1 (oneL rfl)) ?_
    rintro η4 ⟨ok, cg⟩
    refine .nil ?_
    refine .ret ⟨.agg (tabN.map w32).toArray, Res.many (vs := [.agg (tabN.map w32).toArray]) rfl ⟨⟨_, rfl, load_ag T.ag181 ok.m0 T.sz181⟩, trivial⟩ rfl, ⟨rfl, ok.chg⟩⟩
  refine .skip <| .seq <| .block fun K1 hK1 => .seq <| .r <| .w 7 .mvI <| .w 2 .asI <| .nil ?_
  refine .seq <| .r <| .w 8 .mvI <| .w 9 (.cvm T.in145 T.in3 (M := 4294967296) rfl rfl) <| .w 3 .asI <| .nil ?_
  refine .seq <| .seq <| .r <| .w 10 .mvI <| .nil ?_
  refine .block fun K2 hK2 => .loop (fun m s hh => ∃ (k cc : Nat), Has s [(0, .pointer (some ⟨pb1, 0, none⟩)), (1, .pointer (some ⟨pb2, 0, none⟩)), (2, .int .i64 (i : Int)), (3, .int .u32 (cc : Int)), (5, .int .i64 (i : Int)), (10, .int .i64 (k : Int))] ∧ Hp h none_ [boxI pb2 181 (((List.range i).map (stN 4) ++ List.replicate (16 - i) 0).map w32), boxI pb1 181 [.int .u32 0, .int .u32 0, .int .u32 0, .int .u32 0, .int .u32 0, .int .u32 0, .int .u32 0, .int .u32 0, .int .u32 0, .int .u32 0, .int .u32 0, .int .u32 0, .int .u32 0, .int .u32 0, .int .u32 0, .int .u32 0]] [] hh ∧ k ≤ 4 ∧ cc = stN k i ∧ m = 4 - k) ?_ ?_
  · exact ⟨_, 0, _, ⟨rfl, rfl, rfl, rfl, rfl, rfl, trivial⟩, ok.n1.n1, Nat.zero_le _, Nat.mod_eq_of_lt (by omega), rfl⟩
  rintro _ _ η5 ⟨k, cc, hs, ok, hk, hcc, rfl⟩ J1 hJ1
  refine .frame hs fun τ => ?_
  refine .seq <| .r <| .w 11 .lss <| .nil ?_
  refine .seq <| .cdr (fun C1 => ?_) (fun C1 => ?_)
  · --
    have hk4 : k = 4 := by omega
    rw [hk4] at hcc
    have hil : i < ((List.range i).map (stN 4) ++ List.replicate (16 - i) 0).length := by simp; omega
    have hset : (((List.range i).map (stN 4) ++ List.replicate (16 - i) 0).set i cc) = (List.range (i + 1)).map (stN 4) ++ List.replicate (16 - (i + 1)) 0 := by
      rw [hcc, List.set_append_right _ _ (by simp), show 16 - i = 16 - (i + 1) + 1 by omega, List.replicate_succ, List.range_succ]
      simp
    refine .exit <| hK2 _ _ <| .r <| .w 21 .mvI <| .w 22 .mvI <| .w 23 (.ixa i T.ar181 T.sz145) <| .ur' (.sa (f := w32) cc T.sz145 ok (q := i) hil) ?_
    rintro η6 ⟨ok, cg⟩
    refine .nil ?_
    refine .end <| hK1 _ _ <| .r <| .w 24 (.addI (b := 1)) <| .w 5 .mvI <| .nil ?_
    refine .end <| hJ0 _ _ _ ⟨i + 1, ⟨rfl, rfl, rfl, trivial⟩, ok.n1.n1.bx (by rw [hset]), by omega, rfl⟩ (by omega)
  have hcl : cc < 4294967296 := by rw [hcc]; exact stN_lt (by omega) k
  have ha1 : cc &&& 1 = cc % 2 := Nat.and_one_is_mod cc
  refine .skip <| .seq <| .block fun K3 hK3 => .seq <| .r <| .w 12 .mvI <| .w 13 (.band (M := 4294967296) rfl rfl (b := 1) (ha := by omega)) <| .w 4 .asI <| .nil ?_
  refine .seq <| .r <| .w 14 .mvI <| .w 15 (.shrn (M := 4294967296) rfl (b := 1)) <| .w 3 .asI <| .nil ?_
  refine .seq <| .r <| .w 16 .mvI <| .w 17 .eql <| .nil ?_
  refine .cd (fun C2 => ?_) (fun C2 => ?_)
  · --
    have hnx : cc / 2 ^ 1 ^^^ 2197175160 = stN (k + 1) i := by show _ = bitN (stN k i); rw [← hcc]; unfold bitN; rw [if_pos (by omega)]
    refine .r <| .w 18 .mvI <| .w 19 (.bxor (M := 4294967296) rfl rfl (b := 2197175160)) <| .w 3 .asI <| .nil ?_
    refine .end <| hK3 _ _ <| .r <| .w 20 (.addI (b := 1)) <| .w 10 .mvI <| .nil ?_
    refine .end <| hJ1 _ _ _ ⟨k + 1, _, ⟨rfl, rfl, rfl, rfl, rfl, rfl, trivial⟩, ok.n1.n1, by omega, hnx, rfl⟩ (by omega)
  have hnx : cc / 2 ^ 1 = stN (k + 1) i := by show _ = bitN (stN k i); rw [← hcc]; unfold bitN; rw [if_neg (by omega)]
  refine .skip <| .end <| hK3 _ _ <| .r <| .w 20 (.addI (b := 1)) <| .w 10 .mvI <| .nil ?_
  refine .end <| hJ1 _ _ _ ⟨k + 1, _, ⟨rfl, rfl, rfl, rfl, rfl, rfl, trivial⟩, ok.n1.n1, by omega, hnx, rfl⟩ (by omega)

theorem and15_lt (c : Nat) : c &&& 15 < 16 := by rw [and15]; omega

set_option maxRecDepth 100000 in
set_option maxHeartbeats 2000000 in
theorem sum_any {h : Heap} {F E : Nat → Prop} {a : Option Addr} {c : Nat} {L : List (List UInt8)} (hl : RdL h F E (a, L.length, c) L) :
    HC Try.prog 115 #[.slice a L.length c] h (fun v h' => v = .int .u32 ((sumN L.flatten : Nat) : Int) ∧ Ext h h') := by
  have hc2 := hl.m
  have hc1 : L.length ≤ c := hl.c
  simp only at hc2
  have ok := (Hp.nil h none_).arg hl
  refine HC.go Try.func115 44 ?_
  refine .seq <| .r <| .w 2 .asI <| .nil ?_
  refine .seq <| .r <| .c' 9 .func table_any ?_
  rintro _ η1 ⟨rfl, hx⟩
  have ok := ok.ext hx
  refine .a' 3 (.alA T.zr181 ok) ?_
  rintro _ η2 ⟨pb1, rfl, ok, xe⟩
  refine .ur' (.stW (vs := tabN.map w32) T.sz181 ok (oneL rfl)) ?_
  rintro η3 ⟨ok, cg⟩
  refine .nil ?_
  refine .seq <| .r <| .w 4 .asI <| .nil ?_
  refine .seq <| .seq <| .r <| .w 10 .mvS <| .w 11 (.len T.el143) <| .w 12 .mvI <| .nil ?_
  refine .block fun K0 hK0 => .loop (fun m s hh => ∃ (i cc : Nat), Has s [(3, .pointer (some ⟨pb1, 0, none⟩)), (4, .int .u32 (cc : Int)), (10, .slice a L.length c), (11, .int .i64 (L.length : Int)), (12, .int .i64 (i : Int))] ∧ Hp h none_ [boxI pb1 181 (tabN.map w32)] [rdI (fun j => F j ∧ j < h.size) (fun j => E j ∧ j < h.size) (a, L.length, c) L] hh ∧ i ≤ L.length ∧ cc = crcN 4294967295 (L.take i).flatten ∧ m = L.length - i) ?_ ?_
  · exact ⟨_, 0, 4294967295, ⟨rfl, rfl, rfl, rfl, rfl, trivial⟩, ok, Nat.zero_le _, rfl, rfl⟩
  rintro _ _ η4 ⟨i, cc, hs, ok, hi, hcc, rfl⟩ J0 hJ0
  refine .frame hs fun τ => ?_
  refine .seq <| .r <| .w 13 .lss <| .nil ?_
  refine .seq <| .cdr (fun C0 => ?_) (fun C0 => ?_)
  · --
    have hil : i = L.length := by omega
    rw [hil, List.take_length] at hcc
    have hcl : cc < 4294967296 := by rw [hcc]; exact crcN_lt (by decide) _
    refine .exit <| hK0 _ _ <| .seq <| .r <| .w 42 .mvI <| .w 43 (.cpl (M := 4294967296) rfl rfl) <| .w 2 .asI <| .nil ?_
    refine .ret ⟨.int .u32 (((4294967295 - cc) : Nat) : Int), Res.one rfl rfl, ⟨by rw [hcc, sumN_def], ok.chg⟩⟩
  have hil : i < L.length := by omega
  refine .skip <| .seq <| .block fun K1 hK1 => .seq <| .r <| ?_
  obtain ⟨bb1, oo1, rfl, fb1⟩ := ok.r0.pos (by omega)
  refine .w 14 (.ix1 i T.el143 T.sz22) <| ?_
  obtain ⟨ya1, yc1, he1, hr1⟩ := ok.r0.row (i := i) (by omega)
  have ok := ok.d0 (rdI (fun j => E j ∧ j < h.size) (fun j => E j ∧ j < h.size) (ya1, L[i].length, yc1) (L[i])) hr1 (fun _ h => .inr (h.elim id id))
  refine .w 15 (.ld T.ag22 he1) <| .w 6 .asS <| .nil ?_
  refine .seq <| ?_
  have hrc : L[i].length ≤ _ := ok.r0.c
  have hrm := ok.r0.m
  simp only at hrc hrm
  refine .r <| .w 16 .mvS <| .w 17 (.len T.el22) <| .w 18 .mvI <| .nil ?_
  refine .block fun K2 hK2 => .loop (fun m s hh => ∃ (j cc : Nat), Has s [(3, .pointer (some ⟨pb1, 0, none⟩)), (4, .int .u32 (cc : Int)), (10, .slice (some ⟨bb1, oo1, none⟩) L.length c), (11, .int .i64 (L.length : Int)), (12, .int .i64 (i : Int)), (16, .slice ya1 (L[i].length) yc1), (17, .int .i64 ((L[i].length : Nat) : Int)), (18, .int .i64 (j : Int))] ∧ Hp h none_ [boxI pb1 181 (tabN.map w32)] [rdI (fun j => E j ∧ j < h.size) (fun j => E j ∧ j < h.size) (ya1, L[i].length, yc1) (L[i]), rdI (fun j => F j ∧ j < h.size) (fun j => E j ∧ j < h.size) (some ⟨bb1, oo1, none⟩, L.length, c) L] hh ∧ j ≤ L[i].length ∧ cc = crcN 4294967295 ((L.take i).flatten ++ L[i].take j) ∧ m = L[i].length - j) ?_ ?_
  · exact ⟨_, 0, _, ⟨rfl, rfl, rfl, rfl, rfl, rfl, rfl, rfl, trivial⟩, ok, Nat.zero_le _, by simp [hcc], rfl⟩
  rintro _ _ η5 ⟨j, cc, hs, ok, hj, hcc, rfl⟩ J1 hJ1
  refine .frame hs fun τ => ?_
  refine .seq <| .r <| .w 19 .lss <| .nil ?_
  refine .seq <| .cdr (fun C1 => ?_) (fun C1 => ?_)
  · --
    have hjl : j = L[i].length := by omega
    rw [hjl, List.take_length, ← flat_snoc hil] at hcc
    refine .exit <| hK2 _ _ <| .end <| hK1 _ _ <| .r <| .w 41 (.addI (b := 1)) <| .w 12 .mvI <| .nil ?_
    refine .end <| hJ0 _ _ _ ⟨i + 1, _, ⟨rfl, rfl, rfl, rfl, rfl, trivial⟩, ok.tR, by omega, hcc, rfl⟩ (by omega)
  have hjl : j < L[i].length := by omega
  have hcl : cc < 4294967296 := by rw [hcc]; exact crcN_lt (by decide) _
  have hxl := byte_lt L[i][j]
  have hyl := byte32 hcl L[i][j]
  have hs1 := four_step (c := cc ^^^ L[i][j].toNat) rfl rfl
  have hzl := stN_lt hyl 4
  have hs2 := four_step (c := stN 4 (cc ^^^ L[i][j].toNat)) rfl rfl
  have hw1 := stN_lt (c := (cc ^^^ L[i][j].toNat) &&& 15) (by have := and15_lt (cc ^^^ L[i][j].toNat); omega) 4
  have hw2 := stN_lt (c := stN 4 (cc ^^^ L[i][j].toNat) &&& 15) (by have := and15_lt (stN 4 (cc ^^^ L[i][j].toNat)); omega) 4
  have hs3 : stN 8 (cc ^^^ L[i][j].toNat) = stN 4 (stN 4 (cc ^^^ L[i][j].toNat)) := stN_add 4 _ 4
  have hsn : crcN 4294967295 ((L.take i).flatten ++ L[i].take (j + 1)) = stN 4 (stN 4 (cc ^^^ L[i][j].toNat)) := by rw [take_next hjl, ← List.append_assoc, crcN_snoc, ← hcc, hs3]
  refine .skip <| .seq <| .block fun K3 hK3 => .seq <| .r <| ?_
  obtain ⟨bb2, oo2, rfl, fb2⟩ := ok.r0.pos (by omega)
  refine .w 20 (.ix1 j T.el22 T.sz5) <| .w 21 (.ld T.ag5 (ok.r0.u8 (i := j) (by omega))) <| .w 8 .asI <| .nil ?_
  refine .seq <| .r <| .w 22 .mvI <| .w 23 .mvI <| .w 24 (.cvs T.in145 T.in5 (M := 4294967296) rfl rfl) <| .w 25 (.bxor (M := 4294967296) rfl rfl) <| .w 4 .asI <| .nil ?_
  refine .seq <| .r <| .w 26 .mvI <| .w 27 (.shrn (M := 4294967296) rfl (b := 4)) <| .w 28 .mvI <| .w 29 (.band (M := 4294967296) rfl rfl (b := 15)) <| .w 30 (.ixa ((cc ^^^ (L[i])[j].toNat) &&& 15) T.ar181 T.sz145 (hi := by (have := and15_lt (cc ^^^ L[i][j].toNat); omega))) <| .w 31 (.ldx (o := 0 + ((cc ^^^ (L[i])[j].toNat) &&& 15)) (v := .int .u32 ((stN 4 ((cc ^^^ (L[i])[j].toNat) &&& 15) : Nat) : Int)) T.ag145 ok.m0 (hv := by rw [Nat.zero_add, List.getElem?_map, tabN_at (and15_lt _)]; rfl)) <| .w 32 (.bxor (M := 4294967296) rfl rfl (b := (stN 4 ((cc ^^^ (L[i])[j].toNat) &&& 15))) (hb := by exact hw1)) <| ?_
  rw [show (((cc ^^^ (L[i])[j].toNat) / 2 ^ 4) ^^^ (stN 4 ((cc ^^^ (L[i])[j].toNat) &&& 15))) = stN 4 (cc ^^^ L[i][j].toNat) from hs1]
  refine .w 4 .asI <| .nil ?_
  refine .r <| .w 33 .mvI <| .w 34 (.shrn (M := 4294967296) rfl (b := 4)) <| .w 35 .mvI <| .w 36 (.band (M := 4294967296) rfl rfl (b := 15)) <| .w 37 (.ixa (stN 4 (cc ^^^ L[i][j].toNat) &&& 15) T.ar181 T.sz145 (hi := by (have := and15_lt (stN 4 (cc ^^^ L[i][j].toNat)); omega))) <| .w 38 (.ldx (o := 0 + (stN 4 (cc ^^^ L[i][j].toNat) &&& 15)) (v := .int .u32 ((stN 4 (stN 4 (cc ^^^ L[i][j].toNat) &&& 15) : Nat) : Int)) T.ag145 ok.m0 (hv := by rw [Nat.zero_add, List.getElem?_map, tabN_at (and15_lt _)]; rfl)) <| .w 39 (.bxor (M := 4294967296) rfl rfl (b := (stN 4 (stN 4 (cc ^^^ L[i][j].toNat) &&& 15))) (hb := by exact hw2)) <| ?_
  rw [show ((stN 4 (cc ^^^ L[i][j].toNat) / 2 ^ 4) ^^^ (stN 4 (stN 4 (cc ^^^ L[i][j].toNat) &&& 15))) = stN 4 (stN 4 (cc ^^^ L[i][j].toNat)) from hs2]
  refine .w 4 .asI <| .nil ?_
  refine .end <| hK3 _ _ <| .r <| .w 40 (.addI (b := 1)) <| .w 18 .mvI <| .nil ?_
  refine .end <| hJ1 _ _ _ ⟨j + 1, _, ⟨rfl, rfl, rfl, rfl, rfl, rfl, rfl, rfl, trivial⟩, ok, by omega, hsn.symm, rfl⟩ (by omega)

set_option maxRecDepth 100000 in
set_option maxHeartbeats 2000000 in
theorem next_any {h : Heap} {F E : Nat → Prop} {a : Option Addr} {c p : Nat} {l : List UInt8} (hp : p < 18446744073709551616) (hl : RdL h F E (a, l.length, c) l) :
    HC Try.prog 90 #[.int .u64 (p : Int), .slice a l.length c] h (fun v h' => v = .int .u64 ((nextN p l : Nat) : Int) ∧ h' = h) := by
  have hc2 := hl.m
  have hc1 : l.length ≤ c := hl.c
  simp only at hc2
  refine HC.go Try.func90 20 ?_
  refine .seq <| .r <| .w 4 .asI <| .nil ?_
  refine .seq <| .seq <| .r <| .w 7 .mvS <| .w 8 (.len T.el22) <| .w 9 .mvI <| .nil ?_
  refine .block fun K0 hK0 => .loop (fun m s hh => ∃ (i q : Nat), Has s [(0, .int .u64 (q : Int)), (7, .slice a l.length c), (8, .int .i64 (l.length : Int)), (9, .int .i64 (i : Int))] ∧ h = hh ∧ i ≤ l.length ∧ q = nextN p (l.take i) ∧ m = l.length - i) ?_ ?_
  · exact ⟨_, 0, p, ⟨rfl, rfl, rfl, rfl, trivial⟩, rfl, Nat.zero_le _, rfl, rfl⟩
  rintro _ _ _ ⟨i, q, hs, rfl, hi, hq, rfl⟩ J0 hJ0
  refine .frame hs fun τ => ?_
  refine .seq <| .r <| .w 10 .lss <| .nil ?_
  refine .seq <| .cdr (fun C0 => ?_) (fun C0 => ?_)
  · --
    have hil : i = l.length := by omega
    rw [hil, List.take_length] at hq
    refine .exit <| hK0 _ _ <| .seq <| .r <| .w 19 .mvI <| .w 4 .asI <| .nil ?_
    refine .ret ⟨.int .u64 (q : Int), Res.one rfl rfl, ⟨by rw [hq], rfl⟩⟩
  have hil : i < l.length := by omega
  have hql : q < 18446744073709551616 := by rw [hq]; exact nextN_lt hp _
  have hxl := byte_lt l[i]
  have hsn : nextN p (l.take (i + 1)) = nextB q l[i] := by rw [take_next hil, nextN_snoc, hq]
  refine .skip <| .seq <| .block fun K1 hK1 => .seq <| .r <| ?_
  obtain ⟨bb1, oo1, rfl, fb1⟩ := hl.pos (by omega)
  refine .w 11 (.ix1 i T.el22 T.sz5) <| .w 12 (.ld T.ag5 (hl.u8 (i := i) (by omega))) <| .w 6 .asI <| .nil ?_
  refine .r <| .w 13 .mvI <| .w 14 .mvI <| .w 15 (.cvs T.in25 T.in5 (M := 18446744073709551616) rfl rfl) <| .w 16 (.bxor (M := 18446744073709551616) rfl rfl) <| .w 17 (.muln (M := 18446744073709551616) rfl rfl (b := 1099511628211)) <| .w 0 .asI <| .nil ?_
  refine .end <| hK1 _ _ <| .r <| .w 18 (.addI (b := 1)) <| .w 9 .mvI <| .nil ?_
  refine .end <| hJ0 _ _ _ ⟨i + 1, _, ⟨rfl, rfl, rfl, rfl, trivial⟩, rfl, by omega, hsn.symm, rfl⟩ (by omega)

set_option maxRecDepth 100000 in
set_option maxHeartbeats 2000000 in
theorem rnext_any {h : Heap} {F E : Nat → Prop} {a : Option Addr} {c p : Nat} {l : List UInt8} (hp : p < 18446744073709551616) (hl : RdL h F E (a, l.length, c) l) :
    HC Try.prog 87 #[.int .u64 (p : Int), .slice a l.length c] h (fun v h' => v = .int .u64 ((nextN p l : Nat) : Int) ∧ h' = h) := by
  have hc2 := hl.m
  have hc1 : l.length ≤ c := hl.c
  simp only at hc2
  refine HC.go Try.func87 23 ?_
  refine .seq <| .r <| .w 4 .asI <| .nil ?_
  refine .seq <| .r <| .w 7 .mvI <| .w 5 .asI <| .nil ?_
  refine .seq <| .seq <| .r <| .w 6 .asI <| .nil ?_
  refine .block fun K0 hK0 => .loop (fun m s hh => ∃ (i q : Nat), Has s [(1, .slice a l.length c), (5, .int .u64 (q : Int)), (6, .int .i64 (i : Int))] ∧ h = hh ∧ i ≤ l.length ∧ q = nextN p (l.take i) ∧ m = l.length - i) ?_ ?_
  · exact ⟨_, 0, p, ⟨rfl, rfl, rfl, trivial⟩, rfl, Nat.zero_le _, rfl, rfl⟩
  rintro _ _ _ ⟨i, q, hs, rfl, hi, hq, rfl⟩ J0 hJ0
  refine .frame hs fun τ => ?_
  refine .seq <| .seq <| .r <| .w 8 .mvI <| .w 9 .mvS <| .w 10 (.len T.el22) <| .w 11 .lss <| .nil ?_
  refine .cdr (fun C0 => ?_) (fun C0 => ?_)
  · --
    have hil : i = l.length := by omega
    rw [hil, List.take_length] at hq
    refine .exit <| hK0 _ _ <| .seq <| .r <| .w 22 .mvI <| .w 4 .asI <| .nil ?_
    refine .ret ⟨.int .u64 (q : Int), Res.one rfl rfl, ⟨by rw [hq], rfl⟩⟩
  have hil : i < l.length := by omega
  have hql : q < 18446744073709551616 := by rw [hq]; exact nextN_lt hp _
  have hxl := byte_lt l[i]
  have hsn : nextN p (l.take (i + 1)) = nextB q l[i] := by rw [take_next hil, nextN_snoc, hq]
  refine .skip <| .seq <| .block fun K1 hK1 => .r <| .w 14 .mvI <| .w 15 .mvS <| .w 16 .mvI <| ?_
  obtain ⟨bb1, oo1, rfl, fb1⟩ := hl.pos (by omega)
  refine .w 17 (.ix1 i T.el22 T.sz5) <| .w 18 (.ld T.ag5 (hl.u8 (i := i) (by omega))) <| .w 19 (.cvs T.in25 T.in5 (M := 18446744073709551616) rfl rfl) <| .w 20 (.bxor (M := 18446744073709551616) rfl rfl) <| .w 21 (.muln (M := 18446744073709551616) rfl rfl (b := 1099511628211)) <| .w 5 .asI <| .nil ?_
  refine .end <| hK1 _ _ <| .r <| .w 12 .mvI <| .w 13 (.addI (b := 1)) <| .w 6 .asI <| .nil ?_
  refine .end <| hJ0 _ _ _ ⟨i + 1, _, ⟨rfl, rfl, rfl, trivial⟩, rfl, by omega, hsn.symm, rfl⟩ (by omega)

set_option maxRecDepth 100000 in
set_option maxHeartbeats 2000000 in
theorem rsum_any {h : Heap} {F E : Nat → Prop} {a : Option Addr} {c : Nat} {l : List UInt8} (hl : RdL h F E (a, l.length, c) l) :
    HC Try.prog 96 #[.slice a l.length c] h (fun v h' => v = .int .u32 ((sumN l : Nat) : Int) ∧ h' = h) := by
  have hc2 := hl.m
  have hc1 : l.length ≤ c := hl.c
  simp only at hc2
  refine HC.go Try.func96 33 ?_
  refine .seq <| .r <| .w 2 .asI <| .nil ?_
  refine .seq <| .r <| .w 3 .asI <| .nil ?_
  refine .seq <| .seq <| .r <| .w 4 .asI <| .nil ?_
  refine .block fun K0 hK0 => .loop (fun m s hh => ∃ (i cc : Nat), Has s [(0, .slice a l.length c), (3, .int .u32 (cc : Int)), (4, .int .i64 (i : Int))] ∧ h = hh ∧ i ≤ l.length ∧ cc = crcN 4294967295 (l.take i) ∧ m = l.length - i) ?_ ?_
  · exact ⟨_, 0, 4294967295, ⟨rfl, rfl, rfl, trivial⟩, rfl, Nat.zero_le _, rfl, rfl⟩
  rintro _ _ _ ⟨i, cc, hs, rfl, hi, hcc, rfl⟩ J0 hJ0
  refine .frame hs fun τ => ?_
  refine .seq <| .seq <| .r <| .w 6 .mvI <| .w 7 .mvS <| .w 8 (.len T.el22) <| .w 9 .lss <| .nil ?_
  refine .cdr (fun C0 => ?_) (fun C0 => ?_)
  · --
    have hil : i = l.length := by omega
    rw [hil, List.take_length] at hcc
    have hcl : cc < 4294967296 := by rw [hcc]; exact crcN_lt (by decide) _
    refine .exit <| hK0 _ _ <| .seq <| .r <| .w 31 .mvI <| .w 32 (.subn (M := 4294967296) rfl rfl (a := 4294967295)) <| .w 2 .asI <| .nil ?_
    refine .ret ⟨.int .u32 (((4294967295 - cc) : Nat) : Int), Res.one rfl rfl, ⟨by rw [hcc, sumN_def], rfl⟩⟩
  have hil : i < l.length := by omega
  have hcl : cc < 4294967296 := by rw [hcc]; exact crcN_lt (by decide) _
  have hxl := byte_lt l[i]
  have hyl := byte32 hcl l[i]
  have hsn : crcN 4294967295 (l.take (i + 1)) = stN 8 (cc ^^^ l[i].toNat) := by rw [take_next hil, crcN_snoc, ← hcc]
  refine .skip <| .seq <| .block fun K1 hK1 => .seq <| .r <| .w 12 .mvI <| .w 13 .mvS <| .w 14 .mvI <| ?_
  obtain ⟨bb1, oo1, rfl, fb1⟩ := hl.pos (by omega)
  refine .w 15 (.ix1 i T.el22 T.sz5) <| .w 16 (.ld T.ag5 (hl.u8 (i := i) (by omega))) <| .w 17 (.cvs T.in145 T.in5 (M := 4294967296) rfl rfl) <| .w 18 (.bxor (M := 4294967296) rfl rfl) <| .w 3 .asI <| .nil ?_
  refine .seq <| .r <| .w 5 .asI <| .nil ?_
  refine .block fun K2 hK2 => .loop (fun m s hh => ∃ (k dd : Nat), Has s [(0, .slice (some ⟨bb1, oo1, none⟩) l.length c), (3, .int .u32 (dd : Int)), (4, .int .i64 (i : Int)), (5, .int .i64 (k : Int))] ∧ h = hh ∧ k ≤ 8 ∧ dd = stN k (cc ^^^ l[i].toNat) ∧ m = 8 - k) ?_ ?_
  · exact ⟨_, 0, _, ⟨rfl, rfl, rfl, rfl, trivial⟩, rfl, Nat.zero_le _, rfl, rfl⟩
  rintro _ _ _ ⟨k, dd, hs, rfl, hk, hdd, rfl⟩ J1 hJ1
  refine .frame hs fun τ => ?_
  refine .seq <| .seq <| .r <| .w 19 .mvI <| .w 20 .lss <| .nil ?_
  refine .cdr (fun C1 => ?_) (fun C1 => ?_)
  · --
    have hk8 : k = 8 := by omega
    rw [hk8] at hdd
    refine .exit <| hK2 _ _ <| .end <| hK1 _ _ <| .r <| .w 10 .mvI <| .w 11 (.addI (b := 1)) <| .w 4 .asI <| .nil ?_
    refine .end <| hJ0 _ _ _ ⟨i + 1, _, ⟨rfl, rfl, rfl, trivial⟩, rfl, by omega, by rw [hdd, hsn], rfl⟩ (by omega)
  have hdl : dd < 4294967296 := by rw [hdd]; exact stN_lt hyl k
  refine .skip <| .seq <| .block fun K3 hK3 => .seq <| .r <| .w 23 .mvI <| .w 24 (.remn (b := 2)) <| .w 25 .eql <| .nil ?_
  refine .cd (fun C2 => ?_) (fun C2 => ?_)
  · --
    have hnx : dd / 2 ^^^ 2197175160 = stN (k + 1) (cc ^^^ l[i].toNat) := by show _ = bitN (stN k _); rw [← hdd]; unfold bitN; rw [if_pos (by omega)]
    refine .r <| .w 26 .mvI <| .w 27 (.quon (M := 4294967296) rfl rfl (b := 2)) <| .w 28 (.bxor (M := 4294967296) rfl rfl (b := 2197175160)) <| .w 3 .asI <| .nil ?_
    refine .end <| hK3 _ _ <| .r <| .w 21 .mvI <| .w 22 (.addI (b := 1)) <| .w 5 .asI <| .nil ?_
    refine .end <| hJ1 _ _ _ ⟨k + 1, _, ⟨rfl, rfl, rfl, rfl, trivial⟩, rfl, by omega, hnx, rfl⟩ (by omega)
  have hnx : dd / 2 = stN (k + 1) (cc ^^^ l[i].toNat) := by show _ = bitN (stN k _); rw [← hdd]; unfold bitN; rw [if_neg (by omega)]
  refine .r <| .w 29 .mvI <| .w 30 (.quon (M := 4294967296) rfl rfl (b := 2)) <| .w 3 .asI <| .nil ?_
  refine .end <| hK3 _ _ <| .r <| .w 21 .mvI <| .w 22 (.addI (b := 1)) <| .w 5 .asI <| .nil ?_
  refine .end <| hJ1 _ _ _ ⟨k + 1, _, ⟨rfl, rfl, rfl, rfl, trivial⟩, rfl, by omega, hnx, rfl⟩ (by omega)

end Go.Proofs.Ytpebbkhainpfaaa
