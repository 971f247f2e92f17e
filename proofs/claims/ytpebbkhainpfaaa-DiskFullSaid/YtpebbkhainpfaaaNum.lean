/- Numbers in bytes: num.Fixed, num.Read, bytes.Join, num.Join, and the document's Fixed and Read. Conditions: the slices are readable, the sizes 1 to 8. -/
import Derived.Test.YtpebbkhainpfaaaTy
import Derived.Test.YtpebbkhainpfaaaHlBits
namespace Go.Proofs.Ytpebbkhainpfaaa
open Go Go.HL

/-- The lowest bytes of a number, the highest one first; and back. -/
def fixedN (n size : Nat) : List UInt8 := (List.range size).map fun j => UInt8.ofNat (n / 256 ^ (size - 1 - j))
theorem fixedN_len (n size : Nat) : (fixedN n size).length = size := by simp [fixedN]
def beN (l : List UInt8) : Nat := l.foldl (fun n x => n * 256 + x.toNat) 0
def rdN (b : List UInt8) (p k : Nat) : Nat := beN ((b.drop p).take k)
theorem beN_snoc (l : List UInt8) (x : UInt8) : beN (l ++ [x]) = beN l * 256 + x.toNat := by simp [beN]
theorem beN_lt (l : List UInt8) : beN l < 256 ^ l.length := by
  suffices h : ∀ n, beN (l.take n) < 256 ^ (l.take n).length by have := h l.length; simpa using this
  intro n
  induction n with
  | zero => simp [beN]
  | succ n ih =>
    by_cases hn : n < l.length
    · rw [take_next hn, beN_snoc, List.length_append, List.length_singleton, Nat.pow_succ]
      have := l[n].toNat_lt
      have h2 : beN (l.take n) * 256 + 256 ≤ 256 ^ (l.take n).length * 256 := by rw [← Nat.succ_mul]; exact Nat.mul_le_mul_right _ ih
      omega
    · rw [List.take_of_length_le (by omega)] at ih ⊢; exact ih
theorem bv_ofNat (m : Nat) : bv (UInt8.ofNat m) = .int .u8 ((m % 256 : Nat) : Int) := by simp [bv]
theorem set_bv {zs : List UInt8} {q m : Nat} : (zs.map bv).set q (.int .u8 ((m % 256 : Nat) : Int)) = (zs.set q (UInt8.ofNat m)).map bv := by rw [List.map_set, bv_ofNat]
theorem shl8_or {m x : Nat} (hm : m < 72057594037927936) (hx : x < 256) : m * 2 ^ 8 % 18446744073709551616 ||| x = m * 256 + x := by
  have h1 : m * 2 ^ 8 % 18446744073709551616 = m <<< 8 := by rw [Nat.shiftLeft_eq]; exact Nat.mod_eq_of_lt (by omega)
  rw [h1, ← Nat.shiftLeft_add_eq_or_of_lt (by simpa using hx), Nat.shiftLeft_eq]
theorem pow256 {j k : Nat} (h : j ≤ k) : 256 ^ j ≤ 256 ^ k := Nat.pow_le_pow_right (by omega) h

set_option maxRecDepth 100000 in
set_option maxHeartbeats 2000000 in
theorem fixed_any {h : Heap} {n size : Nat} (hn : n < 18446744073709551616) (h1 : 1 ≤ size) (h8 : size ≤ 8) :
    HC Try.prog 59 #[.int .u64 (n : Int), .int .i64 (size : Int)] h (fun v h' => Own h h' 1 5 v ((fixedN n size).map bv)) := by
  have ok := Hp.nil h none_
  refine HC.go Try.func59 32 ?_
  refine .seq <| .r <| .w 4 .asS <| .nil ?_
  refine .seq <| .seq <| .r <| .w 7 .mvI <| .w 8 .lss <| .w 9 .mvB <| .sd (fun G9 => ?_) (fun G9 => ?_)
  ·
    omega
  refine .w 10 .mvI <| .w 11 .gtr <| .w 12 .pkf <| .nil ?_
  refine .cd (fun C0 => ?_) (fun C0 => ?_)
  · --
    omega
  refine .skip <| .seq <| .r <| .w 13 .mvI <| .a' 14 (.mks size size T.el22 T.sz5 T.by5 T.zr5 ok) ?_
  rintro _ η1 ⟨pb1, rfl, ok, xe⟩
  have ok := ok.cx (ys := (List.replicate size (0 : UInt8)).map bv) (zeros8 _)
  refine .w 5 .asS <| .nil ?_
  refine .seq <| .seq <| .r <| .w 15 .mvI <| .w 16 .mvI <| .nil ?_
  refine .block fun K0 hK0 => .loop (fun m s hh => ∃ (i : Nat) (zs : List UInt8), Has s [(0, .int .u64 (n : Int)), (1, .int .i64 (size : Int)), (5, .slice (some ⟨pb1, 0, none⟩) size size), (15, .int .i64 (size : Int)), (16, .int .i64 (i : Int))] ∧ Hp h none_ [capI 1 5 (some ⟨pb1, 0, none⟩, size, size) (zs.map bv)] [] hh ∧ i ≤ size ∧ zs.length = size ∧ (∀ j, j < i → zs[size - 1 - j]? = some (UInt8.ofNat (n / 256 ^ j))) ∧ m = size - i) ?_ ?_
  · exact ⟨_, 0, List.replicate size 0, ⟨rfl, rfl, rfl, rfl, rfl, trivial⟩, ok.cx (by simp), by omega, by simp, fun j h => by omega, rfl⟩
  rintro _ _ η2 ⟨i, zs, hs, ok, hi, hzl, hz, rfl⟩ J0 hJ0
  refine .frame hs fun τ => ?_
  refine .seq <| .r <| .w 17 .lss <| .nil ?_
  refine .seq <| .cdr (fun C1 => ?_) (fun C1 => ?_)
  · --
    have hil : i = size := by omega
    have hfin : zs = fixedN n size := List.ext_getElem? fun q => by
      unfold fixedN
      by_cases hq : q < size
      · have := hz (size - 1 - q) (by omega)
        rw [show size - 1 - (size - 1 - q) = q by omega] at this
        rw [this]; simp [hq]
      · rw [List.getElem?_eq_none (by omega), List.getElem?_eq_none (by simp; omega)]
    refine .exit <| hK0 _ _ <| .seq <| .r <| .w 31 .mvS <| .w 4 .asS <| .nil ?_
    refine .ret ⟨.slice (some ⟨pb1, 0, none⟩) size size, Res.one rfl rfl, by have h2 := ok.toOwn; rwa [hfin] at h2⟩
  have hil : i < size := by omega
  have hz2 : ∀ j, j < i + 1 → (zs.set (size - 1 - i) (UInt8.ofNat (n / 256 ^ i)))[size - 1 - j]? = some (UInt8.ofNat (n / 256 ^ j)) := fun j hj => by
    rw [List.getElem?_set]
    by_cases e : j = i
    · subst e; rw [if_pos rfl, if_pos (by omega)]
    · rw [if_neg (by omega)]; exact hz j (by omega)
  refine .skip <| .seq <| .block fun K1 hK1 => .seq <| .r <| .w 18 .mvI <| .w 6 .asI <| .nil ?_
  refine .r <| .w 19 .mvS <| .w 20 .mvI <| .w 21 .sub <| .w 22 .mvI <| .w 23 .sub <| .w 24 .mvI <| .w 25 .mvI <| .w 26 (.mulI (a := 8)) <| .w 27 (.shrn (M := 18446744073709551616) rfl (ha := by omega)) <| .w 28 (.cvm T.in5 T.in25 (M := 256) rfl rfl) <| .w 29 (.ix1 (size - 1 - i) T.el22 T.sz5) <| .ur' (.sxI (q := (size - 1 - i)) T.sz5 ok) ?_
  rintro η3 ⟨ok, cg⟩
  refine .nil ?_
  refine .end <| hK1 _ _ <| .r <| .w 30 (.addI (b := 1)) <| .w 16 .mvI <| .nil ?_
  refine .end <| hJ0 _ _ _ ⟨i + 1, zs.set (size - 1 - i) (UInt8.ofNat (n / 256 ^ i)), ⟨rfl, rfl, rfl, rfl, rfl, trivial⟩, ok.cx (by first | rfl | (have e : 2 ^ (8 * i) = 256 ^ i := by rw [Nat.pow_mul]); rw [e]; exact set_bv), by omega, by simp [hzl], hz2, rfl⟩ (by omega)

set_option maxRecDepth 100000 in
set_option maxHeartbeats 2000000 in
theorem rfixed_any {h : Heap} {n size : Nat} (hn : n < 18446744073709551616) (h1 : 1 ≤ size) (h8 : size ≤ 8) :
    HC Try.prog 61 #[.int .u64 (n : Int), .int .i64 (size : Int)] h (fun v h' => Own h h' 1 5 v ((fixedN n size).map bv)) := by
  have ok := Hp.nil h none_
  refine HC.go Try.func61 30 ?_
  refine .seq <| .r <| .w 4 .asS <| .nil ?_
  refine .seq <| .seq <| .r <| .w 7 .mvI <| .w 8 .lss <| .w 9 .mvB <| .sd (fun G9 => ?_) (fun G9 => ?_)
  ·
    omega
  refine .w 10 .mvI <| .w 11 .gtr <| .w 12 .pkf <| .nil ?_
  refine .cd (fun C0 => ?_) (fun C0 => ?_)
  · --
    omega
  refine .skip <| .seq <| .r <| .w 13 .mvI <| .a' 14 (.mks size size T.el22 T.sz5 T.by5 T.zr5 ok) ?_
  rintro _ η1 ⟨pb1, rfl, ok, xe⟩
  have ok := ok.cx (ys := (List.replicate size (0 : UInt8)).map bv) (zeros8 _)
  refine .w 5 .asS <| .nil ?_
  refine .seq <| .seq <| .r <| .w 15 .mvI <| .w 16 .sub <| .w 6 .asI <| .nil ?_
  refine .block fun K0 hK0 => .loop (fun m s hh => ∃ (i mm : Nat) (z : Int) (zs : List UInt8), Has s [(0, .int .u64 (mm : Int)), (5, .slice (some ⟨pb1, 0, none⟩) size size), (6, .int .i64 z)] ∧ Hp h none_ [capI 1 5 (some ⟨pb1, 0, none⟩, size, size) (zs.map bv)] [] hh ∧ i ≤ size ∧ z = (i : Int) - 1 ∧ mm = n / 256 ^ (size - i) ∧ zs.length = size ∧ (∀ j, i ≤ j → j < size → zs[j]? = some (UInt8.ofNat (n / 256 ^ (size - 1 - j)))) ∧ m = 0 + i) ?_ ?_
  · exact ⟨_, size, _, _, List.replicate size 0, ⟨rfl, rfl, rfl, trivial⟩, ok.cx (by simp), by omega, by omega, by simp, by simp, fun j h => by omega, rfl⟩
  rintro _ _ η2 ⟨i, mm, z, zs, hs, ok, hi, hz0, hm, hzl, hz, rfl⟩ J0 hJ0
  refine .frame hs fun τ => ?_
  refine .seq <| .seq <| .r <| .w 17 .mvI <| .w 18 .geq <| .nil ?_
  refine .cdr (fun C1 => ?_) (fun C1 => ?_)
  · --
    have hil : i = 0 := by omega
    have hfin : zs = fixedN n size := List.ext_getElem? fun q => by
      unfold fixedN
      by_cases hq : q < size
      · rw [hz q (by omega) hq]; simp [hq]
      · rw [List.getElem?_eq_none (by omega), List.getElem?_eq_none (by simp; omega)]
    refine .exit <| hK0 _ _ <| .seq <| .r <| .w 29 .mvS <| .w 4 .asS <| .nil ?_
    refine .ret ⟨.slice (some ⟨pb1, 0, none⟩) size size, Res.one rfl rfl, by have h2 := ok.toOwn; rwa [hfin] at h2⟩
  have hil : 1 ≤ i := by omega
  have hz2 : ∀ j, i - 1 ≤ j → j < size → (zs.set (i - 1) (UInt8.ofNat mm))[j]? = some (UInt8.ofNat (n / 256 ^ (size - 1 - j))) := fun j hj1 hj2 => by
    rw [List.getElem?_set]
    by_cases e : i - 1 = j
    · subst e; rw [if_pos rfl, if_pos (by omega), hm, show size - 1 - (i - 1) = size - i by omega]
    · rw [if_neg e]; exact hz j (by omega) hj2
  have hnl : mm < 18446744073709551616 := by rw [hm]; exact Nat.lt_of_le_of_lt (Nat.div_le_self _ _) hn
  refine .skip <| .seq <| .block fun K1 hK1 => .seq <| .r <| .w 21 .mvS <| .w 22 .mvI <| .w 23 .mvI <| .w 24 (.remn (b := 256)) <| .w 25 (.cvm T.in5 T.in25 (M := 256) rfl rfl) <| .w 26 (.ix1 (i - 1) T.el22 T.sz5) <| .ur' (.sxI (q := (i - 1)) T.sz5 ok) ?_
  rintro η3 ⟨ok, cg⟩
  refine .nil ?_
  refine .r <| .w 27 .mvI <| .w 28 (.quon (M := 18446744073709551616) rfl rfl (b := 256)) <| .w 0 .asI <| .nil ?_
  refine .end <| hK1 _ _ <| .r <| .w 19 .mvI <| .w 20 .sub <| .w 6 .asI <| .nil ?_
  refine .end <| hJ0 _ _ _ ⟨i - 1, _, _, zs.set (i - 1) (UInt8.ofNat mm), ⟨rfl, rfl, rfl, trivial⟩, ok.cx (by first | (simp; done) | (rw [Nat.mod_mod]; exact set_bv)), by omega, by omega, by rw [hm, Nat.div_div_eq_div_mul, ← Nat.pow_succ]; congr 2; omega, by simp [hzl], hz2, rfl⟩ (by omega)

set_option maxRecDepth 100000 in
set_option maxHeartbeats 2000000 in
theorem read_any {h : Heap} {F E : Nat → Prop} {a : Option Addr} {c : Nat} {l : List UInt8} (hl : RdL h F E (a, l.length, c) l) {p size : Nat} (h1 : 1 ≤ size) (h8 : size ≤ 8) (hp : p + size ≤ l.length) :
    HC Try.prog 111 #[.slice a l.length c, .int .i64 (p : Int), .int .i64 (size : Int)] h (fun v h' => v = .tuple #[.int .u64 ((rdN l p size : Nat) : Int), .int .i64 0] ∧ h' = h) := by
  have hc2 := hl.m
  have hc1 : l.length ≤ c := hl.c
  simp only at hc2
  obtain ⟨l2, hl2⟩ : ∃ l2, l2 = (l.drop p).take size := ⟨_, rfl⟩
  have hl2n : l2.length = size := by rw [hl2]; simp; omega
  unfold rdN
  rw [← hl2]
  refine HC.go Try.func111 53 ?_
  refine .seq <| .r <| .w 6 .asI <| .w 7 .asI <| .nil ?_
  refine .seq <| .block fun K0 hK0 => .seq <| .r <| .w 12 .mvI <| .w 13 .lss <| .w 14 .mvB <| .sd (fun G14 => ?_) (fun G14 => ?_)
  ·
    omega
  refine .w 15 .mvI <| .w 16 .gtr <| .w 17 .pkf <| .w 18 .mvB <| .sd (fun G18 => ?_) (fun G18 => ?_)
  ·
    omega
  refine .w 19 .mvI <| .w 20 .lss <| .w 21 .pkf <| .w 11 .asB <| .nil ?_
  refine .cd (fun C0 => ?_) (fun C0 => ?_)
  · --
    omega
  refine .seq <| .r <| .w 23 .mvI <| .w 24 .mvS <| .w 25 (.len T.el22) <| .w 26 .gtr <| .w 27 .mvB <| .sd (fun G27 => ?_) (fun G27 => ?_)
  ·
    omega
  refine .w 28 .mvS <| .w 29 (.len T.el22) <| .w 30 .mvI <| .w 31 .sub <| .w 32 .mvI <| .w 33 .lss <| .w 34 .pkf <| .w 22 .asB <| .nil ?_
  refine .cd (fun C1 => ?_) (fun C1 => ?_)
  · --
    omega
  refine .skip <| .end <| hK0 _ _ <| .seq <| .r <| .w 8 .asI <| .nil ?_
  refine .seq <| .seq <| .r <| .w 35 .mvS <| .w 36 .mvI <| .w 37 .mvI <| .w 38 .mvI <| .w 39 .addI <| .w 40 (.slh p (p + size) T.el22 T.sz5) <| ?_
  generalize hc1 : cutA a p c 1 = ca1
  have hk1 : RdL h F E (ca1, (p + size) - p, c - p) l2 := (by have h1 := hl.cut (i := p) (j := (p + size)) (by omega) (by omega); rw [show ((l).drop p).take ((p + size) - p) = l2 from by rw [hl2]; congr 1; omega] at h1; subst hc1; exact h1)
  refine .w 41 (.len T.el22) <| .w 42 .mvI <| .nil ?_
  refine .block fun K1 hK1 => .loop (fun m s hh => ∃ (j mm : Nat), Has s [(8, .int .u64 (mm : Int)), (40, .slice ca1 ((p + size) - p) (c - p)), (41, .int .i64 (((p + size) - p : Nat) : Int)), (42, .int .i64 (j : Int))] ∧ h = hh ∧ j ≤ l2.length ∧ mm = beN (l2.take j) ∧ m = l2.length - j) ?_ ?_
  · exact ⟨_, 0, 0, ⟨rfl, rfl, rfl, rfl, trivial⟩, rfl, Nat.zero_le _, rfl, rfl⟩
  rintro _ _ _ ⟨j, mm, hs, rfl, hj, hm, rfl⟩ J0 hJ0
  refine .frame hs fun τ => ?_
  refine .seq <| .r <| .w 43 .lss <| .nil ?_
  refine .seq <| .cdr (fun C2 => ?_) (fun C2 => ?_)
  · --
    have hjn : j = l2.length := by omega
    have htk : l2.take j = l2 := List.take_of_length_le (by omega)
    rw [htk] at hm
    refine .exit <| hK1 _ _ <| .seq <| .r <| .w 52 .mvI <| .w 6 .asI <| .w 7 .asI <| .nil ?_
    refine .ret ⟨.tuple #[.int .u64 (mm : Int), .int .i64 0], Res.two rfl rfl rfl, ⟨by rw [hm], rfl⟩⟩
  have hjl : j < l2.length := by omega
  have hlt : beN (l2.take j) < 72057594037927936 := Nat.lt_of_lt_of_le (beN_lt _) (Nat.le_trans (pow256 (k := 7) (by simp; omega)) (by decide))
  have hsn : beN (l2.take (j + 1)) = beN (l2.take j) * 256 + l2[j].toNat := by rw [take_next hjl, beN_snoc]
  refine .skip <| .seq <| .block fun K2 hK2 => .seq <| .r <| ?_
  obtain ⟨bb1, oo1, rfl, fb1⟩ := hk1.pos (by omega)
  refine .w 44 (.ix1 j T.el22 T.sz5) <| .w 45 (.ld T.ag5 (hk1.u8 (i := j) (by omega))) <| .w 10 .asI <| .nil ?_
  refine .r <| .w 46 .mvI <| .w 47 (.shln (M := 18446744073709551616) rfl rfl (b := 8)) <| .w 48 .mvI <| .w 49 (.cvs T.in25 T.in5 (M := 18446744073709551616) rfl rfl) <| .w 50 (.bor (M := 18446744073709551616) rfl rfl) <| .w 8 .asI <| .nil ?_
  refine .end <| hK2 _ _ <| .r <| .w 51 (.addI (b := 1)) <| .w 42 .mvI <| .nil ?_
  refine .end <| hJ0 _ _ _ ⟨j + 1, _, ⟨rfl, rfl, rfl, rfl, trivial⟩, rfl, by omega, by rw [hm, hsn]; exact shl8_or hlt (byte_lt _), rfl⟩ (by omega)

set_option maxRecDepth 100000 in
set_option maxHeartbeats 2000000 in
theorem rread_any {h : Heap} {F E : Nat → Prop} {a : Option Addr} {c : Nat} {l : List UInt8} (hl : RdL h F E (a, l.length, c) l) {p size : Nat} (h1 : 1 ≤ size) (h8 : size ≤ 8) (hp : p + size ≤ l.length) :
    HC Try.prog 50 #[.slice a l.length c, .int .i64 (p : Int), .int .i64 (size : Int)] h (fun v h' => v = .tuple #[.int .u64 ((rdN l p size : Nat) : Int), .int .i64 0] ∧ h' = h) := by
  have hc2 := hl.m
  have hc1 : l.length ≤ c := hl.c
  simp only at hc2
  obtain ⟨l2, hl2⟩ : ∃ l2, l2 = (l.drop p).take size := ⟨_, rfl⟩
  have hl2n : l2.length = size := by rw [hl2]; simp; omega
  unfold rdN
  rw [← hl2]
  refine HC.go Try.func50 48 ?_
  refine .seq <| .r <| .w 6 .asI <| .w 7 .asI <| .nil ?_
  refine .seq <| .seq <| .r <| .w 10 .mvI <| .w 11 .lss <| .w 12 .mvB <| .sd (fun G12 => ?_) (fun G12 => ?_)
  ·
    omega
  refine .w 13 .mvI <| .w 14 .gtr <| .w 15 .pkf <| .w 16 .mvB <| .sd (fun G16 => ?_) (fun G16 => ?_)
  ·
    omega
  refine .w 17 .mvI <| .w 18 .lss <| .w 19 .pkf <| .nil ?_
  refine .cd (fun C0 => ?_) (fun C0 => ?_)
  · --
    omega
  refine .skip <| .seq <| .seq <| .r <| .w 20 .mvI <| .w 21 .mvS <| .w 22 (.len T.el22) <| .w 23 .gtr <| .w 24 .mvB <| .sd (fun G24 => ?_) (fun G24 => ?_)
  ·
    omega
  refine .w 25 .mvS <| .w 26 (.len T.el22) <| .w 27 .mvI <| .w 28 .sub <| .w 29 .mvI <| .w 30 .lss <| .w 31 .pkf <| .nil ?_
  refine .cd (fun C1 => ?_) (fun C1 => ?_)
  · --
    omega
  refine .skip <| .seq <| .r <| .w 8 .asI <| .nil ?_
  refine .seq <| .seq <| .r <| .w 9 .asI <| .nil ?_
  refine .block fun K0 hK0 => .loop (fun m s hh => ∃ (j mm : Nat), Has s [(0, .slice a l.length c), (1, .int .i64 (p : Int)), (2, .int .i64 (size : Int)), (8, .int .u64 (mm : Int)), (9, .int .i64 (j : Int))] ∧ h = hh ∧ j ≤ l2.length ∧ mm = beN (l2.take j) ∧ m = l2.length - j) ?_ ?_
  · exact ⟨_, 0, 0, ⟨rfl, rfl, rfl, rfl, rfl, trivial⟩, rfl, Nat.zero_le _, rfl, rfl⟩
  rintro _ _ _ ⟨j, mm, hs, rfl, hj, hm, rfl⟩ J0 hJ0
  refine .frame hs fun τ => ?_
  refine .seq <| .seq <| .r <| .w 32 .mvI <| .w 33 .mvI <| .w 34 .lss <| .nil ?_
  refine .cdr (fun C2 => ?_) (fun C2 => ?_)
  · --
    have hjn : j = l2.length := by omega
    have htk : l2.take j = l2 := List.take_of_length_le (by omega)
    rw [htk] at hm
    refine .exit <| hK0 _ _ <| .seq <| .r <| .w 47 .mvI <| .w 6 .asI <| .w 7 .asI <| .nil ?_
    refine .ret ⟨.tuple #[.int .u64 (mm : Int), .int .i64 0], Res.two rfl rfl rfl, ⟨by rw [hm], rfl⟩⟩
  have hjl : j < l2.length := by omega
  have hlt : beN (l2.take j) < 72057594037927936 := Nat.lt_of_lt_of_le (beN_lt _) (Nat.le_trans (pow256 (k := 7) (by simp; omega)) (by decide))
  have hsn : beN (l2.take (j + 1)) = beN (l2.take j) * 256 + l2[j].toNat := by rw [take_next hjl, beN_snoc]
  have hlj : l[p + j] = l2[j] := by subst hl2; simp
  refine .skip <| .seq <| .block fun K1 hK1 => .r <| .w 37 .mvI <| .w 38 (.muln (M := 18446744073709551616) rfl rfl (b := 256)) <| .w 39 .mvS <| .w 40 .mvI <| .w 41 .mvI <| .w 42 .addI <| ?_
  obtain ⟨bb1, oo1, rfl, fb1⟩ := hl.pos (by omega)
  refine .w 43 (.ix1 (p + j) T.el22 T.sz5) <| .w 44 (.ld T.ag5 (hl.u8 (i := (p + j)) (by omega))) <| .w 45 (.cvs T.in25 T.in5 (M := 18446744073709551616) rfl rfl) <| .w 46 (.addn (M := 18446744073709551616) rfl rfl) <| .w 8 .asI <| .nil ?_
  refine .end <| hK1 _ _ <| .r <| .w 35 .mvI <| .w 36 (.addI (b := 1)) <| .w 9 .asI <| .nil ?_
  refine .end <| hJ0 _ _ _ ⟨j + 1, _, ⟨rfl, rfl, rfl, rfl, rfl, trivial⟩, rfl, by omega, by rw [hm, hsn, hlj]; have := byte_lt l2[j]; omega, rfl⟩ (by omega)

theorem _root_.Go.HL.Cap.clip {h : Heap} {k : Nat} {e : TypeId} {a : Option Addr} {n c : Nat} {xs : List Value} (r : Cap h k e (.slice a n c) xs) : Cap h k e (.slice a n n) xs := by
  obtain ⟨a', n', c', e1, h1, h2, h3, h4⟩ := r
  injection e1 with e1 e2 e3
  subst e1 e2 e3
  refine ⟨_, _, _, rfl, Nat.le_refl _, by omega, h3, ?_⟩
  rcases h4 with ⟨q1, q2⟩ | ⟨b, o, cs, fz, q1, q2, q3, q4⟩
  · exact .inl ⟨q1, by omega⟩
  · exact .inr ⟨b, o, cs, fz, q1, q2, by have := Nat.mul_le_mul_right k h1; omega, q4⟩
theorem _root_.Go.HL.Hp.clip {h0 h : Heap} {D : Nat → Prop} {M R : List Itm} {k : Nat} {e : TypeId} {a : Option Addr} {n c : Nat} {xs : List Value} (ok : Hp h0 D (capI k e (a, n, c) xs :: M) R h) : Hp h0 D (capI k e (a, n, n) xs :: M) R h :=
  ok.re _ (Cap.clip ok.m0) (fun j hj => by obtain ⟨o, n', c', hv⟩ := hj; injection hv with h1 h2 h3; have h4 : a = some ⟨j, o, none⟩ := h1; exact ⟨o, n, c, by rw [h4]⟩)
theorem spl_nil (cs : List Value) (o : Nat) : spl cs o [] = cs := by simp [spl]
theorem spl_end {xs zs ys : List Value} {p : Nat} (hp : p = xs.length) : spl (xs ++ zs) p ys = (xs ++ ys) ++ zs.drop ys.length := by
  subst hp
  simp [spl, List.drop_append]
theorem flat_snoc {α : Type} {L : List (List α)} {j : Nat} (hj : j < L.length) : (L.take (j + 1)).flatten = (L.take j).flatten ++ L[j] := by rw [take_next hj, List.flatten_append]; simp
theorem flat_le {α : Type} (L : List (List α)) (j : Nat) : (L.take j).flatten.length ≤ L.flatten.length := by
  have : L.flatten = (L.take j).flatten ++ (L.drop j).flatten := by rw [← List.flatten_append, List.take_append_drop]
  rw [this]; simp

set_option maxRecDepth 100000 in
set_option maxHeartbeats 2000000 in
theorem bjoin_any {h : Heap} {F E : Nat → Prop} {a : Option Addr} {c : Nat} {L : List (List UInt8)} (hl : RdL h F E (a, L.length, c) L) (hN : L.flatten.length ≤ 1000000000) :
    HC Try.prog 95 #[.slice a L.length c, .slice none 0 0] h (fun v h' => Own h h' 1 5 v (L.flatten.map bv)) := by
  have hc2 := hl.m
  have hc1 : L.length ≤ c := hl.c
  simp only at hc2
  have ok := (Hp.nil h none_).arg hl
  refine HC.go Try.func95 92 ?_
  refine .seq <| .r <| .w 4 .asS <| .nil ?_
  refine .seq <| .seq <| .r <| .w 12 .mvS <| .w 13 (.len T.el143) <| .w 14 .eql <| .nil ?_
  refine .cd (fun C0 => ?_) (fun C0 => ?_)
  · --
    have hL0 := List.eq_nil_of_length_eq_zero (show L.length = 0 by omega)
    refine .seq <| .r <| .a' 15 (.lit [] (cs := []) T.el22 T.sz5 T.zr5 ok trivial) ?_
    rintro _ η1 ⟨pb1, rfl, ok, xe⟩
    have ok := ok.cx (ys := ([] : List UInt8).map bv) rfl
    refine .w 4 .asS <| .nil ?_
    refine .ret ⟨.slice (some ⟨pb1, 0, none⟩) 0 0, Res.one rfl rfl, by have := ok.toOwn; rw [hL0]; exact this⟩
  refine .skip <| .seq <| .seq <| .r <| .w 16 .mvS <| .w 17 (.len T.el143) <| .w 18 .eql <| .nil ?_
  refine .cd (fun C1 => ?_) (fun C1 => ?_)
  · --
    have hlen : L.length = 1 := by omega
    have hfl : L.flatten = L[0] := by obtain ⟨x, hx⟩ := List.length_eq_one_iff.1 hlen; subst hx; simp
    have hll := congrArg List.length hfl
    refine .seq <| .r <| .w 19 .mvS <| ?_
    obtain ⟨bb1, oo1, rfl, fb1⟩ := ok.r0.pos (by omega)
    refine .w 20 (.ix1 0 T.el143 T.sz22) <| ?_
    obtain ⟨ya1, yc1, he1, hr1⟩ := ok.r0.row (i := 0) (by omega)
    have ok := ok.d0 (rdI (fun j => E j ∧ j < h.size) (fun j => E j ∧ j < h.size) (ya1, L[0].length, yc1) (L[0])) hr1 (fun _ h => .inr (h.elim id id))
    refine .w 21 (.ld T.ag22 he1) <| ?_
    have ok := ok.nilC (k := 1) (e := 5)
    refine .a' 22 (.app (news := (L[0]).map bv) T.el22 T.sz5 T.by5 T.zr5 ok (ok.r0).by bv_all (by simp only [List.length_map, List.length_append, List.length_take, List.length_cons, List.length_nil, List.length_replicate, List.length_range]; omega)) ?_
    rintro _ η2 ⟨ya2, yn1, yc2, rfl, ok, ap⟩
    have ok := ok.cx (ys := ((L[0])).map bv) (by simp [bv])
    obtain rfl : yn1 = ((L[0])).length := ok.lenB
    refine .w 4 .asS <| .nil ?_
    refine .ret ⟨.slice ya2 (((L[0])).length) yc2, Res.one rfl rfl, by have := ok.toOwn; rw [hfl]; simpa using this⟩
  refine .skip <| .seq <| .r <| .w 5 .asI <| .nil ?_
  refine .seq <| .seq <| .r <| .w 23 .mvS <| .w 24 (.len T.el22) <| .w 25 .gtr <| .nil ?_
  refine .cf <| .skip <| .seq <| .seq <| .r <| .w 42 .mvS <| .w 43 (.len T.el143) <| .w 44 .mvI <| .nil ?_
  refine .block fun K0 hK0 => .loop (fun m s hh => ∃ (j nn : Nat), Has s [(0, .slice a L.length c), (1, .slice none 0 0), (5, .int .i64 (nn : Int)), (42, .slice a L.length c), (43, .int .i64 (L.length : Int)), (44, .int .i64 (j : Int))] ∧ Hp h none_ [] [rdI (fun j => F j ∧ j < h.size) (fun j => E j ∧ j < h.size) (a, L.length, c) L] hh ∧ j ≤ L.length ∧ nn = (L.take j).flatten.length ∧ m = L.length - j) ?_ ?_
  · exact ⟨_, 0, 0, ⟨rfl, rfl, rfl, rfl, rfl, rfl, trivial⟩, ok, Nat.zero_le _, rfl, rfl⟩
  rintro _ _ η3 ⟨j, nn, hs, ok, hj, hnn, rfl⟩ J0 hJ0
  refine .frame hs fun τ => ?_
  refine .seq <| .r <| .w 45 .lss <| .nil ?_
  refine .seq <| .cdr (fun C4 => ?_) (fun C4 => ?_)
  · --
    have hjl : j = L.length := by omega
    have htk : L.take j = L := List.take_of_length_le (by omega)
    rw [htk] at hnn
    refine .exit <| hK0 _ _ <| .seq <| ?_
    obtain ⟨x0, L1, hL⟩ : ∃ x0 L1, L = x0 :: L1 := by cases L with | nil => exact absurd rfl C0 | cons x l => exact ⟨x, l, rfl⟩
    have hx0 : L[0]'(by omega) = x0 := by subst hL; rfl
    have hx1 := congrArg List.length hx0
    have hL1 : L.length = L1.length + 1 := by subst hL; rfl
    have hLf : L.flatten.length = x0.length + L1.flatten.length := by subst hL; simp
    refine .r <| .w 59 .mvI <| .a' 60 (.mnz nn (e := 5) Try.func116 rfl (by decide) rfl rfl T.el22 ok) ?_
    rintro _ η4 ⟨pb2, pc1, ps1, rfl, hpc, ok, xe⟩
    have hzn : ps1.length = nn := by have := (Cap.sl ok.m0).cells.1; simp only at this; omega
    refine .w 61 .mvI <| .w 62 .mvI <| .w 63 (.slhm nn nn T.el22 T.sz5) <| ?_
    have ok := ok.clip
    refine .w 8 .asS <| .nil ?_
    refine .seq <| .r <| .w 64 .mvS <| .w 65 .mvS <| ?_
    obtain ⟨bb2, oo2, rfl, fb2⟩ := ok.r0.pos (by omega)
    refine .w 66 (.ix1 0 T.el143 T.sz22) <| ?_
    obtain ⟨ya3, yc3, he2, hr2⟩ := ok.r0.row (i := 0) (by omega)
    have ok := ok.d0 (rdI (fun j => E j ∧ j < h.size) (fun j => E j ∧ j < h.size) (ya3, L[0].length, yc3) (L[0])) hr2 (fun _ h => .inr (h.elim id id))
    refine .w 67 (.ld T.ag22 he2) <| .a' 68 (.cp0 (ys := (L[0]).map bv) (m := L[0].length) T.el22 T.sz5 ok ok.r0.by bv_all) ?_
    rintro _ η5 ⟨rfl, ok, cg⟩
    refine .w 9 .asI <| .nil ?_
    refine .seq <| .seq <| .r <| .w 69 .mvS <| .w 70 (.sll 1 T.el143 T.sz22) <| ?_
    generalize hc1 : cutA (some ⟨bb2, oo2, none⟩) 1 c 1 = ca1
    have ok := ok.d1 (rdI (fun j => F j ∧ j < h.size) (fun j => E j ∧ j < h.size) (ca1, L.length - 1, c - 1) L1) (by have h1 := ok.r1.cut (i := 1) (j := L.length) (by omega) (by omega); rw [show ((L).drop 1).take (L.length - 1) = L1 from by subst hL; simp] at h1; subst hc1; exact h1) (fun _ h => h)
    refine .w 71 (.len T.el143) <| .w 72 .mvI <| .nil ?_
    refine .block fun K2 hK2 => .loop (fun m s hh => ∃ (j n2 : Nat) (zs : List Value), Has s [(1, .slice none 0 0), (8, .slice (some ⟨pb2, 0, none⟩) nn nn), (9, .int .i64 (n2 : Int)), (70, .slice ca1 (L.length - 1) (c - 1)), (71, .int .i64 ((L.length - 1 : Nat) : Int)), (72, .int .i64 (j : Int))] ∧ Hp h none_ [capI 1 5 (some ⟨pb2, 0, none⟩, nn, nn) ((x0 ++ (L1.take j).flatten).map bv ++ zs)] [rdI (fun j => F j ∧ j < h.size) (fun j => E j ∧ j < h.size) (ca1, L.length - 1, c - 1) L1, rdI (fun j => E j ∧ j < h.size) (fun j => E j ∧ j < h.size) (ya3, L[0].length, yc3) (L[0]), rdI (fun j => F j ∧ j < h.size) (fun j => E j ∧ j < h.size) (some ⟨bb2, oo2, none⟩, L.length, c) L] hh ∧ j ≤ L1.length ∧ n2 = x0.length + (L1.take j).flatten.length ∧ zs.length + n2 = nn ∧ m = L1.length - j) ?_ ?_
    · exact ⟨_, 0, _, ps1.drop (L[0].map bv).length, ⟨rfl, rfl, rfl, rfl, rfl, rfl, trivial⟩, ok.cx (by simp [hx0]), Nat.zero_le _, by simp [hx0], by simp [hx0]; omega, rfl⟩
    rintro _ _ η6 ⟨j, n2, zs, hs, ok, hj, hn2, hz, rfl⟩ J1 hJ1
    refine .frame hs fun τ => ?_
    refine .seq <| .r <| .w 73 .lss <| .nil ?_
    refine .seq <| .cdr (fun C6 => ?_) (fun C6 => ?_)
    · --
      have hjl : j = L1.length := by omega
      have htk : L1.take j = L1 := List.take_of_length_le (by omega)
      have hz0 : zs = [] := List.eq_nil_of_length_eq_zero (by rw [htk] at hn2; omega)
      refine .exit <| hK2 _ _ <| .seq <| .r <| .w 91 .mvS <| .w 4 .asS <| .nil ?_
      refine .ret ⟨.slice (some ⟨pb2, 0, none⟩) nn nn, Res.one rfl rfl, by have := ok.toOwn; rw [hz0, htk] at this; rw [hL]; simpa using this⟩
    have hjl : j < L1.length := by omega
    have hsn := congrArg List.length (flat_snoc hjl)
    rw [List.length_append] at hsn
    have hle := flat_le L1 (j + 1)
    refine .skip <| .seq <| .block fun K3 hK3 => .seq <| .r <| ?_
    obtain ⟨bb3, oo3, rfl, fb3⟩ := ok.r0.pos (by omega)
    refine .w 74 (.ix1 j T.el143 T.sz22) <| ?_
    obtain ⟨ya4, yc4, he3, hr3⟩ := ok.r0.row (i := j) (by omega)
    have ok := ok.d0 (rdI (fun j => E j ∧ j < h.size) (fun j => E j ∧ j < h.size) (ya4, L1[j].length, yc4) (L1[j])) hr3 (fun _ h => .inr (h.elim id id))
    refine .w 75 (.ld T.ag22 he3) <| .w 11 .asS <| .nil ?_
    refine .seq <| .r <| .w 76 .mvI <| .w 77 .mvS <| .w 78 .mvI <| .w 79 (.sll n2 T.el22 T.sz5) <| .w 80 .mvS <| .a' 81 (.cpy (ys := []) (m := 0) n2 T.el22 T.sz5 ok (Sl.nil _ 1) (oneL rfl) rfl) ?_
    rintro _ η7 ⟨rfl, ok, cg⟩
    refine .w 82 (.addI (b := 0)) <| .w 9 .asI <| .nil ?_
    refine .r <| .w 83 .mvI <| .w 84 .mvS <| .w 85 .mvI <| .w 86 (.sll (n2 + 0) T.el22 T.sz5) <| .w 87 .mvS <| .a' 88 (.cpy (ys := (L1[j]).map bv) (m := L1[j].length) (n2 + 0) T.el22 T.sz5 ok ok.r0.by bv_all rfl) ?_
    rintro _ η8 ⟨rfl, ok, cg⟩
    refine .w 89 .addI <| .w 9 .asI <| .nil ?_
    refine .end <| hK3 _ _ <| .r <| .w 90 (.addI (b := 1)) <| .w 72 .mvI <| .nil ?_
    refine .end <| hJ1 _ _ _ ⟨j + 1, _, zs.drop (L1[j].map bv).length, ⟨rfl, rfl, rfl, rfl, rfl, rfl, trivial⟩, ok.tR.cx (by rw [spl_nil, spl_end (by rw [List.length_map, List.length_append]; omega), flat_snoc hjl]; simp), by omega, by omega, by simp; omega, rfl⟩ (by omega)
  have hjl : j < L.length := by omega
  have hsn := congrArg List.length (flat_snoc hjl)
  rw [List.length_append] at hsn
  have hle := flat_le L (j + 1)
  refine .skip <| .seq <| .block fun K1 hK1 => .seq <| .r <| ?_
  obtain ⟨bb4, oo4, rfl, fb4⟩ := ok.r0.pos (by omega)
  refine .w 46 (.ix1 j T.el143 T.sz22) <| ?_
  obtain ⟨ya5, yc5, he4, hr4⟩ := ok.r0.row (i := j) (by omega)
  have ok := ok.d0 (rdI (fun j => E j ∧ j < h.size) (fun j => E j ∧ j < h.size) (ya5, L[j].length, yc5) (L[j])) hr4 (fun _ h => .inr (h.elim id id))
  refine .w 47 (.ld T.ag22 he4) <| .w 7 .asS <| .nil ?_
  refine .seq <| .seq <| .r <| .w 48 .mvS <| .w 49 (.len T.el22) <| .w 50 .mvI <| .w 51 .sub <| .w 52 .gtr <| .nil ?_
  refine .cd (fun C5 => ?_) (fun C5 => ?_)
  · --
    omega
  refine .skip <| .r <| .w 54 .mvI <| .w 55 .mvS <| .w 56 (.len T.el22) <| .w 57 .addI <| .w 5 .asI <| .nil ?_
  refine .end <| hK1 _ _ <| .r <| .w 58 (.addI (b := 1)) <| .w 44 .mvI <| .nil ?_
  refine .end <| hJ0 _ _ _ ⟨j + 1, _, ⟨rfl, rfl, rfl, rfl, rfl, rfl, trivial⟩, ok.tR, by omega, by omega, rfl⟩ (by omega)

set_option maxRecDepth 100000 in
set_option maxHeartbeats 2000000 in
theorem njoin_any {h : Heap} {F E : Nat → Prop} {a : Option Addr} {c : Nat} {L : List (List UInt8)} (hl : RdL h F E (a, L.length, c) L) (hN : L.flatten.length ≤ 1000000000) :
    HC Try.prog 57 #[.slice a L.length c] h (fun v h' => Own h h' 1 5 v (L.flatten.map bv)) := by
  have ok := (Hp.nil h none_).arg hl
  refine HC.go Try.func57 5 ?_
  refine .seq <| .r <| .w 2 .asS <| .nil ?_
  refine .seq <| .r <| .w 3 .mvS <| .c' 4 .func (bjoin_any (a := a) (c := c) (L := L) ok.r0 hN) ?_
  rintro _ η1 own
  obtain ⟨ya1, yc1, rfl⟩ := own.formB
  have ok := ok.own own
  refine .w 2 .asS <| .nil ?_
  refine .ret ⟨.slice ya1 (((L).flatten).length) yc1, Res.one rfl rfl, ok.toOwn⟩

end Go.Proofs.Ytpebbkhainpfaaa
