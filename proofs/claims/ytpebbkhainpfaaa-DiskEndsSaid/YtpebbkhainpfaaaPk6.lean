/- Logs in plain terms: heads, frames, links, and how a log is scanned. Conditions: those that each fact names. Seals: sum.foot, Seal, and the document's Seal. Conditions: the slices are readable. A number from 256 to 4096 has no bit in common with its predecessor just if it is one of five. Conditions: none. Logs: Same, sizes, frames, heads, links and what is put, of the program and of the document. Conditions: the slices are readable, numbers in their ranges. Logs: links and what is put, of the program and of the document. Conditions: the slices are readable, numbers in their ranges. The reader of a log: number, head. Conditions: the bytes are readable and no part of the reader. -/
import Derived.Test.YtpebbkhainpfaaaPk5
namespace Go.Proofs.Ytpebbkhainpfaaa
open Go Go.HL

structure Fr where
  page : Int
  commit : Int
  b : List UInt8
  deriving DecidableEq

def okSz (n : Nat) : Bool := n == 256 || n == 512 || n == 1024 || n == 2048 || n == 4096
def okF (f : Fr) : Bool := decide (1 ≤ f.page ∧ f.page ≤ 1048576 ∧ 0 ≤ f.commit ∧ f.commit ≤ 1048576) && okSz f.b.length
def linkN (p : Nat) (f : Fr) : Nat := nextN p (fixedN f.page.toNat 4 ++ fixedN f.commit.toNat 4 ++ f.b)
def putN (p : Nat) (f : Fr) : List UInt8 := fixedN f.page.toNat 4 ++ fixedN f.commit.toNat 4 ++ fixedN (linkN p f) 8 ++ f.b
def headN (size salt : Nat) : List UInt8 := sealN ([116, 111, 109, 101] ++ fixedN size 4 ++ fixedN salt 8)
def headOk (b : List UInt8) : Bool := okSz (rdN b 4 4) && decide (headN (rdN b 4 4) (rdN b 8 8) = b.take 20)
def firstN (b : List UInt8) : Nat := nextN (rdN b 8 8) (b.take 20)

structure Sc where
  pos : Nat
  prev : Nat
  all : List Fr
  l : List Fr
  sure : Nat
  fin : Nat

def rawF (b : List UInt8) (size pos : Nat) : Fr := ⟨rdN b pos 4, rdN b (pos + 4) 4, (b.drop (pos + 16)).take size⟩
def fits (b : List UInt8) (size pos prev : Nat) : Prop := pos + 16 + size ≤ b.length ∧ okF (rawF b size pos) = true ∧ linkN prev (rawF b size pos) = rdN b (pos + 8) 8
def stepF (size : Nat) (s : Sc) (f : Fr) : Sc :=
  let p := linkN s.prev f
  if f.commit ≠ 0 then ⟨s.pos + 16 + size, p, s.all ++ [f], s.all ++ [f], p, s.pos + 16 + size⟩ else ⟨s.pos + 16 + size, p, s.all ++ [f], s.l, s.sure, s.fin⟩
def scan0 (b : List UInt8) : Sc := ⟨20, firstN b, [], [], firstN b, 20⟩
/-- A state that the scan comes to. -/
inductive Reach (b : List UInt8) (size : Nat) : Sc → Sc → Prop
  | refl (s) : Reach b size s s
  | step {s s'} : Reach b size s s' → fits b size s'.pos s'.prev → Reach b size s (stepF size s' (rawF b size s'.pos))
def ScanE (b : List UInt8) (s : Sc) : Prop := Reach b (rdN b 4 4) (scan0 b) s ∧ ¬ fits b (rdN b 4 4) s.pos s.prev

/-- The same from the front. -/
inductive ReachF (b : List UInt8) (size : Nat) : Sc → Sc → Prop
  | refl (s) : ReachF b size s s
  | step {s s'} : fits b size s.pos s.prev → ReachF b size (stepF size s (rawF b size s.pos)) s' → ReachF b size s s'
theorem ReachF.snoc {b : List UInt8} {size : Nat} {s s' : Sc} (r : ReachF b size s s') (h : fits b size s'.pos s'.prev) : ReachF b size s (stepF size s' (rawF b size s'.pos)) := by
  induction r with
  | refl s => exact .step h (.refl _)
  | step h1 _ ih => exact .step h1 (ih h)
theorem Reach.toF {b : List UInt8} {size : Nat} {s s' : Sc} (r : Reach b size s s') : ReachF b size s s' := by
  induction r with
  | refl => exact .refl _
  | step _ h ih => exact ih.snoc h
theorem ReachF.uniq {b : List UInt8} {size : Nat} {s s1 s2 : Sc} (r1 : ReachF b size s s1) (h1 : ¬ fits b size s1.pos s1.prev) (r2 : ReachF b size s s2) (h2 : ¬ fits b size s2.pos s2.prev) : s1 = s2 := by
  induction r1 with
  | refl s => cases r2 with
    | refl => rfl
    | step h _ => exact absurd h h1
  | step h _ ih => cases r2 with
    | refl => exact absurd h h2
    | step _ r => exact ih h1 r
theorem ScanE.uniq {b : List UInt8} {s1 s2 : Sc} (h1 : ScanE b s1) (h2 : ScanE b s2) : s1 = s2 := h1.1.toF.uniq h1.2 h2.1.toF h2.2
theorem stepF_prev (size : Nat) (s : Sc) (f : Fr) : (stepF size s f).prev = linkN s.prev f := by simp only [stepF]; split <;> simp_all
theorem stepF_pos (size : Nat) (s : Sc) (f : Fr) : (stepF size s f).pos = s.pos + 16 + size := by simp only [stepF]; split <;> simp_all
theorem stepF_all (size : Nat) (s : Sc) (f : Fr) : (stepF size s f).all = s.all ++ [f] := by simp only [stepF]; split <;> simp_all
theorem stepF_sure (size : Nat) (s : Sc) (f : Fr) : (stepF size s f).sure = if f.commit ≠ 0 then linkN s.prev f else s.sure := by simp only [stepF]; split <;> simp_all
theorem stepF_l (size : Nat) (s : Sc) (f : Fr) : (stepF size s f).l = if f.commit ≠ 0 then s.all ++ [f] else s.l := by simp only [stepF]; split <;> simp_all
theorem stepF_fin (size : Nat) (s : Sc) (f : Fr) : (stepF size s f).fin = if f.commit ≠ 0 then s.pos + 16 + size else s.fin := by simp only [stepF]; split <;> simp_all
theorem Reach.prev_lt {b : List UInt8} {size : Nat} {s s' : Sc} (r : Reach b size s s') (h : s.prev < 18446744073709551616) (h2 : s.sure < 18446744073709551616) : s'.prev < 18446744073709551616 ∧ s'.sure < 18446744073709551616 := by
  induction r with
  | refl => exact ⟨h, h2⟩
  | @step s' _ _ ih =>
    have h3 : linkN s'.prev (rawF b size s'.pos) < 18446744073709551616 := nextN_lt ih.1 _
    rw [stepF_prev, stepF_sure]
    refine ⟨h3, ?_⟩
    split
    · exact h3
    · exact ih.2
theorem beN_lt8 (l : List UInt8) (h : l.length ≤ 8) : beN l < 18446744073709551616 := Nat.lt_of_lt_of_le (beN_lt l) (Nat.le_trans (pow256 h) (Nat.le_of_eq (by rfl)))
theorem beN_lt4 (l : List UInt8) (h : l.length ≤ 4) : beN l < 4294967296 := Nat.lt_of_lt_of_le (beN_lt l) (Nat.le_trans (pow256 h) (Nat.le_of_eq (by rfl)))
theorem rdN_lt8 (b : List UInt8) (p : Nat) : rdN b p 8 < 18446744073709551616 := beN_lt8 _ (by simp; omega)
theorem rdN_lt4 (b : List UInt8) (p : Nat) : rdN b p 4 < 4294967296 := beN_lt4 _ (by simp; omega)
theorem firstN_lt (b : List UInt8) : firstN b < 18446744073709551616 := nextN_lt (rdN_lt8 _ _) _
theorem ScanE.lt {b : List UInt8} {s : Sc} (h : ScanE b s) : s.sure < 18446744073709551616 := (h.1.prev_lt (firstN_lt b) (firstN_lt b)).2

/-! ### What is written is read -/
theorem fixedN_succ (n k : Nat) : fixedN n (k + 1) = fixedN (n / 256) k ++ [UInt8.ofNat n] := by
  unfold fixedN
  rw [List.range_succ, List.map_append]
  congr 1
  · apply List.map_congr_left
    intro j hj
    rw [List.mem_range] at hj
    rw [Nat.div_div_eq_div_mul, ← Nat.pow_succ']
    congr 3; omega
  · simp
theorem beN_fixedN : ∀ (k n : Nat), beN (fixedN n k) = n % 256 ^ k
  | 0, n => by simp [fixedN, beN, Nat.mod_one]
  | k + 1, n => by
    rw [fixedN_succ, beN_snoc, beN_fixedN k, Nat.pow_succ', Nat.mod_mul]
    simp; omega
theorem beN_fixed {k n : Nat} (h : n < 256 ^ k) : beN (fixedN n k) = n := by rw [beN_fixedN, Nat.mod_eq_of_lt h]
theorem fixedN_beN (l : List UInt8) : fixedN (beN l) l.length = l := by
  suffices h : ∀ n, n ≤ l.length → fixedN (beN (l.take n)) n = l.take n by have := h l.length (Nat.le_refl _); simpa using this
  intro n hn
  induction n with
  | zero => simp [fixedN]
  | succ n ih =>
    have h1 := l[n].toNat_lt
    rw [fixedN_succ, take_next (by omega), beN_snoc, show (beN (l.take n) * 256 + l[n].toNat) / 256 = beN (l.take n) by omega, ih (by omega)]
    congr 2
    apply UInt8.toNat_inj.1
    simp
theorem beN_inj {l m : List UInt8} (hl : l.length = m.length) (h : beN l = beN m) : l = m := by rw [← fixedN_beN l, ← fixedN_beN m, hl, h]
theorem sealN_len (l : List UInt8) : (sealN l).length = l.length + 4 := by simp [sealN]
theorem headN_len (size salt : Nat) : (headN size salt).length = 20 := by simp [headN, sealN_len, fixedN_len]
theorem putN_len (p : Nat) (f : Fr) : (putN p f).length = 16 + f.b.length := by simp [putN, fixedN_len]; omega
theorem rdN_app {x y z : List UInt8} {k : Nat} (h : y.length = k) : rdN (x ++ (y ++ z)) x.length k = beN y := by unfold rdN; rw [List.drop_left, List.take_left' h]
theorem okF_iff {f : Fr} : okF f = true ↔ (1 ≤ f.page ∧ f.page ≤ 1048576 ∧ 0 ≤ f.commit ∧ f.commit ≤ 1048576) ∧ okSz f.b.length = true := by simp [okF]
theorem rawF_put {x z : List UInt8} {p : Nat} {f : Fr} (hf : okF f = true) : rawF (x ++ (putN p f ++ z)) f.b.length x.length = f := by
  obtain ⟨⟨h1, h2, h3, h4⟩, _⟩ := okF_iff.1 hf
  have e1 : x ++ (putN p f ++ z) = x ++ (fixedN f.page.toNat 4 ++ (fixedN f.commit.toNat 4 ++ fixedN (linkN p f) 8 ++ f.b ++ z)) := by simp [putN]
  have e2 : x ++ (putN p f ++ z) = (x ++ fixedN f.page.toNat 4) ++ (fixedN f.commit.toNat 4 ++ (fixedN (linkN p f) 8 ++ f.b ++ z)) := by simp [putN]
  have e3 : x ++ (putN p f ++ z) = (x ++ (fixedN f.page.toNat 4 ++ fixedN f.commit.toNat 4 ++ fixedN (linkN p f) 8)) ++ (f.b ++ z) := by simp [putN]
  unfold rawF
  have q1 : rdN (x ++ (putN p f ++ z)) x.length 4 = f.page.toNat := by rw [e1, rdN_app (fixedN_len _ _), beN_fixed (by omega)]
  have q2 : rdN (x ++ (putN p f ++ z)) (x.length + 4) 4 = f.commit.toNat := by
    rw [e2, show x.length + 4 = (x ++ fixedN f.page.toNat 4).length by simp [fixedN_len], rdN_app (fixedN_len _ _), beN_fixed (by omega)]
  have q3 : ((x ++ (putN p f ++ z)).drop (x.length + 16)).take f.b.length = f.b := by
    rw [e3, show x.length + 16 = (x ++ (fixedN f.page.toNat 4 ++ fixedN f.commit.toNat 4 ++ fixedN (linkN p f) 8)).length by simp [fixedN_len], List.drop_left, List.take_left]
  rw [q1, q2, q3]
  cases f
  simp only [Fr.mk.injEq, and_true]
  simp only at h1 h3
  omega
theorem rdN_link {x z : List UInt8} {p : Nat} {f : Fr} (hp : p < 18446744073709551616) : rdN (x ++ (putN p f ++ z)) (x.length + 8) 8 = linkN p f := by
  have e : x ++ (putN p f ++ z) = (x ++ (fixedN f.page.toNat 4 ++ fixedN f.commit.toNat 4)) ++ (fixedN (linkN p f) 8 ++ (f.b ++ z)) := by simp [putN]
  have hl : linkN p f < 18446744073709551616 := nextN_lt hp _
  rw [e, show x.length + 8 = (x ++ (fixedN f.page.toNat 4 ++ fixedN f.commit.toNat 4)).length by simp [fixedN_len], rdN_app (fixedN_len _ _), beN_fixed (by simpa using hl)]
theorem fits_put {x z : List UInt8} {p : Nat} {f : Fr} (hf : okF f = true) (hp : p < 18446744073709551616) : fits (x ++ (putN p f ++ z)) f.b.length x.length p := by
  refine ⟨by simp [putN_len]; omega, by rw [rawF_put hf]; exact hf, by rw [rawF_put hf, rdN_link hp]⟩
end Go.Proofs.Ytpebbkhainpfaaa

namespace Go.Proofs.Ytpebbkhainpfaaa
open Go Go.HL

theorem sumN_lt (l : List UInt8) : sumN l < 4294967296 := by rw [sumN_def]; omega
def footN (l : List UInt8) : List UInt8 := [UInt8.ofNat (sumN l), UInt8.ofNat (sumN l / 2 ^ 8), UInt8.ofNat (sumN l / 2 ^ 16), UInt8.ofNat (sumN l / 2 ^ 24)]
theorem footN_map (l : List UInt8) : [.int .u8 ((sumN l % 256 : Nat) : Int), .int .u8 ((sumN l / 2 ^ 8 % 256 : Nat) : Int), .int .u8 ((sumN l / 2 ^ 16 % 256 : Nat) : Int), .int .u8 ((sumN l / 2 ^ 24 % 256 : Nat) : Int)] = (footN l).map bv := by simp [footN, bv_ofNat]

set_option maxRecDepth 100000 in
set_option maxHeartbeats 2000000 in
theorem foot_any {h : Heap} {F E : Nat → Prop} {a : Option Addr} {c : Nat} {l : List UInt8} (hl : RdL h F E (a, l.length, c) l) :
    HC Try.prog 94 #[.slice a l.length c] h (fun v h' => v = .agg #[.int .u8 ((sumN l % 256 : Nat) : Int), .int .u8 ((sumN l / 2 ^ 8 % 256 : Nat) : Int), .int .u8 ((sumN l / 2 ^ 16 % 256 : Nat) : Int), .int .u8 ((sumN l / 2 ^ 24 % 256 : Nat) : Int)] ∧ Ext h h') := by
  have hc2 := hl.m
  have hc1 : l.length ≤ c := hl.c
  simp only at hc2
  have ok := (Hp.nil h none_).arg hl
  refine HC.go Try.func94 19 ?_
  refine .seq <| .r <| .a' 2 (.alA T.zr141 ok) ?_
  rintro _ η1 ⟨pb1, rfl, ok, xe⟩
  refine .nil ?_
  refine .seq <| .r <| .w 4 .mvS <| .a' 5 (.lit [.tmp 4] (cs := [.slice a l.length c]) T.el143 T.sz22 T.zr22 ok ⟨rfl, trivial⟩) ?_
  rintro _ η2 ⟨pb2, rfl, ok, xe⟩
  refine .c' 6 .func (sum_any (a := some ⟨pb2, 0, none⟩) (c := 1) (L := [l]) (RdL.rows (v := (some ⟨pb2, 0, none⟩, 1, 1)) (xs := [(a, l.length, c)]) (ls := [l]) ok.m0 ⟨⟨_, _, ok.r0⟩, trivial⟩)) ?_
  rintro _ η3 ⟨rfl, hx⟩
  have ok := ok.ext hx
  rw [show (sumN ([l]).flatten) = sumN l from by simp]
  refine .w 3 .asI <| .nil ?_
  refine .seq <| ?_
  have hsl := sumN_lt l
  refine .r <| .w 7 .mvI <| .w 8 (.cvm T.in5 T.in145 (M := 256) rfl rfl) <| ?_
  generalize (sumN l % 256) = g0
  refine .w 9 .mvI <| .w 10 (.shrn (M := 4294967296) rfl (b := 8)) <| .w 11 (.cvm T.in5 T.in145 (M := 256) rfl rfl) <| ?_
  generalize ((sumN l / 2 ^ 8) % 256) = g1
  refine .w 12 .mvI <| .w 13 (.shrn (M := 4294967296) rfl (b := 16)) <| .w 14 (.cvm T.in5 T.in145 (M := 256) rfl rfl) <| ?_
  generalize ((sumN l / 2 ^ 16) % 256) = g2
  refine .w 15 .mvI <| .w 16 (.shrn (M := 4294967296) rfl (b := 24)) <| .w 17 (.cvm T.in5 T.in145 (M := 256) rfl rfl) <| ?_
  generalize ((sumN l / 2 ^ 24) % 256) = g3
  refine .w 18 (.bdA #[.int .u8 (g0 : Int), .int .u8 (g1 : Int), .int .u8 (g2 : Int), .int .u8 (g3 : Int)] T.zr141 T.ar141 T.sz5 rfl) <| .ur' (.stW (vs := [.int .u8 (g0 : Int), .int .u8 (g1 : Int), .int .u8 (g2 : Int), .int .u8 (g3 : Int)]) T.sz141 ok.n1 (oneL rfl)) ?_
  rintro η4 ⟨ok, cg⟩
  refine .nil ?_
  refine .ret ⟨.agg #[.int .u8 (g0 : Int), .int .u8 (g1 : Int), .int .u8 (g2 : Int), .int .u8 (g3 : Int)], Res.many (vs := [.agg #[.int .u8 (g0 : Int), .int .u8 (g1 : Int), .int .u8 (g2 : Int), .int .u8 (g3 : Int)]]) rfl ⟨⟨_, rfl, load_ag T.ag141 ok.m0 T.sz141⟩, trivial⟩ rfl, ⟨rfl, ok.chg⟩⟩

set_option maxRecDepth 100000 in
set_option maxHeartbeats 2000000 in
theorem seal_any {h : Heap} {F E : Nat → Prop} {a : Option Addr} {c : Nat} {l : List UInt8} (hl : RdL h F E (a, l.length, c) l) (hN : l.length ≤ 1000000000) :
    HC Try.prog 56 #[.slice a l.length c] h (fun v h' => Own h h' 1 5 v ((sealN l).map bv)) := by
  have hc2 := hl.m
  have hc1 : l.length ≤ c := hl.c
  simp only at hc2
  have ok := (Hp.nil h none_).arg hl
  refine HC.go Try.func56 14 ?_
  refine .seq <| .r <| .w 2 .asS <| .nil ?_
  refine .seq <| .r <| .w 4 .mvS <| .c' 5 .func (foot_any (a := a) (c := c) (l := l) ok.r0) ?_
  rintro _ η1 ⟨rfl, hx⟩
  have ok := ok.ext hx
  refine .a' 3 (.alA T.zr141 ok) ?_
  rintro _ η2 ⟨pb1, rfl, ok, xe⟩
  refine .ur' (.stW (vs := [.int .u8 ((sumN l % 256 : Nat) : Int), .int .u8 ((sumN l / 2 ^ 8 % 256 : Nat) : Int), .int .u8 ((sumN l / 2 ^ 16 % 256 : Nat) : Int), .int .u8 ((sumN l / 2 ^ 24 % 256 : Nat) : Int)]) T.sz141 ok (oneL rfl)) ?_
  rintro η3 ⟨ok, cg⟩
  refine .nil ?_
  refine .seq <| ?_
  have ok := (ok.boxC (n := 4) (k := 1)).cx (footN_map l)
  refine .a 3 (fun fl hh => cond fl True (Hp h none_ [capI 1 141 (some ⟨pb1, 0, none⟩, 4, 4) ((footN l).map bv)] [rdI (fun j => F j ∧ j < h.size) (fun j => E j ∧ j < h.size) (a, l.length, c) l] hh)) mixed ?_
  have hS := ok
  refine .g 0 false rfl 6 hS (fun _ => .mvS) <| .g 1 false rfl 7 hS (fun _ => .len T.el22) <| .g 2 false rfl 8 hS (fun _ => .addI (b := 4)) <| .g 4 false rfl 10 hS (fun _ => .mvS) <| .g 6 false rfl 12 hS (fun _ => .slA T.ar141 T.sz5) <| .o1 3 <| .a' true rfl 9 (.mks 0 (l.length + 4) T.el22 T.sz5 T.by5 T.zr5 ok) ?_
  rintro _ η4 ⟨pb2, rfl, ok, xe⟩
  have ok := ok.cx (ys := (List.replicate 0 (0 : UInt8)).map bv) (zeros8 _)
  refine ⟨trivial, ?_⟩
  refine .o1 5 <| .a' true rfl 11 (.app (news := l.map bv) T.el22 T.sz5 T.by5 T.zr5 ok (ok.r0).by bv_all (by simp only [List.length_map, List.length_append, List.length_take, List.length_cons, List.length_nil, List.length_replicate, List.length_range]; omega)) ?_
  rintro _ η5 ⟨ya1, yn1, yc1, rfl, ok, ap⟩
  have ok := ok.cx (ys := ((List.replicate 0 (0 : UInt8)) ++ l).map bv) (by simp [bv])
  obtain rfl : yn1 = ((List.replicate 0 (0 : UInt8)) ++ l).length := ok.lenB
  refine ⟨trivial, ?_⟩
  refine .o1 7 <| .a' true rfl 13 (.app (news := (footN l).map bv) T.el22 T.sz5 T.by5 T.zr5 ok (ok.m1).sl bv_all (by simp [footN]; omega)) ?_
  rintro _ η6 ⟨ya2, yn2, yc2, rfl, ok, ap⟩
  have ok := ok.cx (ys := ((List.replicate 0 (0 : UInt8)) ++ l ++ (footN l)).map bv) (by simp [bv])
  obtain rfl : yn2 = ((List.replicate 0 (0 : UInt8)) ++ l ++ (footN l)).length := ok.lenB
  refine ⟨trivial, ?_⟩
  refine .g 8 true rfl 2 trivial (fun _ => .asS) <| .e ?_
  refine .ret ⟨.slice ya2 (((List.replicate 0 (0 : UInt8)) ++ l ++ (footN l)).length) yc2, Res.one rfl rfl, by have := ok.toOwn; simpa [sealN, footN] using this⟩

set_option maxRecDepth 100000 in
set_option maxHeartbeats 2000000 in
theorem rseal_any {h : Heap} {F E : Nat → Prop} {a : Option Addr} {c : Nat} {l : List UInt8} (hl : RdL h F E (a, l.length, c) l) (hN : l.length ≤ 1000000000) :
    HC Try.prog 62 #[.slice a l.length c] h (fun v h' => Own h h' 1 5 v ((sealN l).map bv)) := by
  have hc2 := hl.m
  have hc1 : l.length ≤ c := hl.c
  simp only at hc2
  have ok := (Hp.nil h none_).arg hl
  refine HC.go Try.func62 24 ?_
  refine .seq <| .r <| .w 2 .asS <| .nil ?_
  refine .seq <| .r <| .w 6 .mvS <| .k 7 .func (rsum_any (a := a) (c := c) (l := l) ok.r0) <| .w 3 .asI <| .nil ?_
  refine .seq <| .r <| .a' 8 (.lit [] (cs := []) T.el22 T.sz5 T.zr5 ok trivial) ?_
  rintro _ η1 ⟨pb1, rfl, ok, xe⟩
  have ok := ok.cx (ys := ([] : List UInt8).map bv) rfl
  refine .w 9 .mvS <| .a' 10 (.app (news := l.map bv) T.el22 T.sz5 T.by5 T.zr5 ok (ok.r0).by bv_all (by simp only [List.length_map, List.length_append, List.length_take, List.length_cons, List.length_nil, List.length_replicate, List.length_range]; omega)) ?_
  rintro _ η2 ⟨ya1, yn1, yc1, rfl, ok, ap⟩
  have ok := ok.cx (ys := (l).map bv) (by simp [bv])
  obtain rfl : yn1 = (l).length := ok.lenB
  refine .w 4 .asS <| .nil ?_
  refine .seq <| .seq <| .r <| .w 5 .asI <| .nil ?_
  refine .block fun K0 hK0 => .loop (fun m s hh => ∃ (k ss : Nat) (a1 : Option Addr) (n1 c1 : Nat), Has s [(3, .int .u32 (ss : Int)), (4, .slice a1 n1 c1), (5, .int .i64 (k : Int))] ∧ Hp h none_ [capI 1 5 (a1, n1, c1) ((l ++ (List.range k).map fun j => UInt8.ofNat (sumN l / 256 ^ j)).map bv)] [rdI (fun j => F j ∧ j < h.size) (fun j => E j ∧ j < h.size) (a, l.length, c) l] hh ∧ k ≤ 4 ∧ ss = sumN l / 256 ^ k ∧ m = 4 - k) ?_ ?_
  · exact ⟨_, 0, _, _, _, _, ⟨rfl, rfl, rfl, trivial⟩, ok.cx (by simp), Nat.zero_le _, by simp, rfl⟩
  rintro _ _ η3 ⟨k, ss, a1, n1, c1, hs, ok, hk, hss, rfl⟩ J0 hJ0
  refine .frame hs fun τ => ?_
  refine .seq <| .seq <| .r <| .w 11 .mvI <| .w 12 .lss <| .nil ?_
  refine .cdr (fun C0 => ?_) (fun C0 => ?_)
  · --
    have hk4 : k = 4 := by omega
    refine .exit <| hK0 _ _ <| .seq <| .r <| .w 23 .mvS <| .w 2 .asS <| .nil ?_
    refine .ret ⟨.slice a1 n1 c1, Res.one rfl rfl, by have := ok.toOwn; rw [hk4] at this; simpa [sealN, List.range_succ] using this⟩
  have hsl : ss < 4294967296 := Nat.lt_of_le_of_lt (by rw [hss]; exact Nat.div_le_self _ _) (sumN_lt l)
  refine .skip <| .seq <| .block fun K1 hK1 => .seq <| .r <| .w 15 .mvS <| .w 16 .mvI <| .w 17 (.remn (b := 256)) <| .w 18 (.cvm T.in5 T.in145 (M := 256) rfl rfl) <| .a' 19 (.lit [.tmp 18] (cs := [.int .u8 ((((ss % 256) % 256) : Nat) : Int)]) T.el22 T.sz5 T.zr5 ok ⟨rfl, trivial⟩) ?_
  rintro _ η4 ⟨pb2, rfl, ok, xe⟩
  refine .a' 20 (.app (news := [.int .u8 ((((ss % 256) % 256) : Nat) : Int)]) T.el22 T.sz5 T.by5 T.zr5 ok.n1 (ok.n1.m1).sl (oneL rfl) (by simp only [List.length_map, List.length_append, List.length_take, List.length_cons, List.length_nil, List.length_replicate, List.length_range]; omega)) ?_
  rintro _ η5 ⟨ya2, yn2, yc2, rfl, ok, ap⟩
  refine .w 4 .asS <| .nil ?_
  refine .r <| .w 21 .mvI <| .w 22 (.quon (M := 4294967296) rfl rfl (b := 256)) <| .w 3 .asI <| .nil ?_
  refine .end <| hK1 _ _ <| .r <| .w 13 .mvI <| .w 14 (.addI (b := 1)) <| .w 5 .asI <| .nil ?_
  refine .end <| hJ0 _ _ _ ⟨k + 1, _, _, _, _, ⟨rfl, rfl, rfl, trivial⟩, ok.k1.cx (by simp [List.range_succ, bv_ofNat, hss]), by omega, by rw [hss, Nat.div_div_eq_div_mul, ← Nat.pow_succ], rfl⟩ (by omega)

end Go.Proofs.Ytpebbkhainpfaaa

namespace Go.Proofs.Ytpebbkhainpfaaa
set_option maxRecDepth 100000 in
theorem and_pow : ∀ n, n < 4097 → 256 ≤ n → (n &&& (n - 1) = 0 ↔ (n = 256 ∨ n = 512 ∨ n = 1024 ∨ n = 2048 ∨ n = 4096)) := by decide +kernel
end Go.Proofs.Ytpebbkhainpfaaa

namespace Go.Proofs.Ytpebbkhainpfaaa
open Go Go.HL
def okZ (z : Int) : Bool := decide (z = 256 ∨ z = 512 ∨ z = 1024 ∨ z = 2048 ∨ z = 4096)
theorem okZ_nat (n : Nat) : okZ (n : Int) = okSz n := by
  rw [Bool.eq_iff_iff]; simp [okZ, okSz]; omega
theorem tolist_eq (a b : List UInt8) : ((BA a).toList == (BA b).toList) = decide (a = b) := by rw [BA_toList, BA_toList]; by_cases h : a = b <;> simp [h]

set_option maxRecDepth 100000 in
set_option maxHeartbeats 2000000 in
theorem same_any {h : Heap} {F E F' E' : Nat → Prop} {a b : Option Addr} {c d : Nat} {l l2 : List UInt8} (hl : RdL h F E (a, l.length, c) l) (hm : RdL h F' E' (b, l2.length, d) l2) :
    HC Try.prog 24 #[.slice a l.length c, .slice b l2.length d] h (fun v h' => v = .bool (decide (l = l2)) ∧ h' = h) := by
  have hc2 := hl.m
  have hc1 : l.length ≤ c := hl.c
  simp only at hc2
  have hd2 := hm.m
  have hd1 : l2.length ≤ d := hm.c
  simp only at hd2
  refine HC.go Try.func24 26 ?_
  refine .seq <| .r <| .w 4 .asB <| .nil ?_
  refine .seq <| .seq <| .r <| .w 6 .mvS <| .w 7 (.len T.el22) <| .w 8 .mvS <| .w 9 (.len T.el22) <| .w 10 .neq <| .nil ?_
  refine .cd (fun C0 => ?_) (fun C0 => ?_)
  · --
    refine .seq <| .r <| .w 4 .asB <| .nil ?_
    refine .ret ⟨.bool false, Res.one rfl rfl, ⟨by rw [decide_eq_false]; intro e; subst e; exact C0 rfl, rfl⟩⟩
  refine .skip <| .seq <| .seq <| .r <| .w 5 .asI <| .nil ?_
  refine .block fun K0 hK0 => .loop (fun m s hh => ∃ (i : Nat), Has s [(0, .slice a l.length c), (1, .slice b l2.length d), (5, .int .i64 (i : Int))] ∧ h = hh ∧ i ≤ l.length ∧ l.length = l2.length ∧ l.take i = l2.take i ∧ m = l.length - i) ?_ ?_
  · exact ⟨_, 0, ⟨rfl, rfl, rfl, trivial⟩, rfl, Nat.zero_le _, by omega, rfl, rfl⟩
  rintro _ _ _ ⟨i, hs, rfl, hi, hlm, ht, rfl⟩ J0 hJ0
  refine .frame hs fun τ => ?_
  refine .seq <| .seq <| .r <| .w 11 .mvI <| .w 12 .mvS <| .w 13 (.len T.el22) <| .w 14 .lss <| .nil ?_
  refine .cdr (fun C1 => ?_) (fun C1 => ?_)
  · --
    have hil : i = l.length := by omega
    have him : i = l2.length := by omega
    refine .exit <| hK0 _ _ <| .seq <| .r <| .w 4 .asB <| .nil ?_
    refine .ret ⟨.bool true, Res.one rfl rfl, ⟨by rw [decide_eq_true]; have := ht; rw [hil, List.take_length] at this; rw [this, ← hil, him, List.take_length], rfl⟩⟩
  have hil : i < l.length := by omega
  have him : i < l2.length := by omega
  refine .skip <| .seq <| .block fun K1 hK1 => .seq <| .q (hm := mixed) <| .w 17 .mvS <| .w 18 .mvI <| ?_
  obtain ⟨bb1, oo1, rfl, fb1⟩ := hl.pos (by omega)
  refine .w 19 (.ix1 i T.el22 T.sz5) <| .w 20 (.ld T.ag5 (hl.u8 (i := i) (by omega))) <| .w 21 .mvS <| .w 22 .mvI <| ?_
  obtain ⟨bb2, oo2, rfl, fb2⟩ := hm.pos (by omega)
  refine .w 23 (.ix1 i T.el22 T.sz5) <| .w 24 (.ld T.ag5 (hm.u8 (i := i) (by omega))) <| .w 25 .neq <| .nil ?_
  refine .cd (fun C2 => ?_) (fun C2 => ?_)
  · --
    refine .seq <| .r <| .w 4 .asB <| .nil ?_
    refine .ret ⟨.bool false, Res.one rfl rfl, ⟨by rw [decide_eq_false]; intro e; subst e; exact C2 rfl, rfl⟩⟩
  refine .skip <| .end <| hK1 _ _ <| .r <| .w 15 .mvI <| .w 16 (.addI (b := 1)) <| .w 5 .asI <| .nil ?_
  refine .end <| hJ0 _ _ _ ⟨i + 1, ⟨rfl, rfl, rfl, trivial⟩, rfl, by omega, by omega, by rw [take_next hil, take_next him, ht]; congr 2; exact UInt8.toNat_inj.1 (by omega), rfl⟩ (by omega)

set_option maxRecDepth 100000 in
set_option maxHeartbeats 2000000 in
theorem size_any {h : Heap} {z : Int} (hz : -9223372036854775808 ≤ z ∧ z ≤ 9223372036854775807) :
    HC Try.prog 55 #[.int .i64 z] h (fun v h' => v = .bool (okZ z) ∧ h' = h) := by
  refine HC.go Try.func55 16 ?_
  refine .seq <| .r <| .w 2 .asB <| .nil ?_
  refine .seq <| .r <| .w 3 .mvI <| .w 4 .geq <| .w 5 .mvB <| .sd (fun G5 => ?_) (fun G5 => ?_)
  ·
    refine .w 6 .mvI <| .w 7 .leq <| .w 8 .pkt <| .w 9 .mvB <| .sd (fun G9 => ?_) (fun G9 => ?_)
    ·
      obtain ⟨q, rfl⟩ : ∃ q : Nat, z = (q : Int) := ⟨z.toNat, by omega⟩
      have hq := and_pow q (by omega) (by omega)
      refine .w 10 .mvI <| .w 11 .mvI <| .w 12 .sub <| .w 13 (.bandI q (q - 1)) <| .w 14 .eql <| .w 15 .pkt <| .w 2 .asB <| .nil ?_
      refine .ret ⟨.bool (decide ((((q &&& (q - 1)) : Nat) : Int) = 0)), Res.one rfl rfl, ⟨by first | exact congrArg _ (by unfold okZ; rw [decide_eq_decide]; omega) | exact congrArg _ (by unfold okZ; exact (decide_eq_false (by omega)).symm) | exact congrArg _ (by unfold okZ; exact (decide_eq_true (by omega)).symm), rfl⟩⟩
    refine .x 10 <| .x 11 <| .x 12 <| .x 13 <| .x 14 <| .w 15 .pkf <| .w 2 .asB <| .nil ?_
    refine .ret ⟨.bool false, Res.one rfl rfl, ⟨by first | exact congrArg _ (by unfold okZ; rw [decide_eq_decide]; omega) | exact congrArg _ (by unfold okZ; exact (decide_eq_false (by omega)).symm) | exact congrArg _ (by unfold okZ; exact (decide_eq_true (by omega)).symm), rfl⟩⟩
  refine .x 6 <| .x 7 <| .w 8 .pkf <| .w 9 .mvB <| .x 10 <| .x 11 <| .x 12 <| .x 13 <| .x 14 <| .w 15 .pkf <| .w 2 .asB <| .nil ?_
  refine .ret ⟨.bool false, Res.one rfl rfl, ⟨by first | exact congrArg _ (by unfold okZ; rw [decide_eq_decide]; omega) | exact congrArg _ (by unfold okZ; exact (decide_eq_false (by omega)).symm) | exact congrArg _ (by unfold okZ; exact (decide_eq_true (by omega)).symm), rfl⟩⟩

set_option maxRecDepth 100000 in
set_option maxHeartbeats 2000000 in
theorem rsize_any {h : Heap} {z : Int} (hz : -9223372036854775808 ≤ z ∧ z ≤ 9223372036854775807) :
    HC Try.prog 60 #[.int .i64 z] h (fun v h' => v = .bool (okZ z) ∧ h' = h) := by
  refine HC.go Try.func60 11 ?_
  refine .seq <| .r <| .w 2 .asB <| .nil ?_
  refine .seq <| .seq <| .r <| .w 3 .asI <| .nil ?_
  refine .block fun K0 hK0 => .loop (fun m s hh => ∃ (k : Nat), Has s [(0, .int .i64 z), (3, .int .i64 (k : Int))] ∧ h = hh ∧ (k = 256 ∨ k = 512 ∨ k = 1024 ∨ k = 2048 ∨ k = 4096 ∨ k = 8192) ∧ (z = 256 ∨ z = 512 ∨ z = 1024 ∨ z = 2048 ∨ z = 4096 → (k : Int) ≤ z) ∧ m = 8192 - k) ?_ ?_
  · exact ⟨_, 256, ⟨rfl, rfl, trivial⟩, rfl, .inl rfl, by omega, rfl⟩
  rintro _ _ _ ⟨k, hs, rfl, hk, hzk, rfl⟩ J0 hJ0
  refine .frame hs fun τ => ?_
  refine .seq <| .seq <| .r <| .w 4 .mvI <| .w 5 .leq <| .nil ?_
  refine .cdr (fun C0 => ?_) (fun C0 => ?_)
  · --
    refine .exit <| hK0 _ _ <| .seq <| .r <| .w 2 .asB <| .nil ?_
    refine .ret ⟨.bool false, Res.one rfl rfl, ⟨by first | exact congrArg _ (by unfold okZ; rw [decide_eq_decide]; omega) | exact congrArg _ (by unfold okZ; exact (decide_eq_false (by omega)).symm) | exact congrArg _ (by unfold okZ; exact (decide_eq_true (by omega)).symm), rfl⟩⟩
  refine .skip <| .seq <| .block fun K1 hK1 => .seq <| .r <| .w 8 .mvI <| .w 9 .mvI <| .w 10 .eql <| .nil ?_
  refine .cd (fun C1 => ?_) (fun C1 => ?_)
  · --
    refine .seq <| .r <| .w 2 .asB <| .nil ?_
    refine .ret ⟨.bool true, Res.one rfl rfl, ⟨by first | exact congrArg _ (by unfold okZ; rw [decide_eq_decide]; omega) | exact congrArg _ (by unfold okZ; exact (decide_eq_false (by omega)).symm) | exact congrArg _ (by unfold okZ; exact (decide_eq_true (by omega)).symm), rfl⟩⟩
  refine .skip <| .end <| hK1 _ _ <| .r <| .w 6 .mvI <| .w 7 (.mulI (b := 2)) <| .w 3 .asI <| .nil ?_
  refine .end <| hJ0 _ _ _ ⟨k * 2, ⟨rfl, rfl, trivial⟩, rfl, by omega, by omega, rfl⟩ (by omega)

theorem okF_t {z1 z2 : Int} {l : List UInt8} (h : 1 ≤ z1 ∧ z1 ≤ 1048576 ∧ 0 ≤ z2 ∧ z2 ≤ 1048576) : okF ⟨z1, z2, l⟩ = okSz l.length := by simp [okF, h]
theorem okF_f {z1 z2 : Int} {l : List UInt8} (h : ¬ (1 ≤ z1 ∧ z1 ≤ 1048576 ∧ 0 ≤ z2 ∧ z2 ≤ 1048576)) : okF ⟨z1, z2, l⟩ = false := by
  simp only [okF, decide_eq_false h, Bool.false_and]

set_option maxRecDepth 100000 in
set_option maxHeartbeats 2000000 in
theorem isframe_any {h : Heap} {F E : Nat → Prop} {z1 z2 : Int} {a : Option Addr} {c : Nat} {l : List UInt8} (hl : RdL h F E (a, l.length, c) l) :
    HC Try.prog 63 #[.agg #[.int .i64 z1, .int .i64 z2, .slice a l.length c]] h (fun v h' => v = .bool (okF ⟨z1, z2, l⟩) ∧ Ext h h') := by
  have hc2 := hl.m
  have hc1 : l.length ≤ c := hl.c
  simp only at hc2
  have ok := (Hp.nil h none_).arg hl
  refine HC.go Try.func63 27 ?_
  refine .seq <| .r <| .a' 1 (.bxA (cs := [.int .i64 z1, .int .i64 z2, .slice a l.length c]) ok) ?_
  rintro _ η1 ⟨pb1, rfl, ok, xe⟩
  refine .w 2 .asB <| .nil ?_
  refine .seq <| .r <| .w 3 (.fa T.fd38_0) <| .w 4 (.ldx T.ag3 ok.m0) <| .w 5 .geq <| .w 6 .mvB <| .sd (fun G6 => ?_) (fun G6 => ?_)
  ·
    refine .w 7 (.fa T.fd38_0) <| .w 8 (.ldx T.ag3 ok.m0) <| .w 9 .leq <| .w 10 .pkt <| .w 11 .mvB <| .sd (fun G11 => ?_) (fun G11 => ?_)
    ·
      refine .w 12 (.fa T.fd38_1) <| .w 13 (.ldx T.ag3 ok.m0) <| .w 14 .geq <| .w 15 .pkt <| .w 16 .mvB <| .sd (fun G16 => ?_) (fun G16 => ?_)
      ·
        refine .w 17 (.fa T.fd38_1) <| .w 18 (.ldx T.ag3 ok.m0) <| .w 19 .leq <| .w 20 .pkt <| .w 21 .mvB <| .sd (fun G21 => ?_) (fun G21 => ?_)
        ·
          refine .w 22 (.fa T.fd38_2) <| .w 23 (.ldx T.ag22 ok.m0) <| .w 24 (.len T.el22) <| .k 25 .func (size_any (z := (l.length : Int)) (by omega)) <| .w 26 .pkt <| .w 2 .asB <| .nil ?_
          refine .ret ⟨.bool (okZ (l.length : Int)), Res.one rfl rfl, ⟨by first | exact congrArg _ (by rw [okZ_nat, okF_t (by omega)]) | exact congrArg _ (okF_f (by omega)).symm, ok.chg⟩⟩
        refine .x 22 <| .x 23 <| .x 24 <| .x 25 <| .w 26 .pkf <| .w 2 .asB <| .nil ?_
        refine .ret ⟨.bool false, Res.one rfl rfl, ⟨by first | exact congrArg _ (by rw [okZ_nat, okF_t (by omega)]) | exact congrArg _ (okF_f (by omega)).symm, ok.chg⟩⟩
      refine .x 17 <| .x 18 <| .x 19 <| .w 20 .pkf <| .w 21 .mvB <| .x 22 <| .x 23 <| .x 24 <| .x 25 <| .w 26 .pkf <| .w 2 .asB <| .nil ?_
      refine .ret ⟨.bool false, Res.one rfl rfl, ⟨by first | exact congrArg _ (by rw [okZ_nat, okF_t (by omega)]) | exact congrArg _ (okF_f (by omega)).symm, ok.chg⟩⟩
    refine .x 12 <| .x 13 <| .x 14 <| .w 15 .pkf <| .w 16 .mvB <| .x 17 <| .x 18 <| .x 19 <| .w 20 .pkf <| .w 21 .mvB <| .x 22 <| .x 23 <| .x 24 <| .x 25 <| .w 26 .pkf <| .w 2 .asB <| .nil ?_
    refine .ret ⟨.bool false, Res.one rfl rfl, ⟨by first | exact congrArg _ (by rw [okZ_nat, okF_t (by omega)]) | exact congrArg _ (okF_f (by omega)).symm, ok.chg⟩⟩
  refine .x 7 <| .x 8 <| .x 9 <| .w 10 .pkf <| .w 11 .mvB <| .x 12 <| .x 13 <| .x 14 <| .w 15 .pkf <| .w 16 .mvB <| .x 17 <| .x 18 <| .x 19 <| .w 20 .pkf <| .w 21 .mvB <| .x 22 <| .x 23 <| .x 24 <| .x 25 <| .w 26 .pkf <| .w 2 .asB <| .nil ?_
  refine .ret ⟨.bool false, Res.one rfl rfl, ⟨by first | exact congrArg _ (by rw [okZ_nat, okF_t (by omega)]) | exact congrArg _ (okF_f (by omega)).symm, ok.chg⟩⟩

set_option maxRecDepth 100000 in
set_option maxHeartbeats 2000000 in
theorem may_any {h : Heap} {F E : Nat → Prop} {z1 z2 : Int} {a : Option Addr} {c : Nat} {l : List UInt8} (hl : RdL h F E (a, l.length, c) l) :
    HC Try.prog 25 #[.agg #[.int .i64 z1, .int .i64 z2, .slice a l.length c]] h (fun v h' => v = .bool (okF ⟨z1, z2, l⟩) ∧ Ext h h') := by
  have hc2 := hl.m
  have hc1 : l.length ≤ c := hl.c
  simp only at hc2
  have ok := (Hp.nil h none_).arg hl
  refine HC.go Try.func25 27 ?_
  refine .seq <| .r <| .a' 1 (.bxA (cs := [.int .i64 z1, .int .i64 z2, .slice a l.length c]) ok) ?_
  rintro _ η1 ⟨pb1, rfl, ok, xe⟩
  refine .w 2 .asB <| .nil ?_
  refine .seq <| .r <| .w 3 (.fa T.fd38_0) <| .w 4 (.ldx T.ag3 ok.m0) <| .w 5 .geq <| .w 6 .mvB <| .sd (fun G6 => ?_) (fun G6 => ?_)
  ·
    refine .w 7 (.fa T.fd38_0) <| .w 8 (.ldx T.ag3 ok.m0) <| .w 9 .leq <| .w 10 .pkt <| .w 11 .mvB <| .sd (fun G11 => ?_) (fun G11 => ?_)
    ·
      refine .w 12 (.fa T.fd38_1) <| .w 13 (.ldx T.ag3 ok.m0) <| .w 14 .geq <| .w 15 .pkt <| .w 16 .mvB <| .sd (fun G16 => ?_) (fun G16 => ?_)
      ·
        refine .w 17 (.fa T.fd38_1) <| .w 18 (.ldx T.ag3 ok.m0) <| .w 19 .leq <| .w 20 .pkt <| .w 21 .mvB <| .sd (fun G21 => ?_) (fun G21 => ?_)
        ·
          refine .w 22 (.fa T.fd38_2) <| .w 23 (.ldx T.ag22 ok.m0) <| .w 24 (.len T.el22) <| .k 25 .func (rsize_any (z := (l.length : Int)) (by omega)) <| .w 26 .pkt <| .w 2 .asB <| .nil ?_
          refine .ret ⟨.bool (okZ (l.length : Int)), Res.one rfl rfl, ⟨by first | exact congrArg _ (by rw [okZ_nat, okF_t (by omega)]) | exact congrArg _ (okF_f (by omega)).symm, ok.chg⟩⟩
        refine .x 22 <| .x 23 <| .x 24 <| .x 25 <| .w 26 .pkf <| .w 2 .asB <| .nil ?_
        refine .ret ⟨.bool false, Res.one rfl rfl, ⟨by first | exact congrArg _ (by rw [okZ_nat, okF_t (by omega)]) | exact congrArg _ (okF_f (by omega)).symm, ok.chg⟩⟩
      refine .x 17 <| .x 18 <| .x 19 <| .w 20 .pkf <| .w 21 .mvB <| .x 22 <| .x 23 <| .x 24 <| .x 25 <| .w 26 .pkf <| .w 2 .asB <| .nil ?_
      refine .ret ⟨.bool false, Res.one rfl rfl, ⟨by first | exact congrArg _ (by rw [okZ_nat, okF_t (by omega)]) | exact congrArg _ (okF_f (by omega)).symm, ok.chg⟩⟩
    refine .x 12 <| .x 13 <| .x 14 <| .w 15 .pkf <| .w 16 .mvB <| .x 17 <| .x 18 <| .x 19 <| .w 20 .pkf <| .w 21 .mvB <| .x 22 <| .x 23 <| .x 24 <| .x 25 <| .w 26 .pkf <| .w 2 .asB <| .nil ?_
    refine .ret ⟨.bool false, Res.one rfl rfl, ⟨by first | exact congrArg _ (by rw [okZ_nat, okF_t (by omega)]) | exact congrArg _ (okF_f (by omega)).symm, ok.chg⟩⟩
  refine .x 7 <| .x 8 <| .x 9 <| .w 10 .pkf <| .w 11 .mvB <| .x 12 <| .x 13 <| .x 14 <| .w 15 .pkf <| .w 16 .mvB <| .x 17 <| .x 18 <| .x 19 <| .w 20 .pkf <| .w 21 .mvB <| .x 22 <| .x 23 <| .x 24 <| .x 25 <| .w 26 .pkf <| .w 2 .asB <| .nil ?_
  refine .ret ⟨.bool false, Res.one rfl rfl, ⟨by first | exact congrArg _ (by rw [okZ_nat, okF_t (by omega)]) | exact congrArg _ (okF_f (by omega)).symm, ok.chg⟩⟩

set_option maxRecDepth 100000 in
set_option maxHeartbeats 2000000 in
theorem four_any {h : Heap} {n : Nat} (hn : n < 9223372036854775808) :
    HC Try.prog 58 #[.int .i64 (n : Int)] h (fun v h' => Own h h' 1 5 v ((fixedN n 4).map bv)) := by
  have ok := Hp.nil h none_
  refine HC.go Try.func58 6 ?_
  refine .seq <| .r <| .w 2 .asS <| .nil ?_
  refine .seq <| .r <| .w 3 .mvI <| .w 4 (.cvs T.in25 T.in3 (M := 18446744073709551616) rfl rfl) <| .c' 5 .func (fixed_any (n := n) (size := 4) (by omega) (by omega) (by omega)) ?_
  rintro _ η1 own
  obtain ⟨ya1, yc1, rfl⟩ := own.formB
  have ok := ok.own own
  refine .w 2 .asS <| .nil ?_
  refine .ret ⟨.slice ya1 ((fixedN n 4).length) yc1, Res.one rfl rfl, ok.toOwn⟩

set_option maxRecDepth 100000 in
set_option maxHeartbeats 2000000 in
theorem start_bad {h : Heap} {z : Int} {salt : Nat} (hz : -9223372036854775808 ≤ z ∧ z ≤ 9223372036854775807) (hk : okZ z = false) :
    HC Try.prog 20 #[.int .i64 z, .int .u64 (salt : Int)] h (fun v h' => v = .tuple #[.slice none 0 0, .int .i64 1] ∧ h' = h) := by
  refine HC.go Try.func20 18 ?_
  refine .seq <| .r <| .w 4 .asS <| .w 5 .asI <| .nil ?_
  refine .seq <| .seq <| .r <| .w 6 .mvI <| .k 7 .func (size_any (z := z) (by omega)) <| .w 8 .not <| .nil ?_
  refine .cond (fun C0 => ?_) (fun C0 => ?_)
  · --
    refine .seq <| .r <| .w 4 .asS <| .w 5 .asI <| .nil ?_
    refine .ret ⟨.tuple #[.slice none 0 0, .int .i64 1], Res.two rfl rfl rfl, ⟨rfl, rfl⟩⟩
  exact absurd hk (by simpa using C0)

set_option maxRecDepth 100000 in
set_option maxHeartbeats 2000000 in
theorem start_ok {h : Heap} {n salt : Nat} (hn : n < 9223372036854775808) (hs : salt < 18446744073709551616) (hk : okZ (n : Int) = true) :
    HC Try.prog 20 #[.int .i64 (n : Int), .int .u64 (salt : Int)] h (fun v h' => ∃ w, v = .tuple #[w, .int .i64 0] ∧ Own h h' 1 5 w ((headN n salt).map bv)) := by
  have ok := Hp.nil h none_
  refine HC.go Try.func20 18 ?_
  refine .seq <| .r <| .w 4 .asS <| .w 5 .asI <| .nil ?_
  refine .seq <| .seq <| .r <| .w 6 .mvI <| .k 7 .func (size_any (z := (n : Int)) (by omega)) <| .w 8 .not <| .nil ?_
  refine .cond (fun C0 => ?_) (fun C0 => ?_)
  · --
    rw [hk] at C0; exact absurd C0 (by decide)
  refine .skip <| .seq <| .r <| .a' 9 (.lit [.const (.int .u8 116), .const (.int .u8 111), .const (.int .u8 109), .const (.int .u8 101)] (cs := [.int .u8 116, .int .u8 111, .int .u8 109, .int .u8 101]) T.el22 T.sz5 T.zr5 ok ⟨rfl, rfl, rfl, rfl, trivial⟩) ?_
  rintro _ η1 ⟨pb1, rfl, ok, xe⟩
  have ok := ok.cx (ys := ([116, 111, 109, 101] : List UInt8).map bv) rfl
  refine .a' 10 (.cvL T.el22 T.in5 ok) ?_
  rintro _ η2 ⟨rfl, ok, cg⟩
  refine .w 11 .mvI <| .c' 12 .func (four_any (n := n) (by omega)) ?_
  rintro _ η3 own
  obtain ⟨ya1, yc1, rfl⟩ := own.formB
  have ok := ok.own own
  refine .w 13 .mvI <| .c' 14 .func (fixed_any (n := salt) (size := 8) (by omega) (by omega) (by omega)) ?_
  rintro _ η4 own
  obtain ⟨ya2, yc2, rfl⟩ := own.formB
  have ok := ok.own own
  refine .a' 15 (.lit [.tmp 10, .tmp 12, .tmp 14] (cs := [.slice (some ⟨pb1, 0, none⟩) 4 4, .slice ya1 ((fixedN n 4).length) yc1, .slice ya2 ((fixedN salt 8).length) yc2]) T.el143 T.sz22 T.zr22 ok ⟨rfl, rfl, rfl, trivial⟩) ?_
  rintro _ η5 ⟨pb2, rfl, ok, xe⟩
  refine .c' 16 .func (njoin_any (a := some ⟨pb2, 0, none⟩) (c := 3) (L := [[116, 111, 109, 101], (fixedN n 4), (fixedN salt 8)]) (RdL.rows (v := (some ⟨pb2, 0, none⟩, 3, 3)) (xs := [(some ⟨pb1, 0, none⟩, 4, 4), (ya1, (fixedN n 4).length, yc1), (ya2, (fixedN salt 8).length, yc2)]) (ls := [[116, 111, 109, 101], (fixedN n 4), (fixedN salt 8)]) ok.m0 ⟨⟨_, _, (RdL.ofCapB (v := (some ⟨pb1, 0, none⟩, 4, 4)) (l := [116, 111, 109, 101]) ok.m3)⟩, ⟨_, _, (RdL.ofCapB (v := (ya1, (fixedN n 4).length, yc1)) (l := (fixedN n 4)) ok.m2)⟩, ⟨_, _, (RdL.ofCapB (v := (ya2, (fixedN salt 8).length, yc2)) (l := (fixedN salt 8)) ok.m1)⟩, trivial⟩) (by simp [fixedN_len] <;> omega)) ?_
  rintro _ η6 own
  obtain ⟨ya3, yc3, rfl⟩ := own.formB
  have ok := ok.own own
  refine .c' 17 .func (seal_any (a := ya3) (c := yc3) (l := ([[116, 111, 109, 101], (fixedN n 4), (fixedN salt 8)]).flatten) (RdL.ofCapB (v := (ya3, (([[116, 111, 109, 101], (fixedN n 4), (fixedN salt 8)]).flatten).length, yc3)) (l := (([[116, 111, 109, 101], (fixedN n 4), (fixedN salt 8)]).flatten)) ok.m0) (by simp [fixedN_len] <;> omega)) ?_
  rintro _ η7 own
  obtain ⟨ya4, yc4, rfl⟩ := own.formB
  have ok := ok.own own
  refine .w 4 .asS <| .w 5 .asI <| .nil ?_
  refine .ret ⟨.tuple #[.slice ya4 ((sealN (([[116, 111, 109, 101], (fixedN n 4), (fixedN salt 8)]).flatten)).length) yc4, .int .i64 0], Res.two rfl rfl rfl, _, rfl, by have := ok.toOwn; simpa [headN] using this⟩

set_option maxRecDepth 100000 in
set_option maxHeartbeats 2000000 in
theorem rstart_bad {h : Heap} {z : Int} {salt : Nat} (hz : -9223372036854775808 ≤ z ∧ z ≤ 9223372036854775807) (hk : okZ z = false) :
    HC Try.prog 21 #[.int .i64 z, .int .u64 (salt : Int)] h (fun v h' => v = .tuple #[.slice none 0 0, .int .i64 1] ∧ h' = h) := by
  refine HC.go Try.func21 20 ?_
  refine .seq <| .r <| .w 4 .asS <| .w 5 .asI <| .nil ?_
  refine .seq <| .seq <| .r <| .w 7 .mvI <| .k 8 .func (rsize_any (z := z) (by omega)) <| .w 9 .not <| .nil ?_
  refine .cond (fun C0 => ?_) (fun C0 => ?_)
  · --
    refine .seq <| .r <| .w 4 .asS <| .w 5 .asI <| .nil ?_
    refine .ret ⟨.tuple #[.slice none 0 0, .int .i64 1], Res.two rfl rfl rfl, ⟨rfl, rfl⟩⟩
  exact absurd hk (by simpa using C0)

set_option maxRecDepth 100000 in
set_option maxHeartbeats 2000000 in
theorem rstart_ok {h : Heap} {n salt : Nat} (hn : n < 9223372036854775808) (hs : salt < 18446744073709551616) (hk : okZ (n : Int) = true) :
    HC Try.prog 21 #[.int .i64 (n : Int), .int .u64 (salt : Int)] h (fun v h' => ∃ w, v = .tuple #[w, .int .i64 0] ∧ Own h h' 1 5 w ((headN n salt).map bv)) := by
  have ok := Hp.nil h none_
  refine HC.go Try.func21 20 ?_
  refine .seq <| .r <| .w 4 .asS <| .w 5 .asI <| .nil ?_
  refine .seq <| .seq <| .r <| .w 7 .mvI <| .k 8 .func (rsize_any (z := (n : Int)) (by omega)) <| .w 9 .not <| .nil ?_
  refine .cond (fun C0 => ?_) (fun C0 => ?_)
  · --
    rw [hk] at C0; exact absurd C0 (by decide)
  refine .skip <| .seq <| .r <| .a' 10 (.lit [.const (.int .u8 116), .const (.int .u8 111), .const (.int .u8 109), .const (.int .u8 101)] (cs := [.int .u8 116, .int .u8 111, .int .u8 109, .int .u8 101]) T.el22 T.sz5 T.zr5 ok ⟨rfl, rfl, rfl, rfl, trivial⟩) ?_
  rintro _ η1 ⟨pb1, rfl, ok, xe⟩
  have ok := ok.cx (ys := ([116, 111, 109, 101] : List UInt8).map bv) rfl
  refine .w 11 .mvI <| .w 12 (.cvs T.in25 T.in3 (M := 18446744073709551616) rfl rfl) <| .c' 13 .func (rfixed_any (n := n) (size := 4) (by omega) (by omega) (by omega)) ?_
  rintro _ η2 own
  obtain ⟨ya1, yc1, rfl⟩ := own.formB
  have ok := ok.own own
  refine .a' 14 (.app (news := (fixedN n 4).map bv) T.el22 T.sz5 T.by5 T.zr5 ok.n1 (ok.n1.m1).sl bv_all (by simp only [List.length_map, List.length_append, List.length_take, List.length_cons, List.length_nil, List.length_replicate, List.length_range, fixedN_len, sealN_len]; omega)) ?_
  rintro _ η3 ⟨ya2, yn2, yc2, rfl, ok, ap⟩
  have ok := ok.cx (ys := ([116, 111, 109, 101] ++ (fixedN n 4)).map bv) (by simp [bv])
  obtain rfl : yn2 = ([116, 111, 109, 101] ++ (fixedN n 4)).length := ok.lenB
  refine .w 6 .asS <| .nil ?_
  refine .seq <| .r <| .w 15 .mvS <| .w 16 .mvI <| .c' 17 .func (rfixed_any (n := salt) (size := 8) (by omega) (by omega) (by omega)) ?_
  rintro _ η4 own
  obtain ⟨ya3, yc3, rfl⟩ := own.formB
  have ok := ok.own own
  refine .a' 18 (.app (news := (fixedN salt 8).map bv) T.el22 T.sz5 T.by5 T.zr5 ok.n1 (ok.n1.m1).sl bv_all (by simp only [List.length_map, List.length_append, List.length_take, List.length_cons, List.length_nil, List.length_replicate, List.length_range, fixedN_len, sealN_len]; omega)) ?_
  rintro _ η5 ⟨ya4, yn4, yc4, rfl, ok, ap⟩
  have ok := ok.cx (ys := ([116, 111, 109, 101] ++ (fixedN n 4) ++ (fixedN salt 8)).map bv) (by simp [bv])
  obtain rfl : yn4 = ([116, 111, 109, 101] ++ (fixedN n 4) ++ (fixedN salt 8)).length := ok.lenB
  refine .c' 19 .func (rseal_any (a := ya4) (c := yc4) (l := [116, 111, 109, 101] ++ (fixedN n 4) ++ (fixedN salt 8)) (RdL.ofCapB (v := (ya4, ([116, 111, 109, 101] ++ (fixedN n 4) ++ (fixedN salt 8)).length, yc4)) (l := ([116, 111, 109, 101] ++ (fixedN n 4) ++ (fixedN salt 8))) ok.m0) (by simp [fixedN_len] <;> omega)) ?_
  rintro _ η6 own
  obtain ⟨ya5, yc5, rfl⟩ := own.formB
  have ok := ok.own own
  refine .w 4 .asS <| .w 5 .asI <| .nil ?_
  refine .ret ⟨.tuple #[.slice ya5 ((sealN ([116, 111, 109, 101] ++ (fixedN n 4) ++ (fixedN salt 8))).length) yc5, .int .i64 0], Res.two rfl rfl rfl, _, rfl, by have := ok.toOwn; simpa [headN] using this⟩

end Go.Proofs.Ytpebbkhainpfaaa

namespace Go.Proofs.Ytpebbkhainpfaaa
open Go Go.HL
theorem linkN_eq (p q : Nat) (r : Nat) (l : List UInt8) : linkN r ⟨(p : Int), (q : Int), l⟩ = nextN r (fixedN p 4 ++ fixedN q 4 ++ l) := rfl

set_option maxRecDepth 100000 in
set_option maxHeartbeats 2000000 in
theorem link_any {h : Heap} {F E : Nat → Prop} {p q r : Nat} {a : Option Addr} {c : Nat} {l : List UInt8} (hp : p < 9223372036854775808) (hq : q < 9223372036854775808) (hr : r < 18446744073709551616) (hN : l.length ≤ 100000000) (hl : RdL h F E (a, l.length, c) l) :
    HC Try.prog 64 #[.int .u64 (r : Int), .agg #[.int .i64 (p : Int), .int .i64 (q : Int), .slice a l.length c]] h (fun v h' => v = .int .u64 ((linkN r ⟨(p : Int), (q : Int), l⟩ : Nat) : Int) ∧ Ext h h') := by
  have hc2 := hl.m
  have hc1 : l.length ≤ c := hl.c
  simp only at hc2
  have ok := (Hp.nil h none_).arg hl
  refine HC.go Try.func64 17 ?_
  refine .seq <| .r <| .a' 3 (.bxA (cs := [.int .i64 (p : Int), .int .i64 (q : Int), .slice a l.length c]) ok) ?_
  rintro _ η1 ⟨pb1, rfl, ok, xe⟩
  refine .w 4 .asI <| .nil ?_
  refine .seq <| .a 13 (fun fl hh => Hp h none_ [boxI pb1 38 [.int .i64 (p : Int), .int .i64 (q : Int), .slice a l.length c]] [rdI (fun j => F j ∧ j < h.size) (fun j => E j ∧ j < h.size) (a, l.length, c) l] hh) mixed ?_
  have hS := ok
  refine .g 0 false rfl 5 hS (fun _ => .mvI) <| .g 1 false rfl 6 hS (fun _ => .fa T.fd38_0) <| .lw 2 false rfl 7 hS (fun _ _ hS => .ldx T.ag3 hS.m0) <| .g 4 false rfl 9 hS (fun _ => .fa T.fd38_1) <| .lw 5 false rfl 10 hS (fun _ _ hS => .ldx T.ag3 hS.m0) <| .g 7 false rfl 12 hS (fun _ => .fa T.fd38_2) <| .lw 8 false rfl 13 hS (fun _ _ hS => .ldx T.ag22 hS.m0) <| .o1 3 <| .c' false rfl 8 .func (four_any (n := p) (by omega)) ?_
  rintro _ η2 own
  obtain ⟨ya1, yc1, rfl⟩ := own.formB
  have ok := ok.own own
  refine ⟨ok.n1.k1, ?_⟩
  have hS := ok.n1.k1
  refine .o1 6 <| .c' false rfl 11 .func (four_any (n := q) (by omega)) ?_
  rintro _ η3 own
  obtain ⟨ya2, yc2, rfl⟩ := own.formB
  have ok := ok.own own
  refine ⟨ok.n2.k1, ?_⟩
  have hS := ok.n2.k1
  refine .o1 9 <| .a' false rfl 14 (.lit [.tmp 8, .tmp 11, .tmp 13] (cs := [.slice ya1 ((fixedN p 4).length) yc1, .slice ya2 ((fixedN q 4).length) yc2, .slice a l.length c]) T.el143 T.sz22 T.zr22 ok ⟨rfl, rfl, rfl, trivial⟩) ?_
  rintro _ η4 ⟨pb2, rfl, ok, xe⟩
  refine ⟨ok.n3.k1, ?_⟩
  have hS := ok.n3.k1
  refine .o1 10 <| .c' false rfl 15 .func (njoin_any (a := some ⟨pb2, 0, none⟩) (c := 3) (L := [(fixedN p 4), (fixedN q 4), l]) (RdL.rows (v := (some ⟨pb2, 0, none⟩, 3, 3)) (xs := [(ya1, (fixedN p 4).length, yc1), (ya2, (fixedN q 4).length, yc2), (a, l.length, c)]) (ls := [(fixedN p 4), (fixedN q 4), l]) ok.m0 ⟨⟨_, _, (RdL.ofCapB (v := (ya1, (fixedN p 4).length, yc1)) (l := (fixedN p 4)) ok.m2)⟩, ⟨_, _, (RdL.ofCapB (v := (ya2, (fixedN q 4).length, yc2)) (l := (fixedN q 4)) ok.m1)⟩, ⟨_, _, ok.r0⟩, trivial⟩) (by simp [fixedN_len] <;> omega)) ?_
  rintro _ η5 own
  obtain ⟨ya3, yc3, rfl⟩ := own.formB
  have ok := ok.own own
  refine ⟨ok.n4.k1, ?_⟩
  have hS := ok.n4.k1
  refine .o1 11 <| .k false rfl 16 .func (next_any (by omega) (a := ya3) (c := yc3) (l := ([(fixedN p 4), (fixedN q 4), l]).flatten) (RdL.ofCapB (v := (ya3, (([(fixedN p 4), (fixedN q 4), l]).flatten).length, yc3)) (l := (([(fixedN p 4), (fixedN q 4), l]).flatten)) ok.m0)) hS <| .g 12 false rfl 4 hS (fun _ => .asI) <| .e ?_
  refine .ret ⟨.int .u64 ((nextN r (([(fixedN p 4), (fixedN q 4), l]).flatten) : Nat) : Int), Res.one rfl rfl, ⟨by rw [linkN_eq]; simp, ok.chg⟩⟩

set_option maxRecDepth 100000 in
set_option maxHeartbeats 2000000 in
theorem rlink_any {h : Heap} {F E : Nat → Prop} {p q r : Nat} {a : Option Addr} {c : Nat} {l : List UInt8} (hp : p < 9223372036854775808) (hq : q < 9223372036854775808) (hr : r < 18446744073709551616) (hN : l.length ≤ 100000000) (hl : RdL h F E (a, l.length, c) l) :
    HC Try.prog 51 #[.int .u64 (r : Int), .agg #[.int .i64 (p : Int), .int .i64 (q : Int), .slice a l.length c]] h (fun v h' => v = .int .u64 ((linkN r ⟨(p : Int), (q : Int), l⟩ : Nat) : Int) ∧ Ext h h') := by
  have hc2 := hl.m
  have hc1 : l.length ≤ c := hl.c
  simp only at hc2
  have ok := (Hp.nil h none_).arg hl
  refine HC.go Try.func51 21 ?_
  refine .seq <| .r <| .a' 3 (.bxA (cs := [.int .i64 (p : Int), .int .i64 (q : Int), .slice a l.length c]) ok) ?_
  rintro _ η1 ⟨pb1, rfl, ok, xe⟩
  refine .w 4 .asI <| .nil ?_
  refine .seq <| .a 10 (fun fl hh => Hp h none_ [boxI pb1 38 [.int .i64 (p : Int), .int .i64 (q : Int), .slice a l.length c]] [rdI (fun j => F j ∧ j < h.size) (fun j => E j ∧ j < h.size) (a, l.length, c) l] hh) mixed ?_
  have hS := ok
  refine .g 0 false rfl 6 hS (fun _ => .fa T.fd38_0) <| .lw 1 false rfl 7 hS (fun _ _ hS => .ldx T.ag3 hS.m0) <| .g 2 false rfl 8 hS (fun _ => .cvs T.in25 T.in3 (M := 18446744073709551616) rfl rfl) <| .g 4 false rfl 10 hS (fun _ => .fa T.fd38_1) <| .lw 5 false rfl 11 hS (fun _ _ hS => .ldx T.ag3 hS.m0) <| .g 6 false rfl 12 hS (fun _ => .cvs T.in25 T.in3 (M := 18446744073709551616) rfl rfl) <| .o1 3 <| .c' false rfl 9 .func (rfixed_any (n := p) (size := 4) (by omega) (by omega) (by omega)) ?_
  rintro _ η2 own
  obtain ⟨ya1, yc1, rfl⟩ := own.formB
  have ok := ok.own own
  refine ⟨ok.n1.k1, ?_⟩
  have hS := ok.n1.k1
  refine .o1 7 <| .c' false rfl 13 .func (rfixed_any (n := q) (size := 4) (by omega) (by omega) (by omega)) ?_
  rintro _ η3 own
  obtain ⟨ya2, yc2, rfl⟩ := own.formB
  have ok := ok.own own
  refine ⟨ok.n2.k1, ?_⟩
  have hS := ok.n2.k1
  refine .o1 8 <| .a' false rfl 14 (.app (news := (fixedN q 4).map bv) T.el22 T.sz5 T.by5 T.zr5 ok.n1 (ok.n1.m1).sl bv_all (by simp only [List.length_map, List.length_append, List.length_take, List.length_cons, List.length_nil, List.length_replicate, List.length_range, fixedN_len, sealN_len]; omega)) ?_
  rintro _ η4 ⟨ya3, yn3, yc3, rfl, ok, ap⟩
  have ok := ok.cx (ys := ((fixedN p 4) ++ (fixedN q 4)).map bv) (by simp [bv])
  obtain rfl : yn3 = ((fixedN p 4) ++ (fixedN q 4)).length := ok.lenB
  refine ⟨ok.n2.k1, ?_⟩
  have hS := ok.n2.k1
  refine .g 9 false rfl 5 hS (fun _ => .asS) <| .e ?_
  refine .seq <| .r <| .w 15 .mvI <| .w 16 .mvS <| .w 17 (.fa T.fd38_2) <| .w 18 (.ldx T.ag22 ok.m2) <| .a' 19 (.app (news := l.map bv) T.el22 T.sz5 T.by5 T.zr5 ok (ok.r0).by bv_all (by simp only [List.length_map, List.length_append, List.length_take, List.length_cons, List.length_nil, List.length_replicate, List.length_range, fixedN_len, sealN_len]; omega)) ?_
  rintro _ η5 ⟨ya4, yn4, yc4, rfl, ok, ap⟩
  have ok := ok.cx (ys := ((fixedN p 4) ++ (fixedN q 4) ++ l).map bv) (by simp [bv])
  obtain rfl : yn4 = ((fixedN p 4) ++ (fixedN q 4) ++ l).length := ok.lenB
  refine .k 20 .func (rnext_any (by omega) (a := ya4) (c := yc4) (l := (fixedN p 4) ++ (fixedN q 4) ++ l) (RdL.ofCapB (v := (ya4, ((fixedN p 4) ++ (fixedN q 4) ++ l).length, yc4)) (l := ((fixedN p 4) ++ (fixedN q 4) ++ l)) ok.m0)) <| .w 4 .asI <| .nil ?_
  refine .ret ⟨.int .u64 ((nextN r ((fixedN p 4) ++ (fixedN q 4) ++ l) : Nat) : Int), Res.one rfl rfl, ⟨by rw [linkN_eq], ok.chg⟩⟩

set_option maxRecDepth 100000 in
set_option maxHeartbeats 2000000 in
theorem put_ok {h : Heap} {F E : Nat → Prop} {p q r : Nat} {a : Option Addr} {c : Nat} {l : List UInt8} (hp : p < 9223372036854775808) (hq : q < 9223372036854775808) (hr : r < 18446744073709551616) (hF : okF ⟨(p : Int), (q : Int), l⟩ = true) (hN : l.length ≤ 100000000) (hl : RdL h F E (a, l.length, c) l) :
    HC Try.prog 22 #[.int .u64 (r : Int), .agg #[.int .i64 (p : Int), .int .i64 (q : Int), .slice a l.length c]] h (fun v h' => ∃ w, v = .tuple #[w, .int .u64 ((linkN r ⟨(p : Int), (q : Int), l⟩ : Nat) : Int), .int .i64 0] ∧ Own h h' 1 5 w ((putN r ⟨(p : Int), (q : Int), l⟩).map bv)) := by
  have hc2 := hl.m
  have hc1 : l.length ≤ c := hl.c
  simp only at hc2
  have ok := (Hp.nil h none_).arg hl
  have hlk : linkN r ⟨(p : Int), (q : Int), l⟩ < 18446744073709551616 := nextN_lt hr _
  refine HC.go Try.func22 27 ?_
  refine .seq <| .r <| .a' 3 (.bxA (cs := [.int .i64 (p : Int), .int .i64 (q : Int), .slice a l.length c]) ok) ?_
  rintro _ η1 ⟨pb1, rfl, ok, xe⟩
  refine .w 4 .asS <| .w 5 .asI <| .w 6 .asI <| .nil ?_
  refine .seq <| .seq <| .r <| .w 8 (.ldb T.ag38 ok.m0 T.sz38) <| .c' 9 .func (isframe_any (z1 := (p : Int)) (z2 := (q : Int)) (a := a) (c := c) (l := l) ok.r0) ?_
  rintro _ η2 ⟨rfl, hx⟩
  have ok := ok.ext hx
  refine .w 10 .not <| .nil ?_
  refine .cond (fun C0 => ?_) (fun C0 => ?_)
  · --
    rw [hF] at C0; exact absurd C0 (by decide)
  refine .skip <| .seq <| .r <| .w 11 .mvI <| .w 12 (.ldb T.ag38 ok.m0 T.sz38) <| .c' 13 .func (link_any (p := p) (q := q) (r := r) (by omega) (by omega) (by omega) (by omega) (a := a) (c := c) (l := l) ok.r0) ?_
  rintro _ η3 ⟨rfl, hx⟩
  have ok := ok.ext hx
  refine .w 7 .asI <| .nil ?_
  refine .seq <| .a 16 (fun fl hh => Hp h none_ [boxI pb1 38 [.int .i64 (p : Int), .int .i64 (q : Int), .slice a l.length c]] [rdI (fun j => F j ∧ j < h.size) (fun j => E j ∧ j < h.size) (a, l.length, c) l] hh) mixed ?_
  have hS := ok
  refine .g 0 false rfl 14 hS (fun _ => .fa T.fd38_0) <| .lw 1 false rfl 15 hS (fun _ _ hS => .ldx T.ag3 hS.m0) <| .g 3 false rfl 17 hS (fun _ => .fa T.fd38_1) <| .lw 4 false rfl 18 hS (fun _ _ hS => .ldx T.ag3 hS.m0) <| .g 6 false rfl 20 hS (fun _ => .mvI) <| .g 8 false rfl 22 hS (fun _ => .fa T.fd38_2) <| .lw 9 false rfl 23 hS (fun _ _ hS => .ldx T.ag22 hS.m0) <| .g 12 false rfl 26 hS (fun _ => .mvI) <| .o1 2 <| .c' false rfl 16 .func (four_any (n := p) (by omega)) ?_
  rintro _ η4 own
  obtain ⟨ya1, yc1, rfl⟩ := own.formB
  have ok := ok.own own
  refine ⟨ok.n1.k1, ?_⟩
  have hS := ok.n1.k1
  refine .o1 5 <| .c' false rfl 19 .func (four_any (n := q) (by omega)) ?_
  rintro _ η5 own
  obtain ⟨ya2, yc2, rfl⟩ := own.formB
  have ok := ok.own own
  refine ⟨ok.n2.k1, ?_⟩
  have hS := ok.n2.k1
  refine .o1 7 <| .c' false rfl 21 .func (fixed_any (n := (linkN r ⟨(p : Int), (q : Int), l⟩)) (size := 8) (by omega) (by omega) (by omega)) ?_
  rintro _ η6 own
  obtain ⟨ya3, yc3, rfl⟩ := own.formB
  have ok := ok.own own
  refine ⟨ok.n3.k1, ?_⟩
  have hS := ok.n3.k1
  refine .o1 10 <| .a' false rfl 24 (.lit [.tmp 16, .tmp 19, .tmp 21, .tmp 23] (cs := [.slice ya1 ((fixedN p 4).length) yc1, .slice ya2 ((fixedN q 4).length) yc2, .slice ya3 ((fixedN (linkN r ⟨(p : Int), (q : Int), l⟩) 8).length) yc3, .slice a l.length c]) T.el143 T.sz22 T.zr22 ok ⟨rfl, rfl, rfl, rfl, trivial⟩) ?_
  rintro _ η7 ⟨pb2, rfl, ok, xe⟩
  refine ⟨ok.n4.k1, ?_⟩
  have hS := ok.n4.k1
  refine .o1 11 <| .c' false rfl 25 .func (njoin_any (a := some ⟨pb2, 0, none⟩) (c := 4) (L := [(fixedN p 4), (fixedN q 4), (fixedN (linkN r ⟨(p : Int), (q : Int), l⟩) 8), l]) (RdL.rows (v := (some ⟨pb2, 0, none⟩, 4, 4)) (xs := [(ya1, (fixedN p 4).length, yc1), (ya2, (fixedN q 4).length, yc2), (ya3, (fixedN (linkN r ⟨(p : Int), (q : Int), l⟩) 8).length, yc3), (a, l.length, c)]) (ls := [(fixedN p 4), (fixedN q 4), (fixedN (linkN r ⟨(p : Int), (q : Int), l⟩) 8), l]) ok.m0 ⟨⟨_, _, (RdL.ofCapB (v := (ya1, (fixedN p 4).length, yc1)) (l := (fixedN p 4)) ok.m3)⟩, ⟨_, _, (RdL.ofCapB (v := (ya2, (fixedN q 4).length, yc2)) (l := (fixedN q 4)) ok.m2)⟩, ⟨_, _, (RdL.ofCapB (v := (ya3, (fixedN (linkN r ⟨(p : Int), (q : Int), l⟩) 8).length, yc3)) (l := (fixedN (linkN r ⟨(p : Int), (q : Int), l⟩) 8)) ok.m1)⟩, ⟨_, _, ok.r0⟩, trivial⟩) (by simp [fixedN_len] <;> omega)) ?_
  rintro _ η8 own
  obtain ⟨ya4, yc4, rfl⟩ := own.formB
  have ok := ok.own own
  refine ⟨ok.n5.k1, ?_⟩
  have hS := ok.n5.k1
  refine .g 13 false rfl 4 hS (fun _ => .asS) <| .g 14 false rfl 5 hS (fun _ => .asI) <| .g 15 false rfl 6 hS (fun _ => .asI) <| .e ?_
  refine .ret ⟨.tuple #[.slice ya4 ((([(fixedN p 4), (fixedN q 4), (fixedN (linkN r ⟨(p : Int), (q : Int), l⟩) 8), l]).flatten).length) yc4, .int .u64 ((linkN r ⟨(p : Int), (q : Int), l⟩ : Nat) : Int), .int .i64 0], Res.three rfl rfl rfl rfl, _, rfl, by have := ok.toOwn; simpa [putN] using this⟩

set_option maxRecDepth 100000 in
set_option maxHeartbeats 2000000 in
theorem put_bad {h : Heap} {F E : Nat → Prop} {z1 z2 : Int} {r : Nat} {a : Option Addr} {c : Nat} {l : List UInt8} (hF : okF ⟨z1, z2, l⟩ = false) (hl : RdL h F E (a, l.length, c) l) :
    HC Try.prog 22 #[.int .u64 (r : Int), .agg #[.int .i64 z1, .int .i64 z2, .slice a l.length c]] h (fun v h' => v = .tuple #[.slice none 0 0, .int .u64 0, .int .i64 1] ∧ Ext h h') := by
  have hc2 := hl.m
  have hc1 : l.length ≤ c := hl.c
  simp only at hc2
  have ok := (Hp.nil h none_).arg hl
  refine HC.go Try.func22 27 ?_
  refine .seq <| .r <| .a' 3 (.bxA (cs := [.int .i64 z1, .int .i64 z2, .slice a l.length c]) ok) ?_
  rintro _ η1 ⟨pb1, rfl, ok, xe⟩
  refine .w 4 .asS <| .w 5 .asI <| .w 6 .asI <| .nil ?_
  refine .seq <| .seq <| .r <| .w 8 (.ldb T.ag38 ok.m0 T.sz38) <| .c' 9 .func (isframe_any (z1 := z1) (z2 := z2) (a := a) (c := c) (l := l) ok.r0) ?_
  rintro _ η2 ⟨rfl, hx⟩
  have ok := ok.ext hx
  refine .w 10 .not <| .nil ?_
  refine .cond (fun C0 => ?_) (fun C0 => ?_)
  · --
    refine .seq <| .r <| .w 4 .asS <| .w 5 .asI <| .w 6 .asI <| .nil ?_
    refine .ret ⟨.tuple #[.slice none 0 0, .int .u64 0, .int .i64 1], Res.three rfl rfl rfl rfl, ⟨rfl, ok.chg⟩⟩
  rw [hF] at C0; exact absurd C0 (by decide)

set_option maxRecDepth 100000 in
set_option maxHeartbeats 2000000 in
theorem rput_ok {h : Heap} {F E : Nat → Prop} {p q r : Nat} {a : Option Addr} {c : Nat} {l : List UInt8} (hp : p < 9223372036854775808) (hq : q < 9223372036854775808) (hr : r < 18446744073709551616) (hF : okF ⟨(p : Int), (q : Int), l⟩ = true) (hN : l.length ≤ 100000000) (hl : RdL h F E (a, l.length, c) l) :
    HC Try.prog 23 #[.int .u64 (r : Int), .agg #[.int .i64 (p : Int), .int .i64 (q : Int), .slice a l.length c]] h (fun v h' => ∃ w, v = .tuple #[w, .int .u64 ((linkN r ⟨(p : Int), (q : Int), l⟩ : Nat) : Int), .int .i64 0] ∧ Own h h' 1 5 w ((putN r ⟨(p : Int), (q : Int), l⟩).map bv)) := by
  have hc2 := hl.m
  have hc1 : l.length ≤ c := hl.c
  simp only at hc2
  have ok := (Hp.nil h none_).arg hl
  have hlk : linkN r ⟨(p : Int), (q : Int), l⟩ < 18446744073709551616 := nextN_lt hr _
  refine HC.go Try.func23 33 ?_
  refine .seq <| .r <| .a' 3 (.bxA (cs := [.int .i64 (p : Int), .int .i64 (q : Int), .slice a l.length c]) ok) ?_
  rintro _ η1 ⟨pb1, rfl, ok, xe⟩
  refine .w 4 .asS <| .w 5 .asI <| .w 6 .asI <| .nil ?_
  refine .seq <| .seq <| .r <| .w 9 (.ldb T.ag38 ok.m0 T.sz38) <| .c' 10 .func (may_any (z1 := (p : Int)) (z2 := (q : Int)) (a := a) (c := c) (l := l) ok.r0) ?_
  rintro _ η2 ⟨rfl, hx⟩
  have ok := ok.ext hx
  refine .w 11 .not <| .nil ?_
  refine .cond (fun C0 => ?_) (fun C0 => ?_)
  · --
    rw [hF] at C0; exact absurd C0 (by decide)
  refine .skip <| .seq <| .r <| .w 12 .mvI <| .w 13 (.ldb T.ag38 ok.m0 T.sz38) <| .c' 14 .func (rlink_any (p := p) (q := q) (r := r) (by omega) (by omega) (by omega) (by omega) (a := a) (c := c) (l := l) ok.r0) ?_
  rintro _ η3 ⟨rfl, hx⟩
  have ok := ok.ext hx
  refine .w 7 .asI <| .nil ?_
  refine .seq <| .a 10 (fun fl hh => Hp h none_ [boxI pb1 38 [.int .i64 (p : Int), .int .i64 (q : Int), .slice a l.length c]] [rdI (fun j => F j ∧ j < h.size) (fun j => E j ∧ j < h.size) (a, l.length, c) l] hh) mixed ?_
  have hS := ok
  refine .g 0 false rfl 15 hS (fun _ => .fa T.fd38_0) <| .lw 1 false rfl 16 hS (fun _ _ hS => .ldx T.ag3 hS.m0) <| .g 2 false rfl 17 hS (fun _ => .cvs T.in25 T.in3 (M := 18446744073709551616) rfl rfl) <| .g 4 false rfl 19 hS (fun _ => .fa T.fd38_1) <| .lw 5 false rfl 20 hS (fun _ _ hS => .ldx T.ag3 hS.m0) <| .g 6 false rfl 21 hS (fun _ => .cvs T.in25 T.in3 (M := 18446744073709551616) rfl rfl) <| .o1 3 <| .c' false rfl 18 .func (rfixed_any (n := p) (size := 4) (by omega) (by omega) (by omega)) ?_
  rintro _ η4 own
  obtain ⟨ya1, yc1, rfl⟩ := own.formB
  have ok := ok.own own
  refine ⟨ok.n1.k1, ?_⟩
  have hS := ok.n1.k1
  refine .o1 7 <| .c' false rfl 22 .func (rfixed_any (n := q) (size := 4) (by omega) (by omega) (by omega)) ?_
  rintro _ η5 own
  obtain ⟨ya2, yc2, rfl⟩ := own.formB
  have ok := ok.own own
  refine ⟨ok.n2.k1, ?_⟩
  have hS := ok.n2.k1
  refine .o1 8 <| .a' false rfl 23 (.app (news := (fixedN q 4).map bv) T.el22 T.sz5 T.by5 T.zr5 ok.n1 (ok.n1.m1).sl bv_all (by simp only [List.length_map, List.length_append, List.length_take, List.length_cons, List.length_nil, List.length_replicate, List.length_range, fixedN_len, sealN_len]; omega)) ?_
  rintro _ η6 ⟨ya3, yn3, yc3, rfl, ok, ap⟩
  have ok := ok.cx (ys := ((fixedN p 4) ++ (fixedN q 4)).map bv) (by simp [bv])
  obtain rfl : yn3 = ((fixedN p 4) ++ (fixedN q 4)).length := ok.lenB
  refine ⟨ok.n2.k1, ?_⟩
  have hS := ok.n2.k1
  refine .g 9 false rfl 8 hS (fun _ => .asS) <| .e ?_
  refine .seq <| .r <| .w 24 .mvS <| .w 25 .mvI <| .c' 26 .func (rfixed_any (n := (linkN r ⟨(p : Int), (q : Int), l⟩)) (size := 8) (by omega) (by omega) (by omega)) ?_
  rintro _ η7 own
  obtain ⟨ya4, yc4, rfl⟩ := own.formB
  have ok := ok.own own
  refine .a' 27 (.app (news := (fixedN (linkN r ⟨(p : Int), (q : Int), l⟩) 8).map bv) T.el22 T.sz5 T.by5 T.zr5 ok.n1 (ok.n1.m1).sl bv_all (by simp only [List.length_map, List.length_append, List.length_take, List.length_cons, List.length_nil, List.length_replicate, List.length_range, fixedN_len, sealN_len]; omega)) ?_
  rintro _ η8 ⟨ya5, yn5, yc5, rfl, ok, ap⟩
  have ok := ok.cx (ys := ((fixedN p 4) ++ (fixedN q 4) ++ (fixedN (linkN r ⟨(p : Int), (q : Int), l⟩) 8)).map bv) (by simp [bv])
  obtain rfl : yn5 = ((fixedN p 4) ++ (fixedN q 4) ++ (fixedN (linkN r ⟨(p : Int), (q : Int), l⟩) 8)).length := ok.lenB
  refine .w 8 .asS <| .nil ?_
  refine .seq <| .r <| .w 28 .mvS <| .w 29 (.fa T.fd38_2) <| .w 30 (.ldx T.ag22 ok.m3) <| .a' 31 (.app (news := l.map bv) T.el22 T.sz5 T.by5 T.zr5 ok (ok.r0).by bv_all (by simp only [List.length_map, List.length_append, List.length_take, List.length_cons, List.length_nil, List.length_replicate, List.length_range, fixedN_len, sealN_len]; omega)) ?_
  rintro _ η9 ⟨ya6, yn6, yc6, rfl, ok, ap⟩
  have ok := ok.cx (ys := ((fixedN p 4) ++ (fixedN q 4) ++ (fixedN (linkN r ⟨(p : Int), (q : Int), l⟩) 8) ++ l).map bv) (by simp [bv])
  obtain rfl : yn6 = ((fixedN p 4) ++ (fixedN q 4) ++ (fixedN (linkN r ⟨(p : Int), (q : Int), l⟩) 8) ++ l).length := ok.lenB
  refine .w 32 .mvI <| .w 4 .asS <| .w 5 .asI <| .w 6 .asI <| .nil ?_
  refine .ret ⟨.tuple #[.slice ya6 (((fixedN p 4) ++ (fixedN q 4) ++ (fixedN (linkN r ⟨(p : Int), (q : Int), l⟩) 8) ++ l).length) yc6, .int .u64 ((linkN r ⟨(p : Int), (q : Int), l⟩ : Nat) : Int), .int .i64 0], Res.three rfl rfl rfl rfl, _, rfl, by have := ok.toOwn; simpa [putN] using this⟩

set_option maxRecDepth 100000 in
set_option maxHeartbeats 2000000 in
theorem rput_bad {h : Heap} {F E : Nat → Prop} {z1 z2 : Int} {r : Nat} {a : Option Addr} {c : Nat} {l : List UInt8} (hF : okF ⟨z1, z2, l⟩ = false) (hl : RdL h F E (a, l.length, c) l) :
    HC Try.prog 23 #[.int .u64 (r : Int), .agg #[.int .i64 z1, .int .i64 z2, .slice a l.length c]] h (fun v h' => v = .tuple #[.slice none 0 0, .int .u64 0, .int .i64 1] ∧ Ext h h') := by
  have hc2 := hl.m
  have hc1 : l.length ≤ c := hl.c
  simp only at hc2
  have ok := (Hp.nil h none_).arg hl
  refine HC.go Try.func23 33 ?_
  refine .seq <| .r <| .a' 3 (.bxA (cs := [.int .i64 z1, .int .i64 z2, .slice a l.length c]) ok) ?_
  rintro _ η1 ⟨pb1, rfl, ok, xe⟩
  refine .w 4 .asS <| .w 5 .asI <| .w 6 .asI <| .nil ?_
  refine .seq <| .seq <| .r <| .w 9 (.ldb T.ag38 ok.m0 T.sz38) <| .c' 10 .func (may_any (z1 := z1) (z2 := z2) (a := a) (c := c) (l := l) ok.r0) ?_
  rintro _ η2 ⟨rfl, hx⟩
  have ok := ok.ext hx
  refine .w 11 .not <| .nil ?_
  refine .cond (fun C0 => ?_) (fun C0 => ?_)
  · --
    refine .seq <| .r <| .w 4 .asS <| .w 5 .asI <| .w 6 .asI <| .nil ?_
    refine .ret ⟨.tuple #[.slice none 0 0, .int .u64 0, .int .i64 1], Res.three rfl rfl rfl rfl, ⟨rfl, ok.chg⟩⟩
  rw [hF] at C0; exact absurd C0 (by decide)

set_option maxRecDepth 100000 in
set_option maxHeartbeats 2000000 in
theorem first_any {h : Heap} {F E : Nat → Prop} {a : Option Addr} {c : Nat} {l : List UInt8} (h20 : 20 ≤ l.length) (hl : RdL h F E (a, l.length, c) l) :
    HC Try.prog 46 #[.slice a l.length c] h (fun v h' => v = .int .u64 ((firstN l : Nat) : Int) ∧ h' = h) := by
  have hc2 := hl.m
  have hc1 : l.length ≤ c := hl.c
  simp only at hc2
  have h8 := rdN_lt8 l 8
  refine HC.go Try.func46 14 ?_
  refine .seq <| .r <| .w 2 .asI <| .nil ?_
  refine .seq <| .r <| .w 6 .mvS <| .k 7 .func (rread_any (p := 8) (size := 8) (a := a) (c := c) (l := l) hl (by omega) (by omega) (by omega)) <| .w 5 .mvU <| .w 8 .ex <| .w 9 .ex <| .w 3 .asI <| .w 4 .asI <| .nil ?_
  refine .seq <| .r <| .w 10 .mvI <| .w 11 .mvS <| .w 12 (.sl_h ((l.take 20).length) T.el22 T.sz5 (hb := by (simp; omega))) <| ?_
  have hk1 : RdL h F E (a, (l.take 20).length, c) (l.take 20) := (hl).pre (l2 := l.take 20) (List.take_prefix _ _)
  refine .k 13 .func (rnext_any (by omega) (a := a) (c := c) (l := l.take 20) hk1) <| .w 2 .asI <| .nil ?_
  refine .ret ⟨.int .u64 ((nextN (rdN l 8 8) (l.take 20) : Nat) : Int), Res.one rfl rfl, ⟨by rw [firstN], rfl⟩⟩

end Go.Proofs.Ytpebbkhainpfaaa

namespace Go.Proofs.Ytpebbkhainpfaaa
open Go Go.HL

set_option maxRecDepth 100000 in
set_option maxHeartbeats 2000000 in
theorem number_any {h : Heap} {F E : Nat → Prop} {r p k c : Nat} {a : Option Addr} {l : List UInt8} {v1 v2 v3 v4 : Value} (hl : RdL h F E (a, l.length, c) l) (hb : (boxI r 92 [.slice a l.length c, v1, v2, v3, v4]).p h) (h1 : 1 ≤ k) (h8 : k ≤ 8) (hp : p + k ≤ l.length) :
    HC Try.prog 88 #[.pointer (some ⟨r, 0, none⟩), .int .i64 (p : Int), .int .i64 (k : Int)] h (fun v h' => v = .int .u64 ((rdN l p k : Nat) : Int) ∧ h' = h) := by
  have hc2 := hl.m
  have hc1 : l.length ≤ c := hl.c
  simp only at hc2
  refine HC.go Try.func88 20 ?_
  refine .seq <| .r <| .w 6 .asI <| .nil ?_
  refine .seq <| .r <| .w 10 .mvP <| .w 11 .nil <| .w 12 (.fa T.fd92_0) <| .w 13 (.ldx T.ag22 hb) <| .w 14 .mvI <| .w 15 .mvI <| .k 16 .func (read_any (p := p) (size := k) (a := a) (c := c) (l := l) hl (by omega) (by omega) (by omega)) <| .w 9 .mvU <| .w 17 .ex <| .w 18 .ex <| .w 7 .asI <| .w 8 .asI <| .nil ?_
  refine .seq <| .r <| .w 19 .mvI <| .w 6 .asI <| .nil ?_
  refine .ret ⟨.int .u64 (((rdN l p k) : Nat) : Int), Res.one rfl rfl, ⟨rfl, rfl⟩⟩

set_option maxRecDepth 100000 in
set_option maxHeartbeats 2000000 in
theorem equal_any {h : Heap} {F E F' E' : Nat → Prop} {a b : Option Addr} {c d : Nat} {l l2 : List UInt8} (hl : RdL h F E (a, l.length, c) l) (hm : RdL h F' E' (b, l2.length, d) l2) :
    HC Try.prog 89 #[.slice a l.length c, .slice b l2.length d] h (fun v h' => v = .bool (decide (l = l2)) ∧ h' = h) := by
  refine HC.go Try.func89 10 ?_
  refine .seq <| .r <| .w 4 .asB <| .nil ?_
  refine .seq <| .r <| .w 5 .mvS <| .w 6 (.bts T.el22 T.in5 T.st9 (hl).by) <| .w 7 .mvS <| .w 8 (.bts T.el22 T.in5 T.st9 (hm).by) <| .w 9 .tEq <| .w 4 .asB <| .nil ?_
  refine .ret ⟨.bool ((BA l).toList == (BA l2).toList), Res.one rfl rfl, ⟨by rw [tolist_eq], rfl⟩⟩

set_option maxRecDepth 100000 in
set_option maxHeartbeats 2000000 in
theorem head_short {h : Heap} {F E : Nat → Prop} {r c : Nat} {a : Option Addr} {l : List UInt8} (hl : RdL h F E (a, l.length, c) l) (hb : (boxI r 92 [.slice a l.length c, .int .i64 0, .int .i64 0, .int .u64 0, .int .u64 0]).p h) (hd : ∀ j, F j ∨ E j → j ≠ r) (h20 : l.length < 20) :
    HC Try.prog 47 #[.pointer (some ⟨r, 0, none⟩)] h (fun v h' => v = .int .i64 6 ∧ ∃ cs, Chg (fun j => j = r) h h' ∧ (boxI r 92 cs).p h') := by
  have hc2 := hl.m
  have hc1 : l.length ≤ c := hl.c
  simp only at hc2
  have ok := ((Hp.nil h (fun j => j = r)).arg hl).obj (boxI r 92 [.slice a l.length c, .int .i64 0, .int .i64 0, .int .u64 0, .int .u64 0]) hb (fun j e => ⟨e ▸ block_lt hb, e⟩) (by simp) (by
    intro b hm j e hj
    rcases List.mem_cons.1 hm with rfl | hm
    · exact hd j (hj.imp And.left And.left) e
    · cases hm)
  have h8 := rdN_lt8 l 8
  have h4 := rdN_lt4 l 4
  refine HC.go Try.func47 60 ?_
  refine .seq <| .r <| .w 2 .asI <| .nil ?_
  refine .seq <| .seq <| .r <| .w 6 .mvP <| .w 7 .nil <| .w 8 (.fa T.fd92_0) <| .w 9 (.ldx T.ag22 ok.m0) <| .w 10 (.len T.el22) <| .w 11 .lss <| .nil ?_
  refine .cd (fun C0 => ?_) (fun C0 => ?_)
  · --
    refine .seq <| .r <| .w 2 .asI <| .nil ?_
    refine .ret ⟨.int .i64 6, Res.one rfl rfl, ⟨rfl, _, ok.chg, ok.m0⟩⟩
  omega

set_option maxRecDepth 100000 in
set_option maxHeartbeats 2000000 in
theorem head_form1 {h : Heap} {F E : Nat → Prop} {r c : Nat} {a : Option Addr} {l : List UInt8} (hl : RdL h F E (a, l.length, c) l) (hb : (boxI r 92 [.slice a l.length c, .int .i64 0, .int .i64 0, .int .u64 0, .int .u64 0]).p h) (hd : ∀ j, F j ∨ E j → j ≠ r) (h20 : 20 ≤ l.length) (hk : okZ ((rdN l 4 4 : Nat) : Int) = false) :
    HC Try.prog 47 #[.pointer (some ⟨r, 0, none⟩)] h (fun v h' => v = .int .i64 8 ∧ ∃ cs, Chg (fun j => j = r) h h' ∧ (boxI r 92 cs).p h') := by
  have hc2 := hl.m
  have hc1 : l.length ≤ c := hl.c
  simp only at hc2
  have ok := ((Hp.nil h (fun j => j = r)).arg hl).obj (boxI r 92 [.slice a l.length c, .int .i64 0, .int .i64 0, .int .u64 0, .int .u64 0]) hb (fun j e => ⟨e ▸ block_lt hb, e⟩) (by simp) (by
    intro b hm j e hj
    rcases List.mem_cons.1 hm with rfl | hm
    · exact hd j (hj.imp And.left And.left) e
    · cases hm)
  have h8 := rdN_lt8 l 8
  have h4 := rdN_lt4 l 4
  refine HC.go Try.func47 60 ?_
  refine .seq <| .r <| .w 2 .asI <| .nil ?_
  refine .seq <| .seq <| .r <| .w 6 .mvP <| .w 7 .nil <| .w 8 (.fa T.fd92_0) <| .w 9 (.ldx T.ag22 ok.m0) <| .w 10 (.len T.el22) <| .w 11 .lss <| .nil ?_
  refine .cd (fun C0 => ?_) (fun C0 => ?_)
  · --
    omega
  refine .skip <| .seq <| .r <| .w 12 .mvP <| .w 13 .nil <| .w 14 (.fa T.fd92_0) <| .w 15 (.ldx T.ag22 ok.m0) <| .w 16 (.sl_h ((l.take 20).length) T.el22 T.sz5 (hb := by (simp; omega))) <| ?_
  have ok := ok.d0 (rdI (fun j => F j ∧ j < h.size) (fun j => E j ∧ j < h.size) (a, (l.take 20).length, c) (l.take 20)) ((ok.r0).pre (l2 := l.take 20) (List.take_prefix _ _)) (fun _ h => h)
  refine .w 3 .asS <| .nil ?_
  refine .seq <| .r <| .w 17 .mvP <| .w 18 .mvP <| .w 19 .mvP <| .k 20 .func (number_any (p := 4) (k := 4) (l := l) ok.r1 ok.m0 (by omega) (by omega) (by omega)) <| .w 21 (.cvi T.in3 T.in25) <| .w 22 .mvP <| .k 23 .func (number_any (p := 8) (k := 8) (l := l) ok.r1 ok.m0 (by omega) (by omega) (by omega)) <| .w 24 .nil <| .w 25 (.fa T.fd92_2) <| .ur' (.stI T.sz3 ok) ?_
  rintro η1 ⟨ok, cg⟩
  refine .w 26 .nil <| .w 27 (.fa T.fd92_4) <| .ur' (.stI T.sz25 ok) ?_
  rintro η2 ⟨ok, cg⟩
  refine .nil ?_
  refine .seq <| .q (hm := mixed) <| .w 29 .mvP <| .w 30 .nil <| .w 31 (.fa T.fd92_2) <| .w 32 (.ldx T.ag3 ok.m0) <| .w 33 .mvP <| .w 34 .nil <| .w 35 (.fa T.fd92_4) <| .w 36 (.ldx T.ag25 ok.m0) <| .k 37 .func (start_bad (z := (((rdN l 4 4) : Nat) : Int)) (salt := (rdN l 8 8)) (by omega) (by assumption)) <| .w 28 .mvU <| .w 38 .ex <| .w 39 .ex <| .w 4 .asS <| .w 5 .asI <| .nil ?_
  refine .seq <| .seq <| .r <| .w 40 .mvI <| .w 41 .neq <| .w 42 .mvB <| .sd (fun G42 => ?_) (fun G42 => ?_)
  ·
    refine .x 43 <| .x 44 <| .x 45 <| .x 46 <| .w 47 .pkt <| .nil ?_
    refine .ct <| .seq <| .r <| .w 2 .asI <| .nil ?_
    refine .ret ⟨.int .i64 8, Res.one rfl rfl, ⟨rfl, _, ok.chg, ok.m0⟩⟩
  omega

set_option maxRecDepth 100000 in
set_option maxHeartbeats 2000000 in
theorem head_form2 {h : Heap} {F E : Nat → Prop} {r c : Nat} {a : Option Addr} {l : List UInt8} (hl : RdL h F E (a, l.length, c) l) (hb : (boxI r 92 [.slice a l.length c, .int .i64 0, .int .i64 0, .int .u64 0, .int .u64 0]).p h) (hd : ∀ j, F j ∨ E j → j ≠ r) (h20 : 20 ≤ l.length) (hk : okZ ((rdN l 4 4 : Nat) : Int) = true) (hh : headN (rdN l 4 4) (rdN l 8 8) ≠ l.take 20) :
    HC Try.prog 47 #[.pointer (some ⟨r, 0, none⟩)] h (fun v h' => v = .int .i64 8 ∧ ∃ cs, Chg (fun j => j = r) h h' ∧ (boxI r 92 cs).p h') := by
  have hc2 := hl.m
  have hc1 : l.length ≤ c := hl.c
  simp only at hc2
  have ok := ((Hp.nil h (fun j => j = r)).arg hl).obj (boxI r 92 [.slice a l.length c, .int .i64 0, .int .i64 0, .int .u64 0, .int .u64 0]) hb (fun j e => ⟨e ▸ block_lt hb, e⟩) (by simp) (by
    intro b hm j e hj
    rcases List.mem_cons.1 hm with rfl | hm
    · exact hd j (hj.imp And.left And.left) e
    · cases hm)
  have h8 := rdN_lt8 l 8
  have h4 := rdN_lt4 l 4
  refine HC.go Try.func47 60 ?_
  refine .seq <| .r <| .w 2 .asI <| .nil ?_
  refine .seq <| .seq <| .r <| .w 6 .mvP <| .w 7 .nil <| .w 8 (.fa T.fd92_0) <| .w 9 (.ldx T.ag22 ok.m0) <| .w 10 (.len T.el22) <| .w 11 .lss <| .nil ?_
  refine .cd (fun C0 => ?_) (fun C0 => ?_)
  · --
    omega
  refine .skip <| .seq <| .r <| .w 12 .mvP <| .w 13 .nil <| .w 14 (.fa T.fd92_0) <| .w 15 (.ldx T.ag22 ok.m0) <| .w 16 (.sl_h ((l.take 20).length) T.el22 T.sz5 (hb := by (simp; omega))) <| ?_
  have ok := ok.d0 (rdI (fun j => F j ∧ j < h.size) (fun j => E j ∧ j < h.size) (a, (l.take 20).length, c) (l.take 20)) ((ok.r0).pre (l2 := l.take 20) (List.take_prefix _ _)) (fun _ h => h)
  refine .w 3 .asS <| .nil ?_
  refine .seq <| .r <| .w 17 .mvP <| .w 18 .mvP <| .w 19 .mvP <| .k 20 .func (number_any (p := 4) (k := 4) (l := l) ok.r1 ok.m0 (by omega) (by omega) (by omega)) <| .w 21 (.cvi T.in3 T.in25) <| .w 22 .mvP <| .k 23 .func (number_any (p := 8) (k := 8) (l := l) ok.r1 ok.m0 (by omega) (by omega) (by omega)) <| .w 24 .nil <| .w 25 (.fa T.fd92_2) <| .ur' (.stI T.sz3 ok) ?_
  rintro η1 ⟨ok, cg⟩
  refine .w 26 .nil <| .w 27 (.fa T.fd92_4) <| .ur' (.stI T.sz25 ok) ?_
  rintro η2 ⟨ok, cg⟩
  refine .nil ?_
  refine .seq <| .a 8 (fun fl hh => cond fl True (Hp h (fun j => j = r) [boxI r 92 [.slice a l.length c, .int .i64 0, .int .i64 (((rdN l 4 4) : Nat) : Int), .int .u64 0, .int .u64 (((rdN l 8 8) : Nat) : Int)]] [rdI (fun j => F j ∧ j < h.size) (fun j => E j ∧ j < h.size) (a, (l.take 20).length, c) (l.take 20), rdI (fun j => F j ∧ j < h.size) (fun j => E j ∧ j < h.size) (a, l.length, c) l] hh)) mixed ?_
  have hS := ok
  refine .g 0 false rfl 29 hS (fun _ => .mvP) <| .g 1 false rfl 30 hS (fun _ => .nil) <| .g 2 false rfl 31 hS (fun _ => .fa T.fd92_2) <| .l 3 false rfl 32 hS (fun _ hS => .ldx T.ag3 hS.m0) <| .g 4 false rfl 33 hS (fun _ => .mvP) <| .g 5 false rfl 34 hS (fun _ => .nil) <| .g 6 false rfl 35 hS (fun _ => .fa T.fd92_4) <| .l 7 false rfl 36 hS (fun _ hS => .ldx T.ag25 hS.m0) <| .o1 8 <| .c' true rfl 37 .func (start_ok (n := (rdN l 4 4)) (salt := (rdN l 8 8)) (by omega) (by omega) (by assumption)) ?_
  rintro _ η3 ⟨yw1, rfl, own⟩
  obtain ⟨ya1, yc1, rfl⟩ := own.formB
  have ok := ok.own own
  refine ⟨trivial, ?_⟩
  refine .g 9 true rfl 28 trivial (fun _ => .mvU) <| .g 10 true rfl 38 trivial (fun _ => .ex) <| .g 11 true rfl 39 trivial (fun _ => .ex) <| .g 12 true rfl 4 trivial (fun _ => .asS) <| .g 13 true rfl 5 trivial (fun _ => .asI) <| .e ?_
  refine .seq <| .seq <| .r <| .w 40 .mvI <| .w 41 .neq <| .w 42 .mvB <| .sd (fun G42 => ?_) (fun G42 => ?_)
  ·
    omega
  refine .w 43 .mvS <| .w 44 .mvS <| .k 45 .func (equal_any (a := ya1) (c := yc1) (l := (headN (rdN l 4 4) (rdN l 8 8))) (b := a) (d := c) (l2 := l.take 20) (RdL.ofCapB (v := (ya1, (headN (rdN l 4 4) (rdN l 8 8)).length, yc1)) (l := (headN (rdN l 4 4) (rdN l 8 8))) ok.m0) ok.r0) <| .w 46 .notd <| .w 47 .pkf <| .nil ?_
  refine .cd (fun C1 => ?_) (fun C1 => ?_)
  · --
    refine .seq <| .r <| .w 2 .asI <| .nil ?_
    refine .ret ⟨.int .i64 8, Res.one rfl rfl, ⟨rfl, _, ok.chg, ok.m1⟩⟩
  exact absurd C1 (by simpa using hh)

set_option maxRecDepth 100000 in
set_option maxHeartbeats 2000000 in
theorem head_ok {h : Heap} {F E : Nat → Prop} {r c : Nat} {a : Option Addr} {l : List UInt8} (hl : RdL h F E (a, l.length, c) l) (hb : (boxI r 92 [.slice a l.length c, .int .i64 0, .int .i64 0, .int .u64 0, .int .u64 0]).p h) (hd : ∀ j, F j ∨ E j → j ≠ r) (h20 : 20 ≤ l.length) (hk : okZ ((rdN l 4 4 : Nat) : Int) = true) (hh : headN (rdN l 4 4) (rdN l 8 8) = l.take 20) :
    HC Try.prog 47 #[.pointer (some ⟨r, 0, none⟩)] h (fun v h' => v = .int .i64 0 ∧ Chg (fun j => j = r) h h' ∧ (boxI r 92 [.slice a l.length c, .int .i64 20, .int .i64 ((rdN l 4 4 : Nat) : Int), .int .u64 ((firstN l : Nat) : Int), .int .u64 ((rdN l 8 8 : Nat) : Int)]).p h') := by
  have hc2 := hl.m
  have hc1 : l.length ≤ c := hl.c
  simp only at hc2
  have ok := ((Hp.nil h (fun j => j = r)).arg hl).obj (boxI r 92 [.slice a l.length c, .int .i64 0, .int .i64 0, .int .u64 0, .int .u64 0]) hb (fun j e => ⟨e ▸ block_lt hb, e⟩) (by simp) (by
    intro b hm j e hj
    rcases List.mem_cons.1 hm with rfl | hm
    · exact hd j (hj.imp And.left And.left) e
    · cases hm)
  have h8 := rdN_lt8 l 8
  have h4 := rdN_lt4 l 4
  refine HC.go Try.func47 60 ?_
  refine .seq <| .r <| .w 2 .asI <| .nil ?_
  refine .seq <| .seq <| .r <| .w 6 .mvP <| .w 7 .nil <| .w 8 (.fa T.fd92_0) <| .w 9 (.ldx T.ag22 ok.m0) <| .w 10 (.len T.el22) <| .w 11 .lss <| .nil ?_
  refine .cd (fun C0 => ?_) (fun C0 => ?_)
  · --
    omega
  refine .skip <| .seq <| .r <| .w 12 .mvP <| .w 13 .nil <| .w 14 (.fa T.fd92_0) <| .w 15 (.ldx T.ag22 ok.m0) <| .w 16 (.sl_h ((l.take 20).length) T.el22 T.sz5 (hb := by (simp; omega))) <| ?_
  have ok := ok.d0 (rdI (fun j => F j ∧ j < h.size) (fun j => E j ∧ j < h.size) (a, (l.take 20).length, c) (l.take 20)) ((ok.r0).pre (l2 := l.take 20) (List.take_prefix _ _)) (fun _ h => h)
  refine .w 3 .asS <| .nil ?_
  refine .seq <| .r <| .w 17 .mvP <| .w 18 .mvP <| .w 19 .mvP <| .k 20 .func (number_any (p := 4) (k := 4) (l := l) ok.r1 ok.m0 (by omega) (by omega) (by omega)) <| .w 21 (.cvi T.in3 T.in25) <| .w 22 .mvP <| .k 23 .func (number_any (p := 8) (k := 8) (l := l) ok.r1 ok.m0 (by omega) (by omega) (by omega)) <| .w 24 .nil <| .w 25 (.fa T.fd92_2) <| .ur' (.stI T.sz3 ok) ?_
  rintro η1 ⟨ok, cg⟩
  refine .w 26 .nil <| .w 27 (.fa T.fd92_4) <| .ur' (.stI T.sz25 ok) ?_
  rintro η2 ⟨ok, cg⟩
  refine .nil ?_
  refine .seq <| .a 8 (fun fl hh => cond fl True (Hp h (fun j => j = r) [boxI r 92 [.slice a l.length c, .int .i64 0, .int .i64 (((rdN l 4 4) : Nat) : Int), .int .u64 0, .int .u64 (((rdN l 8 8) : Nat) : Int)]] [rdI (fun j => F j ∧ j < h.size) (fun j => E j ∧ j < h.size) (a, (l.take 20).length, c) (l.take 20), rdI (fun j => F j ∧ j < h.size) (fun j => E j ∧ j < h.size) (a, l.length, c) l] hh)) mixed ?_
  have hS := ok
  refine .g 0 false rfl 29 hS (fun _ => .mvP) <| .g 1 false rfl 30 hS (fun _ => .nil) <| .g 2 false rfl 31 hS (fun _ => .fa T.fd92_2) <| .l 3 false rfl 32 hS (fun _ hS => .ldx T.ag3 hS.m0) <| .g 4 false rfl 33 hS (fun _ => .mvP) <| .g 5 false rfl 34 hS (fun _ => .nil) <| .g 6 false rfl 35 hS (fun _ => .fa T.fd92_4) <| .l 7 false rfl 36 hS (fun _ hS => .ldx T.ag25 hS.m0) <| .o1 8 <| .c' true rfl 37 .func (start_ok (n := (rdN l 4 4)) (salt := (rdN l 8 8)) (by omega) (by omega) (by assumption)) ?_
  rintro _ η3 ⟨yw1, rfl, own⟩
  obtain ⟨ya1, yc1, rfl⟩ := own.formB
  have ok := ok.own own
  refine ⟨trivial, ?_⟩
  refine .g 9 true rfl 28 trivial (fun _ => .mvU) <| .g 10 true rfl 38 trivial (fun _ => .ex) <| .g 11 true rfl 39 trivial (fun _ => .ex) <| .g 12 true rfl 4 trivial (fun _ => .asS) <| .g 13 true rfl 5 trivial (fun _ => .asI) <| .e ?_
  refine .seq <| .seq <| .r <| .w 40 .mvI <| .w 41 .neq <| .w 42 .mvB <| .sd (fun G42 => ?_) (fun G42 => ?_)
  ·
    omega
  refine .w 43 .mvS <| .w 44 .mvS <| .k 45 .func (equal_any (a := ya1) (c := yc1) (l := (headN (rdN l 4 4) (rdN l 8 8))) (b := a) (d := c) (l2 := l.take 20) (RdL.ofCapB (v := (ya1, (headN (rdN l 4 4) (rdN l 8 8)).length, yc1)) (l := (headN (rdN l 4 4) (rdN l 8 8))) ok.m0) ok.r0) <| .w 46 .notd <| .w 47 .pkf <| .nil ?_
  refine .cd (fun C1 => ?_) (fun C1 => ?_)
  · --
    exact absurd C1 (by simpa using hh)
  refine .skip <| .seq <| .r <| .w 48 .mvP <| .w 49 .nil <| .w 50 (.fa T.fd92_1) <| .ur' (.stI T.sz3 ok.n1) ?_
  rintro η4 ⟨ok, cg⟩
  refine .nil ?_
  refine .seq <| .r <| .w 51 .mvP <| .w 52 .mvP <| .w 53 .nil <| .w 54 (.fa T.fd92_4) <| .w 55 (.ldx T.ag25 ok.m0) <| .w 56 .mvS <| .k 57 .func (next_any (by omega) (a := a) (c := c) (l := l.take 20) ok.r0) <| .w 58 .nil <| .w 59 (.fa T.fd92_3) <| .ur' (.stI T.sz25 ok) ?_
  rintro η5 ⟨ok, cg⟩
  refine .nil ?_
  refine .seq <| .r <| .w 2 .asI <| .nil ?_
  refine .ret ⟨.int .i64 0, Res.one rfl rfl, ⟨rfl, ok.chg, ok.m0⟩⟩

end Go.Proofs.Ytpebbkhainpfaaa
