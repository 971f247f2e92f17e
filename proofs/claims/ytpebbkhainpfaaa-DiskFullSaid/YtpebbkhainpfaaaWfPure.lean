/- Logs in plain terms: heads, frames, links, and how a log is scanned. Conditions: those that each fact names. -/
import Derived.Test.YtpebbkhainpfaaaSum
namespace Go.Proofs.Ytpebbkhainpfaaa
open Go Go.HL

structure Fr where
  page : Int
  commit : Int
  b : List UInt8
  deriving DecidableEq

def okSz (n : Nat) : Bool := n == 256 || n == 512 || n == 1024 || n == 2048 || n == 4096
def okF (f : Fr) : Bool := decide (1 ≤ f.page ∧ f.page ≤ 1048576 ∧ 0 ≤ f.commit ∧ f.commit ≤ 1048576) && okSz f.b.length
def linkN (p : Nat) (f : Fr) : Nat := nextN p (fixedN f.page.toNat 4 ++ fixedN f.commit.toNat 4 ++ f.b)
def putN (p : Nat) (f : Fr) : List UInt8 := fixedN f.page.toNat 4 ++ fixedN f.commit.toNat 4 ++ fixedN (linkN p f) 8 ++ f.b
def headN (size salt : Nat) : List UInt8 := sealN ([116, 111, 109, 101] ++ fixedN size 4 ++ fixedN salt 8)
def headOk (b : List UInt8) : Bool := okSz (rdN b 4 4) && decide (headN (rdN b 4 4) (rdN b 8 8) = b.take 20)
def firstN (b : List UInt8) : Nat := nextN (rdN b 8 8) (b.take 20)

structure Sc where
  pos : Nat
  prev : Nat
  all : List Fr
  l : List Fr
  sure : Nat
  fin : Nat

def rawF (b : List UInt8) (size pos : Nat) : Fr := ⟨rdN b pos 4, rdN b (pos + 4) 4, (b.drop (pos + 16)).take size⟩
def fits (b : List UInt8) (size pos prev : Nat) : Prop := pos + 16 + size ≤ b.length ∧ okF (rawF b size pos) = true ∧ linkN prev (rawF b size pos) = rdN b (pos + 8) 8
def stepF (size : Nat) (s : Sc) (f : Fr) : Sc :=
  let p := linkN s.prev f
  if f.commit ≠ 0 then ⟨s.pos + 16 + size, p, s.all ++ [f], s.all ++ [f], p, s.pos + 16 + size⟩ else ⟨s.pos + 16 + size, p, s.all ++ [f], s.l, s.sure, s.fin⟩
def scan0 (b : List UInt8) : Sc := ⟨20, firstN b, [], [], firstN b, 20⟩
/-- A state that the scan comes to. -/
inductive Reach (b : List UInt8) (size : Nat) : Sc → Sc → Prop
  | refl (s) : Reach b size s s
  | step {s s'} : Reach b size s s' → fits b size s'.pos s'.prev → Reach b size s (stepF size s' (rawF b size s'.pos))
def ScanE (b : List UInt8) (s : Sc) : Prop := Reach b (rdN b 4 4) (scan0 b) s ∧ ¬ fits b (rdN b 4 4) s.pos s.prev

/-- The same from the front. -/
inductive ReachF (b : List UInt8) (size : Nat) : Sc → Sc → Prop
  | refl (s) : ReachF b size s s
  | step {s s'} : fits b size s.pos s.prev → ReachF b size (stepF size s (rawF b size s.pos)) s' → ReachF b size s s'
theorem ReachF.snoc {b : List UInt8} {size : Nat} {s s' : Sc} (r : ReachF b size s s') (h : fits b size s'.pos s'.prev) : ReachF b size s (stepF size s' (rawF b size s'.pos)) := by
  induction r with
  | refl s => exact .step h (.refl _)
  | step h1 _ ih => exact .step h1 (ih h)
theorem Reach.toF {b : List UInt8} {size : Nat} {s s' : Sc} (r : Reach b size s s') : ReachF b size s s' := by
  induction r with
  | refl => exact .refl _
  | step _ h ih => exact ih.snoc h
theorem ReachF.uniq {b : List UInt8} {size : Nat} {s s1 s2 : Sc} (r1 : ReachF b size s s1) (h1 : ¬ fits b size s1.pos s1.prev) (r2 : ReachF b size s s2) (h2 : ¬ fits b size s2.pos s2.prev) : s1 = s2 := by
  induction r1 with
  | refl s => cases r2 with
    | refl => rfl
    | step h _ => exact absurd h h1
  | step h _ ih => cases r2 with
    | refl => exact absurd h h2
    | step _ r => exact ih h1 r
theorem ScanE.uniq {b : List UInt8} {s1 s2 : Sc} (h1 : ScanE b s1) (h2 : ScanE b s2) : s1 = s2 := h1.1.toF.uniq h1.2 h2.1.toF h2.2
theorem stepF_prev (size : Nat) (s : Sc) (f : Fr) : (stepF size s f).prev = linkN s.prev f := by simp only [stepF]; split <;> simp_all
theorem stepF_pos (size : Nat) (s : Sc) (f : Fr) : (stepF size s f).pos = s.pos + 16 + size := by simp only [stepF]; split <;> simp_all
theorem stepF_all (size : Nat) (s : Sc) (f : Fr) : (stepF size s f).all = s.all ++ [f] := by simp only [stepF]; split <;> simp_all
theorem stepF_sure (size : Nat) (s : Sc) (f : Fr) : (stepF size s f).sure = if f.commit ≠ 0 then linkN s.prev f else s.sure := by simp only [stepF]; split <;> simp_all
theorem stepF_l (size : Nat) (s : Sc) (f : Fr) : (stepF size s f).l = if f.commit ≠ 0 then s.all ++ [f] else s.l := by simp only [stepF]; split <;> simp_all
theorem stepF_fin (size : Nat) (s : Sc) (f : Fr) : (stepF size s f).fin = if f.commit ≠ 0 then s.pos + 16 + size else s.fin := by simp only [stepF]; split <;> simp_all
theorem Reach.prev_lt {b : List UInt8} {size : Nat} {s s' : Sc} (r : Reach b size s s') (h : s.prev < 18446744073709551616) (h2 : s.sure < 18446744073709551616) : s'.prev < 18446744073709551616 ∧ s'.sure < 18446744073709551616 := by
  induction r with
  | refl => exact ⟨h, h2⟩
  | @step s' _ _ ih =>
    have h3 : linkN s'.prev (rawF b size s'.pos) < 18446744073709551616 := nextN_lt ih.1 _
    rw [stepF_prev, stepF_sure]
    refine ⟨h3, ?_⟩
    split
    · exact h3
    · exact ih.2
theorem beN_lt8 (l : List UInt8) (h : l.length ≤ 8) : beN l < 18446744073709551616 := Nat.lt_of_lt_of_le (beN_lt l) (Nat.le_trans (pow256 h) (Nat.le_of_eq (by rfl)))
theorem beN_lt4 (l : List UInt8) (h : l.length ≤ 4) : beN l < 4294967296 := Nat.lt_of_lt_of_le (beN_lt l) (Nat.le_trans (pow256 h) (Nat.le_of_eq (by rfl)))
theorem rdN_lt8 (b : List UInt8) (p : Nat) : rdN b p 8 < 18446744073709551616 := beN_lt8 _ (by simp; omega)
theorem rdN_lt4 (b : List UInt8) (p : Nat) : rdN b p 4 < 4294967296 := beN_lt4 _ (by simp; omega)
theorem firstN_lt (b : List UInt8) : firstN b < 18446744073709551616 := nextN_lt (rdN_lt8 _ _) _
theorem ScanE.lt {b : List UInt8} {s : Sc} (h : ScanE b s) : s.sure < 18446744073709551616 := (h.1.prev_lt (firstN_lt b) (firstN_lt b)).2

/-! ### What is written is read -/
theorem fixedN_succ (n k : Nat) : fixedN n (k + 1) = fixedN (n / 256) k ++ [UInt8.ofNat n] := by
  unfold fixedN
  rw [List.range_succ, List.map_append]
  congr 1
  · apply List.map_congr_left
    intro j hj
    rw [List.mem_range] at hj
    rw [Nat.div_div_eq_div_mul, ← Nat.pow_succ']
    congr 3; omega
  · simp
theorem beN_fixedN : ∀ (k n : Nat), beN (fixedN n k) = n % 256 ^ k
  | 0, n => by simp [fixedN, beN, Nat.mod_one]
  | k + 1, n => by
    rw [fixedN_succ, beN_snoc, beN_fixedN k, Nat.pow_succ', Nat.mod_mul]
    simp; omega
theorem beN_fixed {k n : Nat} (h : n < 256 ^ k) : beN (fixedN n k) = n := by rw [beN_fixedN, Nat.mod_eq_of_lt h]
theorem fixedN_beN (l : List UInt8) : fixedN (beN l) l.length = l := by
  suffices h : ∀ n, n ≤ l.length → fixedN (beN (l.take n)) n = l.take n by have := h l.length (Nat.le_refl _); simpa using this
  intro n hn
  induction n with
  | zero => simp [fixedN]
  | succ n ih =>
    have h1 := l[n].toNat_lt
    rw [fixedN_succ, take_next (by omega), beN_snoc, show (beN (l.take n) * 256 + l[n].toNat) / 256 = beN (l.take n) by omega, ih (by omega)]
    congr 2
    apply UInt8.toNat_inj.1
    simp
theorem beN_inj {l m : List UInt8} (hl : l.length = m.length) (h : beN l = beN m) : l = m := by rw [← fixedN_beN l, ← fixedN_beN m, hl, h]
theorem sealN_len (l : List UInt8) : (sealN l).length = l.length + 4 := by simp [sealN]
theorem headN_len (size salt : Nat) : (headN size salt).length = 20 := by simp [headN, sealN_len, fixedN_len]
theorem putN_len (p : Nat) (f : Fr) : (putN p f).length = 16 + f.b.length := by simp [putN, fixedN_len]; omega
theorem rdN_app {x y z : List UInt8} {k : Nat} (h : y.length = k) : rdN (x ++ (y ++ z)) x.length k = beN y := by unfold rdN; rw [List.drop_left, List.take_left' h]
theorem okF_iff {f : Fr} : okF f = true ↔ (1 ≤ f.page ∧ f.page ≤ 1048576 ∧ 0 ≤ f.commit ∧ f.commit ≤ 1048576) ∧ okSz f.b.length = true := by simp [okF]
theorem rawF_put {x z : List UInt8} {p : Nat} {f : Fr} (hf : okF f = true) : rawF (x ++ (putN p f ++ z)) f.b.length x.length = f := by
  obtain ⟨⟨h1, h2, h3, h4⟩, _⟩ := okF_iff.1 hf
  have e1 : x ++ (putN p f ++ z) = x ++ (fixedN f.page.toNat 4 ++ (fixedN f.commit.toNat 4 ++ fixedN (linkN p f) 8 ++ f.b ++ z)) := by simp [putN]
  have e2 : x ++ (putN p f ++ z) = (x ++ fixedN f.page.toNat 4) ++ (fixedN f.commit.toNat 4 ++ (fixedN (linkN p f) 8 ++ f.b ++ z)) := by simp [putN]
  have e3 : x ++ (putN p f ++ z) = (x ++ (fixedN f.page.toNat 4 ++ fixedN f.commit.toNat 4 ++ fixedN (linkN p f) 8)) ++ (f.b ++ z) := by simp [putN]
  unfold rawF
  have q1 : rdN (x ++ (putN p f ++ z)) x.length 4 = f.page.toNat := by rw [e1, rdN_app (fixedN_len _ _), beN_fixed (by omega)]
  have q2 : rdN (x ++ (putN p f ++ z)) (x.length + 4) 4 = f.commit.toNat := by
    rw [e2, show x.length + 4 = (x ++ fixedN f.page.toNat 4).length by simp [fixedN_len], rdN_app (fixedN_len _ _), beN_fixed (by omega)]
  have q3 : ((x ++ (putN p f ++ z)).drop (x.length + 16)).take f.b.length = f.b := by
    rw [e3, show x.length + 16 = (x ++ (fixedN f.page.toNat 4 ++ fixedN f.commit.toNat 4 ++ fixedN (linkN p f) 8)).length by simp [fixedN_len], List.drop_left, List.take_left]
  rw [q1, q2, q3]
  cases f
  simp only [Fr.mk.injEq, and_true]
  simp only at h1 h3
  omega
theorem rdN_link {x z : List UInt8} {p : Nat} {f : Fr} (hp : p < 18446744073709551616) : rdN (x ++ (putN p f ++ z)) (x.length + 8) 8 = linkN p f := by
  have e : x ++ (putN p f ++ z) = (x ++ (fixedN f.page.toNat 4 ++ fixedN f.commit.toNat 4)) ++ (fixedN (linkN p f) 8 ++ (f.b ++ z)) := by simp [putN]
  have hl : linkN p f < 18446744073709551616 := nextN_lt hp _
  rw [e, show x.length + 8 = (x ++ (fixedN f.page.toNat 4 ++ fixedN f.commit.toNat 4)).length by simp [fixedN_len], rdN_app (fixedN_len _ _), beN_fixed (by simpa using hl)]
theorem fits_put {x z : List UInt8} {p : Nat} {f : Fr} (hf : okF f = true) (hp : p < 18446744073709551616) : fits (x ++ (putN p f ++ z)) f.b.length x.length p := by
  refine ⟨by simp [putN_len]; omega, by rw [rawF_put hf]; exact hf, by rw [rawF_put hf, rdN_link hp]⟩
end Go.Proofs.Ytpebbkhainpfaaa
