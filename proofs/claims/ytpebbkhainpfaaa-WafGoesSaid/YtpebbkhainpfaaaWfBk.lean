/- A log that is written frame by frame is scanned as it was written; cut off it loses frames at its end; a byte that is turned ends it. Conditions: the frames are of the log's size. -/
import Derived.Test.YtpebbkhainpfaaaWfLive
namespace Go.Proofs.Ytpebbkhainpfaaa
open Go Go.HL
theorem snocInd {α : Type} {P : List α → Prop} (h0 : P []) (h1 : ∀ l a, P l → P (l ++ [a])) (l : List α) : P l := by
  suffices h : ∀ n, P (l.take n) by have := h l.length; simpa using this
  intro n
  induction n with
  | zero => simpa using h0
  | succ n ih =>
    by_cases hn : n < l.length
    · rw [take_next hn]; exact h1 _ _ ih
    · rw [List.take_of_length_le (by omega)] at ih ⊢; exact ih
def putsN : Nat → List Fr → List UInt8
  | _, [] => []
  | p, f :: fs => putN p f ++ putsN (linkN p f) fs
def linkL (p : Nat) (fs : List Fr) : Nat := fs.foldl linkN p
theorem linkL_lt {p : Nat} (h : p < 18446744073709551616) (fs : List Fr) : linkL p fs < 18446744073709551616 := by
  induction fs generalizing p with
  | nil => exact h
  | cons f fs ih => exact ih (nextN_lt h _)
theorem linkL_snoc (p : Nat) (fs : List Fr) (f : Fr) : linkL p (fs ++ [f]) = linkN (linkL p fs) f := by simp [linkL]
theorem linkL_app (p : Nat) (fs gs : List Fr) : linkL p (fs ++ gs) = linkL (linkL p fs) gs := by simp [linkL]
theorem putsN_app (p : Nat) (fs gs : List Fr) : putsN p (fs ++ gs) = putsN p fs ++ putsN (linkL p fs) gs := by
  induction fs generalizing p with
  | nil => rfl
  | cons f fs ih => simp only [List.cons_append, putsN, ih, List.append_assoc]; rfl
theorem putsN_snoc (p : Nat) (fs : List Fr) (f : Fr) : putsN p (fs ++ [f]) = putsN p fs ++ putN (linkL p fs) f := by rw [putsN_app]; simp [putsN]
/-- The frames of a log of pages of that size. -/
def okL (size : Nat) (fs : List Fr) : Prop := ∀ f ∈ fs, okF f = true ∧ f.b.length = size
theorem putsN_len {size : Nat} {p : Nat} {fs : List Fr} (h : okL size fs) : (putsN p fs).length = fs.length * (16 + size) := by
  induction fs generalizing p with
  | nil => simp [putsN]
  | cons f fs ih =>
    have h1 := (h f List.mem_cons_self).2
    have h2 := ih (p := linkN p f) fun g hg => h g (List.mem_cons_of_mem _ hg)
    rw [putsN, List.length_append, putN_len, h1, h2, List.length_cons, Nat.add_mul]; omega
def sureN (fs : List Fr) : Nat := (fs.foldl (fun (p : Nat × Nat) f => (p.1 + 1, if 0 < f.commit then p.1 + 1 else p.2)) (0, 0)).2
theorem sure_fst (fs : List Fr) : (fs.foldl (fun (p : Nat × Nat) f => (p.1 + 1, if 0 < f.commit then p.1 + 1 else p.2)) (0, 0)).1 = fs.length :=
  snocInd (P := fun fs => (fs.foldl (fun (p : Nat × Nat) f => (p.1 + 1, if 0 < f.commit then p.1 + 1 else p.2)) (0, 0)).1 = fs.length) rfl (fun l a ih => by rw [List.foldl_append]; simp [ih]) fs
theorem sureN_snoc (fs : List Fr) (f : Fr) : sureN (fs ++ [f]) = if 0 < f.commit then fs.length + 1 else sureN fs := by
  unfold sureN
  rw [List.foldl_append]
  simp only [List.foldl_cons, List.foldl_nil, sure_fst]
theorem sureN_le (fs : List Fr) : sureN fs ≤ fs.length :=
  snocInd (P := fun fs => sureN fs ≤ fs.length) (Nat.le_refl _) (fun l a ih => by rw [sureN_snoc, List.length_append, List.length_singleton]; split <;> omega) fs
def foldS (size : Nat) (s : Sc) (fs : List Fr) : Sc := fs.foldl (stepF size) s
theorem foldS_eq (size : Nat) (b : List UInt8) (fs : List Fr) (h : ∀ f ∈ fs, 0 ≤ f.commit) :
    foldS size (scan0 b) fs = ⟨20 + fs.length * (16 + size), linkL (firstN b) fs, fs, fs.take (sureN fs), linkL (firstN b) (fs.take (sureN fs)), 20 + sureN fs * (16 + size)⟩ := by
  revert h
  refine snocInd (P := fun fs => (∀ f ∈ fs, 0 ≤ f.commit) → foldS size (scan0 b) fs = ⟨20 + fs.length * (16 + size), linkL (firstN b) fs, fs, fs.take (sureN fs), linkL (firstN b) (fs.take (sureN fs)), 20 + sureN fs * (16 + size)⟩) (fun _ => by simp [foldS, scan0, linkL, sureN]) (fun l a ih h => ?_) fs
  have ih := ih fun f hf => h f (List.mem_append_left _ hf)
  have ha := h a (by simp)
  unfold foldS at ih ⊢
  rw [List.foldl_append, ih, List.foldl_cons, List.foldl_nil, sureN_snoc]
  by_cases hc : a.commit = 0
  · rw [if_neg (by omega)]
    have hle := sureN_le l
    simp only [stepF, hc, ne_eq, not_true_eq_false, if_false, linkL_snoc, List.length_append, List.length_singleton, Nat.add_mul, Nat.one_mul]
    rw [List.take_append_of_le_length hle]
    simp only [Sc.mk.injEq, true_and, and_true]; omega
  · rw [if_pos (by omega)]
    simp only [stepF, ne_eq, hc, not_false_eq_true, if_true, linkL_snoc, List.length_append, List.length_singleton, Nat.add_mul, Nat.one_mul]
    rw [List.take_of_length_le (by simp), linkL_snoc]
    simp only [Sc.mk.injEq, true_and]; omega
theorem Reach.front {b : List UInt8} {size : Nat} {s s' : Sc} (h : fits b size s.pos s.prev) (r : Reach b size (stepF size s (rawF b size s.pos)) s') : Reach b size s s' := by
  induction r with
  | refl => exact .step (.refl _) h
  | step _ h2 ih => exact .step ih h2
theorem reach_puts {size : Nat} {z : List UInt8} : ∀ (fs : List Fr) (x : List UInt8) (s : Sc), okL size fs → s.pos = x.length → s.prev < 18446744073709551616 → Reach (x ++ (putsN s.prev fs ++ z)) size s (foldS size s fs)
  | [], x, s, _, _, _ => .refl _
  | f :: fs, x, s, h, hp, hv => by
    obtain ⟨h1, h2⟩ := h f List.mem_cons_self
    have e : x ++ (putsN s.prev (f :: fs) ++ z) = x ++ (putN s.prev f ++ (putsN (linkN s.prev f) fs ++ z)) := by simp [putsN]
    have e2 : x ++ (putN s.prev f ++ (putsN (linkN s.prev f) fs ++ z)) = (x ++ putN s.prev f) ++ (putsN (linkN s.prev f) fs ++ z) := by simp
    have hf := fits_put (x := x) (z := putsN (linkN s.prev f) fs ++ z) h1 hv
    have hr := rawF_put (x := x) (z := putsN (linkN s.prev f) fs ++ z) (p := s.prev) h1
    rw [h2] at hf hr
    rw [e]
    refine Reach.front (by rw [hp]; exact hf) ?_
    rw [hp, hr, e2]
    have ih := reach_puts (size := size) (z := z) fs (x ++ putN s.prev f) (stepF size s f) (fun g hg => h g (List.mem_cons_of_mem _ hg)) (by rw [stepF_pos, hp, List.length_append, putN_len, h2]; omega) (by rw [stepF_prev]; exact nextN_lt hv _)
    rw [stepF_prev] at ih
    exact ih
section
variable {n salt : Nat} (hn : n < 4294967296) (hs : salt < 18446744073709551616)
include hn hs
/-- A log's bytes, and anything behind. -/
theorem scan_log {fs : List Fr} (h : okL n fs) (z : List UInt8) (hz : ¬ fits (headN n salt ++ (putsN (nextN salt (headN n salt)) fs ++ z)) n (20 + fs.length * (16 + n)) (linkL (nextN salt (headN n salt)) fs)) :
    ScanE (headN n salt ++ (putsN (nextN salt (headN n salt)) fs ++ z)) ⟨20 + fs.length * (16 + n), linkL (nextN salt (headN n salt)) fs, fs, fs.take (sureN fs), linkL (nextN salt (headN n salt)) (fs.take (sureN fs)), 20 + sureN fs * (16 + n)⟩ := by
  have hc : ∀ f ∈ fs, 0 ≤ f.commit := fun f hf => (okF_iff.1 (h f hf).1).1.2.2.1
  have e0 : firstN (headN n salt ++ (putsN (nextN salt (headN n salt)) fs ++ z)) = nextN salt (headN n salt) := firstN_headN hs _
  have e1 := foldS_eq n (headN n salt ++ (putsN (nextN salt (headN n salt)) fs ++ z)) fs hc
  rw [e0] at e1
  have e2 : rdN (headN n salt ++ (putsN (nextN salt (headN n salt)) fs ++ z)) 4 4 = n := rd4_headN hn _
  refine ⟨?_, by rw [e2]; exact hz⟩
  rw [e2, ← e1]
  have := reach_puts (size := n) (z := z) fs (headN n salt) (scan0 (headN n salt ++ (putsN (nextN salt (headN n salt)) fs ++ z))) h (headN_len n salt).symm (firstN_lt _)
  have e3 : (scan0 (headN n salt ++ (putsN (nextN salt (headN n salt)) fs ++ z))).prev = nextN salt (headN n salt) := e0
  rw [e3] at this
  exact this
theorem scan_short_log {fs : List Fr} (h : okL n fs) (z : List UInt8) (hz : z.length < 16 + n) :
    ScanE (headN n salt ++ (putsN (nextN salt (headN n salt)) fs ++ z)) ⟨20 + fs.length * (16 + n), linkL (nextN salt (headN n salt)) fs, fs, fs.take (sureN fs), linkL (nextN salt (headN n salt)) (fs.take (sureN fs)), 20 + sureN fs * (16 + n)⟩ :=
  scan_log hn hs h z fun hf => by
    have h1 := hf.1
    simp only [List.length_append, headN_len, putsN_len h] at h1
    omega
omit hn hs
/-- A log cut off. -/
theorem cut_log {fs : List Fr} (h : okL n fs) {cut : Nat} (h20 : 20 ≤ cut) (hc : cut ≤ 20 + fs.length * (16 + n)) :
    ∃ z, (headN n salt ++ putsN (nextN salt (headN n salt)) fs).take cut = headN n salt ++ (putsN (nextN salt (headN n salt)) (fs.take ((cut - 20) / (16 + n))) ++ z) ∧ z.length < 16 + n ∧ (cut - 20) / (16 + n) ≤ fs.length := by
  have hd : (cut - 20) / (16 + n) * (16 + n) + (cut - 20) % (16 + n) = cut - 20 := by rw [Nat.mul_comm]; exact Nat.div_add_mod _ _
  have hm := Nat.mod_lt (cut - 20) (show 0 < 16 + n by omega)
  have hw : (cut - 20) / (16 + n) ≤ fs.length := by
    rw [Nat.div_le_iff_le_mul_add_pred (by omega)]
    have : (16 + n) * fs.length = fs.length * (16 + n) := Nat.mul_comm _ _
    omega
  refine ⟨(putsN (linkL (nextN salt (headN n salt)) (fs.take ((cut - 20) / (16 + n)))) (fs.drop ((cut - 20) / (16 + n)))).take ((cut - 20) % (16 + n)), ?_, by rw [List.length_take]; omega, hw⟩
  have h1 : okL n (fs.take ((cut - 20) / (16 + n))) := fun f hf => h f (List.mem_of_mem_take hf)
  have hl := putsN_len (p := nextN salt (headN n salt)) h1
  rw [List.length_take, Nat.min_eq_left hw] at hl
  have e : putsN (nextN salt (headN n salt)) fs = putsN (nextN salt (headN n salt)) (fs.take ((cut - 20) / (16 + n))) ++ putsN (linkL (nextN salt (headN n salt)) (fs.take ((cut - 20) / (16 + n)))) (fs.drop ((cut - 20) / (16 + n))) := by
    rw [← putsN_app, List.take_append_drop]
  conv => lhs; rw [e]
  rw [List.take_append, headN_len, List.take_of_length_le (by rw [headN_len]; omega), List.take_append, hl, List.take_of_length_le (by rw [hl]; omega)]
  congr 3
  omega
end
end Go.Proofs.Ytpebbkhainpfaaa
