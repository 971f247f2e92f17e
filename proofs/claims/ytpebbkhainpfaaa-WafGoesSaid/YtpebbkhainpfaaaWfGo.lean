/- A byte that is turned ends a log's scan ahead of its frame; what is put behind the sure frames is read behind them. Conditions: the frames are of the log's size. -/
import Derived.Test.YtpebbkhainpfaaaWfBk
namespace Go.Proofs.Ytpebbkhainpfaaa
open Go Go.HL
theorem mulK_inj {a b : Nat} (ha : a < 18446744073709551616) (hb : b < 18446744073709551616) (h : a * 1099511628211 % 18446744073709551616 = b * 1099511628211 % 18446744073709551616) : a = b := by
  have e : ∀ x, x < 18446744073709551616 → (x * 1099511628211 % 18446744073709551616) * 14886173955864302971 % 18446744073709551616 = x := fun x hx => by
    rw [Nat.mul_mod, Nat.mod_mod, ← Nat.mul_mod, Nat.mul_assoc, Nat.mul_mod, show 1099511628211 * 14886173955864302971 % 18446744073709551616 = 1 by decide, Nat.mul_one, Nat.mod_mod, Nat.mod_eq_of_lt hx]
  rw [← e a ha, h, e b hb]
theorem xor_lt64 {p : Nat} (hp : p < 18446744073709551616) (x : UInt8) : p ^^^ x.toNat < 18446744073709551616 := Nat.xor_lt_two_pow (n := 64) hp (Nat.lt_trans x.toNat_lt (by decide))
theorem nextB_inj {p q : Nat} {x : UInt8} (hp : p < 18446744073709551616) (hq : q < 18446744073709551616) (h : nextB p x = nextB q x) : p = q := by
  have h1 := mulK_inj (xor_lt64 hp x) (xor_lt64 hq x) h
  have h2 := congrArg (· ^^^ x.toNat) h1
  simpa only [Nat.xor_assoc, Nat.xor_self, Nat.xor_zero] using h2
theorem nextB_byte {p : Nat} {x y : UInt8} (hp : p < 18446744073709551616) (h : nextB p x = nextB p y) : x = y := by
  have h1 := mulK_inj (xor_lt64 hp x) (xor_lt64 hp y) h
  have h2 := congrArg (p ^^^ ·) h1
  simp only [← Nat.xor_assoc, Nat.xor_self, Nat.zero_xor] at h2
  exact UInt8.toNat_inj.1 h2
theorem nextN_inj : ∀ (b : List UInt8) {p q : Nat}, p < 18446744073709551616 → q < 18446744073709551616 → nextN p b = nextN q b → p = q
  | [], _, _, _, _, h => h
  | x :: b, _, _, hp, hq, h => nextB_inj hp hq (nextN_inj b (nextB_lt _ _) (nextB_lt _ _) h)
theorem nextN_set : ∀ (u : List UInt8) (j : Nat) (hj : j < u.length) {p : Nat} {v : UInt8}, p < 18446744073709551616 → v ≠ u[j] → nextN p (u.set j v) ≠ nextN p u
  | x :: u, 0, _, p, v, hp, hv => fun h => hv (nextB_byte hp (nextN_inj u (nextB_lt _ _) (nextB_lt _ _) h))
  | x :: u, j + 1, hj, p, v, _, hv => fun h => nextN_set u j (by simpa using hj) (nextB_lt p x) (by simpa using hv) h
theorem beN_set {u : List UInt8} {j : Nat} (hj : j < u.length) {v : UInt8} (hv : v ≠ u[j]) : beN (u.set j v) ≠ beN u := fun h => by
  have h1 := beN_inj (by simp) h
  have h2 : (u.set j v)[j]'(by simpa using hj) = u[j] := by simp only [h1]
  rw [List.getElem_set_self] at h2
  exact hv h2
theorem fits_raw {B : List UInt8} {n pos prev : Nat} (h : fits B n pos prev) : nextN prev ((B.drop pos).take 8 ++ (B.drop (pos + 16)).take n) = beN ((B.drop (pos + 8)).take 8) := by
  have h1 := h.1
  have h2 := h.2.2
  have e1 : fixedN (rdN B pos 4) 4 = (B.drop pos).take 4 := by
    have := fixedN_beN ((B.drop pos).take 4)
    rwa [List.length_take, List.length_drop, Nat.min_eq_left (by omega)] at this
  have e2 : fixedN (rdN B (pos + 4) 4) 4 = (B.drop (pos + 4)).take 4 := by
    have := fixedN_beN ((B.drop (pos + 4)).take 4)
    rwa [List.length_take, List.length_drop, Nat.min_eq_left (by omega)] at this
  have e3 : (B.drop pos).take 8 = (B.drop pos).take 4 ++ (B.drop (pos + 4)).take 4 := by
    rw [show (8 : Nat) = 4 + 4 from rfl, List.take_add, List.drop_drop]
  have h3 : linkN prev (rawF B n pos) = nextN prev (fixedN (rdN B pos 4) 4 ++ fixedN (rdN B (pos + 4) 4) 4 ++ (B.drop (pos + 16)).take n) := rfl
  rw [h3, e1, e2, ← e3] at h2
  exact h2
theorem cut_set (B : List UInt8) (t : Nat) (v : UInt8) (q k : Nat) : ((B.set t v).drop q).take k = if q ≤ t ∧ t < q + k then ((B.drop q).take k).set (t - q) v else (B.drop q).take k := by
  apply List.ext_getElem?
  intro j
  by_cases hj : j < k
  · by_cases hc : q ≤ t ∧ t < q + k
    · rw [if_pos hc]
      simp only [List.getElem?_take, if_pos hj, List.getElem?_drop, List.getElem?_set, List.length_take, List.length_drop]
      by_cases e : t = q + j
      · subst e
        have e2 : q + j - q = j := by omega
        by_cases hl : q + j < B.length
        · rw [if_pos rfl, if_pos hl, if_pos e2, if_pos (by omega)]
        · rw [if_pos rfl, if_neg hl, if_pos e2, if_neg (by omega)]
      · rw [if_neg e, if_neg (by omega)]
    · rw [if_neg hc]
      simp only [List.getElem?_take, if_pos hj, List.getElem?_drop, List.getElem?_set]
      rw [if_neg (by omega)]
  · split
    · rw [List.getElem?_eq_none (by simp; omega), List.getElem?_eq_none (by simp; omega)]
    · rw [List.getElem?_eq_none (by simp; omega), List.getElem?_eq_none (by simp; omega)]
theorem cut_get {B : List UInt8} {q k j : Nat} (hj : j < k) (hl : q + j < B.length) : ((B.drop q).take k)[j]'(by simp; omega) = B[q + j] := by simp
section
variable {n salt : Nat} (hn : n < 4294967296) (hs : salt < 18446744073709551616)
/-- A frame of which a byte is turned does not fit. -/
theorem turned_fits {B : List UInt8} {pos p r : Nat} {v : UInt8} (hp : p < 18446744073709551616) (hB : fits B n pos p) (hr : r < 16 + n) (hl : pos + r < B.length) (hv : v ≠ B[pos + r]) : ¬ fits (B.set (pos + r) v) n pos p := fun hf => by
  have h1 := fits_raw hB
  have h2 := fits_raw hf
  have hlen := hB.1
  rw [cut_set, cut_set, cut_set] at h2
  have L1 : ((B.drop pos).take 8).length = 8 := by simp; omega
  have L2 : ((B.drop (pos + 8)).take 8).length = 8 := by simp; omega
  have L3 : ((B.drop (pos + 16)).take n).length = n := by simp; omega
  rcases Nat.lt_or_ge r 8 with h3 | h3
  · rw [if_pos (by omega), if_neg (by omega), if_neg (by omega), ← h1, ← List.set_append_left _ _ (by rw [L1]; omega)] at h2
    refine nextN_set _ _ (by rw [List.length_append, L1]; omega) hp ?_ h2
    rw [List.getElem_append_left (by rw [L1]; omega), cut_get (by omega) (by omega)]
    simpa [show pos + (pos + r - pos) = pos + r by omega] using hv
  · rcases Nat.lt_or_ge r 16 with h4 | h4
    · rw [if_neg (by omega), if_neg (by omega), if_pos (by omega), h1] at h2
      refine beN_set (by rw [L2]; omega) ?_ h2.symm
      rw [cut_get (by omega) (by omega)]
      simpa [show pos + 8 + (pos + r - (pos + 8)) = pos + r by omega] using hv
    · rw [if_neg (by omega), if_pos (by omega), if_neg (by omega), ← h1] at h2
      have e : (B.drop pos).take 8 ++ ((B.drop (pos + 16)).take n).set (pos + r - (pos + 16)) v = ((B.drop pos).take 8 ++ (B.drop (pos + 16)).take n).set (pos + r - (pos + 16) + 8) v := by
        rw [List.set_append_right _ _ (by rw [L1]; omega), L1, show pos + r - (pos + 16) + 8 - 8 = pos + r - (pos + 16) by omega]
      rw [e] at h2
      refine nextN_set _ _ (by rw [List.length_append, L1, L3]; omega) hp ?_ h2
      rw [List.getElem_append_right (by rw [L1]; omega)]
      simp only [L1, show pos + r - (pos + 16) + 8 - 8 = pos + r - (pos + 16) by omega]
      rw [cut_get (by omega) (by omega)]
      simpa [show pos + 16 + (pos + r - (pos + 16)) = pos + r by omega] using hv
include hn hs
/-- A log of which a byte is turned: it is scanned up to the frame of the byte. -/
theorem turned_log {fs : List Fr} (h : okL n fs) {t : Nat} {v : UInt8} (h20 : 20 ≤ t) (ht : t < (headN n salt ++ putsN (nextN salt (headN n salt)) fs).length) (hv : v ≠ (headN n salt ++ putsN (nextN salt (headN n salt)) fs)[t]) :
    ∃ i z, i ≤ fs.length ∧ (headN n salt ++ putsN (nextN salt (headN n salt)) fs).set t v = headN n salt ++ (putsN (nextN salt (headN n salt)) (fs.take i) ++ z) ∧
      ScanE (headN n salt ++ (putsN (nextN salt (headN n salt)) (fs.take i) ++ z)) ⟨20 + (fs.take i).length * (16 + n), linkL (nextN salt (headN n salt)) (fs.take i), fs.take i, (fs.take i).take (sureN (fs.take i)), linkL (nextN salt (headN n salt)) ((fs.take i).take (sureN (fs.take i))), 20 + sureN (fs.take i) * (16 + n)⟩ := by
  have hlen : (headN n salt ++ putsN (nextN salt (headN n salt)) fs).length = 20 + fs.length * (16 + n) := by rw [List.length_append, headN_len, putsN_len h]
  have hd : (t - 20) / (16 + n) * (16 + n) + (t - 20) % (16 + n) = t - 20 := by rw [Nat.mul_comm]; exact Nat.div_add_mod _ _
  have hm := Nat.mod_lt (t - 20) (show 0 < 16 + n by omega)
  obtain ⟨i, hi⟩ : ∃ i, i = (t - 20) / (16 + n) := ⟨_, rfl⟩
  obtain ⟨r, hr⟩ : ∃ r, r = (t - 20) % (16 + n) := ⟨_, rfl⟩
  rw [← hi, ← hr] at hd
  rw [← hr] at hm
  have hil : i < fs.length := by
    rw [hi, Nat.div_lt_iff_lt_mul (by omega)]; omega
  have hp0 : nextN salt (headN n salt) < 18446744073709551616 := nextN_lt hs _
  have hp := linkL_lt hp0 (fs.take i)
  have hoki : okL n (fs.take i) := fun f hf => h f (List.mem_of_mem_take hf)
  obtain ⟨hf1, hf2⟩ := h fs[i] (List.getElem_mem hil)
  have hfs : fs = fs.take i ++ (fs[i] :: fs.drop (i + 1)) := by rw [← List.drop_eq_getElem_cons hil, List.take_append_drop]
  have hputs : putsN (nextN salt (headN n salt)) fs = putsN (nextN salt (headN n salt)) (fs.take i) ++ (putN (linkL (nextN salt (headN n salt)) (fs.take i)) fs[i] ++ putsN (linkN (linkL (nextN salt (headN n salt)) (fs.take i)) fs[i]) (fs.drop (i + 1))) := by
    conv => lhs; rw [hfs]
    rw [putsN_app]; rfl
  have hA : (headN n salt ++ putsN (nextN salt (headN n salt)) (fs.take i)).length = 20 + i * (16 + n) := by rw [List.length_append, headN_len, putsN_len hoki, List.length_take, Nat.min_eq_left (by omega)]
  have hB : headN n salt ++ putsN (nextN salt (headN n salt)) fs = (headN n salt ++ putsN (nextN salt (headN n salt)) (fs.take i)) ++ (putN (linkL (nextN salt (headN n salt)) (fs.take i)) fs[i] ++ putsN (linkN (linkL (nextN salt (headN n salt)) (fs.take i)) fs[i]) (fs.drop (i + 1))) := by rw [hputs]; simp
  have htp : t = 20 + i * (16 + n) + r := by omega
  have hfits := fits_put (x := headN n salt ++ putsN (nextN salt (headN n salt)) (fs.take i)) (z := putsN (linkN (linkL (nextN salt (headN n salt)) (fs.take i)) fs[i]) (fs.drop (i + 1))) hf1 hp
  rw [← hB, hf2, hA] at hfits
  have hset : (headN n salt ++ putsN (nextN salt (headN n salt)) fs).set t v = headN n salt ++ (putsN (nextN salt (headN n salt)) (fs.take i) ++ ((putN (linkL (nextN salt (headN n salt)) (fs.take i)) fs[i] ++ putsN (linkN (linkL (nextN salt (headN n salt)) (fs.take i)) fs[i]) (fs.drop (i + 1))).set r v)) := by
    rw [hB, List.set_append_right _ _ (by rw [hA]; omega), hA, show t - (20 + i * (16 + n)) = r by omega, List.append_assoc]
  refine ⟨i, _, by omega, hset, ?_⟩
  refine scan_log hn hs hoki _ ?_
  rw [← hset, List.length_take, Nat.min_eq_left (by omega)]
  subst htp
  exact turned_fits hp hfits (by omega) ht hv
end
theorem sureN_app (a b : List Fr) : sureN (a ++ b) = if sureN b = 0 then sureN a else a.length + sureN b :=
  snocInd (P := fun b => sureN (a ++ b) = if sureN b = 0 then sureN a else a.length + sureN b) (by simp [sureN]) (fun l f ih => by
    rw [← List.append_assoc, sureN_snoc, sureN_snoc, List.length_append]
    split
    · rw [if_neg (by omega)]; omega
    · exact ih) b
theorem sureN_self (J : List Fr) : sureN (J.take (sureN J)) = sureN J :=
  snocInd (P := fun J => sureN (J.take (sureN J)) = sureN J) (by simp [sureN]) (fun l f ih => by
    have h1 := sureN_snoc l f
    by_cases hc : 0 < f.commit
    · rw [if_pos hc] at h1
      rw [List.take_of_length_le (by rw [h1]; simp)]
    · rw [if_neg hc] at h1
      rw [h1, List.take_append_of_le_length (sureN_le l), ih]) J
/-- What is put behind the sure frames is sure as far as it is. -/
theorem goes_fin (J M : List Fr) : (J.take (sureN J) ++ M).take (sureN (J.take (sureN J) ++ M)) = J.take (sureN J) ++ M.take (sureN M) := by
  have hl : (J.take (sureN J)).length = sureN J := by rw [List.length_take, Nat.min_eq_left (sureN_le J)]
  rw [sureN_app, sureN_self, hl]
  split
  · rename_i h0
    rw [h0, List.take_zero, List.append_nil, List.take_append_of_le_length (by omega), List.take_of_length_le (by omega)]
  · rw [List.take_append, hl, List.take_of_length_le (by omega), show sureN J + sureN M - sureN J = sureN M by omega]
theorem set_inc {l : List UInt8} {t : Nat} (h : t < l.length) : (l.map bv).set t (.int .u8 (((l[t].toNat + 1) % 256 : Nat) : Int)) = (l.set t (l[t] + 1)).map bv := by
  rw [List.map_set]; congr 1
theorem byte_inc (x : UInt8) : x + 1 ≠ x := fun h => by
  have h1 := congrArg UInt8.toNat h
  rw [UInt8.toNat_add] at h1
  have h2 := x.toNat_lt
  have h3 : (1 : UInt8).toNat = 1 := rfl
  rw [h3] at h1
  omega
end Go.Proofs.Ytpebbkhainpfaaa
