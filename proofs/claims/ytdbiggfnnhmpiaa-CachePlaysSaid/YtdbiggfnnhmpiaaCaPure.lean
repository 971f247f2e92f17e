/- What the law CacheLatest asks of its cache, in plain lists. Conditions: those that each fact names. -/
import Derived.Test.YtdbiggfnnhmpiaaCaImp3
namespace Go.Proofs.Ytdbiggfnnhmpiaa
open Go Go.HL

/-- A list's different numbers, the first of each. -/
def dd : List Int → List Int
  | [] => []
  | x :: r => x :: (dd r).filter fun y => decide (y ≠ x)
theorem mem_dd {y : Int} : ∀ {l : List Int}, y ∈ dd l ↔ y ∈ l
  | [] => by simp [dd]
  | x :: r => by
    simp only [dd, List.mem_cons, List.mem_filter, decide_eq_true_eq, mem_dd (l := r)]
    by_cases e : y = x <;> simp [e]
theorem dd_nodup : ∀ l : List Int, (dd l).Nodup
  | [] => by simp [dd]
  | x :: r => by
    simp only [dd, List.nodup_cons]
    exact ⟨by simp, (dd_nodup r).filter _⟩
theorem dd_snoc (x : Int) : ∀ l : List Int, dd (l ++ [x]) = if x ∈ l then dd l else dd l ++ [x]
  | [] => by simp [dd]
  | y :: r => by
    simp only [List.cons_append, dd, dd_snoc x r]
    by_cases e : x = y
    · subst e
      by_cases h : x ∈ r
      · simp [h]
      · simp [h, List.filter_append]
    · by_cases h : x ∈ r
      · simp [h]
      · simp [h, e, List.filter_append]
theorem dd_take (l : List Int) (k : Nat) : ∃ t, dd l = dd (l.take k) ++ t := by
  by_cases hk : l.length ≤ k
  · exact ⟨[], by rw [List.take_of_length_le hk]; simp⟩
  · obtain ⟨n, hn⟩ : ∃ n, n = l.length - k := ⟨_, rfl⟩
    induction n generalizing k with
    | zero => omega
    | succ n ih =>
      have hk' : k < l.length := by omega
      have e : l.take (k + 1) = l.take k ++ [l[k]] := List.take_succ_eq_append_getElem hk'
      have hs := dd_snoc l[k] (l.take k)
      rw [← e] at hs
      by_cases h1 : l.length ≤ k + 1
      · rw [List.take_of_length_le h1] at hs
        by_cases h2 : l[k] ∈ l.take k
        · rw [if_pos h2] at hs; exact ⟨[], by rw [hs]; simp⟩
        · rw [if_neg h2] at hs; exact ⟨_, hs⟩
      · obtain ⟨t, ht⟩ := ih (k + 1) h1 (by omega)
        by_cases h2 : l[k] ∈ l.take k
        · rw [if_pos h2] at hs; rw [hs] at ht; exact ⟨t, ht⟩
        · rw [if_neg h2] at hs; rw [hs, List.append_assoc] at ht; exact ⟨_, ht⟩
theorem take_filter (a : Int) : ∀ (D : List Int) (m : Nat), D.Nodup → ((D.take (m + 1)).filter fun y => decide (y ≠ a)).take m = (D.filter fun y => decide (y ≠ a)).take m
  | [], m, _ => by simp
  | x :: D, m, hn => by
    rw [List.nodup_cons] at hn
    by_cases e : x = a
    · subst e
      have h1 : ∀ l : List Int, x ∉ l → l.filter (fun y => decide (y ≠ x)) = l := fun l hl => by
        rw [List.filter_eq_self]
        intro y hy
        simp only [decide_eq_true_eq]
        rintro rfl
        exact hl hy
      simp only [List.take_succ_cons]
      rw [List.filter_cons, List.filter_cons]
      simp only [ne_eq, not_true_eq_false, decide_false, Bool.false_eq_true, if_false]
      have h2 := h1 D hn.1
      have h3 := h1 (D.take m) fun hm => hn.1 (List.mem_of_mem_take hm)
      simp only [ne_eq] at h2 h3
      rw [h2, h3, List.take_take]; simp
    · cases m with
      | zero => simp
      | succ m =>
        have ih := take_filter a D m hn.2
        simp only [List.take_succ_cons]
        rw [List.filter_cons, List.filter_cons]
        simp only [ne_eq, e, not_false_eq_true, decide_true, if_true, List.take_succ_cons]
        congr 1
/-- What the law does to its cache at a number. -/
def ask (n : Nat) (no : Int) (b : List UInt8) (L : List AP) : List AP := if (hit no L).isSome then getL no L else putL n no b false L
theorem ask_nos {n : Nat} (hn : 1 ≤ n) {no : Int} (h1 : 1 ≤ no) {b : List UInt8} {L : List AP} {s : List Int} (hL : nos L = (dd s).take n) : nos (ask n no b L) = (dd (no :: s)).take n := by
  obtain ⟨m, rfl⟩ : ∃ m, n = m + 1 := ⟨n - 1, by omega⟩
  have hr : nos (rid no L) = ((dd s).take (m + 1)).filter fun y => decide (y ≠ no) := by rw [nos_rid, hL]
  have hlen : L.length ≤ m + 1 := by
    have := congrArg List.length hL
    simp [nos] at this; omega
  have goal : (dd (no :: s)).take (m + 1) = no :: (nos (rid no L)).take m := by
    rw [hr, take_filter no _ _ (dd_nodup s)]
    simp [dd]
  rw [goal]
  unfold ask
  have hrl : (nos (rid no L)).length ≤ L.length := by have := rid_len no L; simp [nos]; exact this
  cases e : hit no L with
  | some x =>
    obtain ⟨hx, hxn⟩ := hit_some e
    have h2 : getL no L = x :: rid no L := by unfold getL; rw [e]
    simp only [Option.isSome_some, if_true, h2]
    have h3 : (rid no L).length + 1 ≤ L.length := by
      have h5 : rid no L ≠ L := fun e2 => (mem_rid.1 (show x ∈ rid no L by rw [e2]; exact hx)).2 hxn
      have h6 := rid_len no L
      have h7 : (rid no L).length ≠ L.length := fun e2 => h5 ((List.filter_sublist (l := L)).eq_of_length e2)
      omega
    have h4 : nos (x :: rid no L) = no :: nos (rid no L) := by rw [← hxn]; rfl
    rw [h4, List.take_of_length_le]
    simp [nos]; omega
  | none =>
    simp only [Option.isSome_none, Bool.false_eq_true, if_false]
    unfold putL
    rw [if_neg (by omega)]
    have h4 : nos (putL1 no b false L) = no :: nos (rid no L) := rfl
    have h5 : (putL1 no b false L).length = (rid no L).length + 1 := by simp [putL1]
    have h6 := rid_len no L
    by_cases h : ((putL1 no b false L).length : Int) ≤ ((m + 1 : Nat) : Int)
    · rw [if_pos h, h4, List.take_of_length_le]
      simp [nos]; omega
    · rw [if_neg h]
      have h7 : nos (putL1 no b false L).dropLast = (nos (putL1 no b false L)).dropLast := by unfold nos; rw [List.map_dropLast]
      rw [h7, h4, List.dropLast_eq_take]
      have h8 : (no :: nos (rid no L)).length - 1 = m + 1 := by simp [nos]; omega
      rw [h8, List.take_succ_cons]
/-- Each page at hand is as the law put it. -/
theorem ask_all {m : Nat} {no : Int} {b : List UInt8} {L : List AP} {R : AP → Prop} (hL : ∀ x ∈ L, R x) (hb : hit no L = none → R ⟨no, b, false⟩) : ∀ x ∈ ask m no b L, R x := by
  intro x hx
  unfold ask at hx
  cases e : hit no L with
  | some y =>
    rw [e] at hx
    simp only [Option.isSome_some, if_true] at hx
    unfold getL at hx
    rw [e] at hx
    rcases List.mem_cons.1 hx with rfl | hx
    · exact hL _ (hit_some e).1
    · exact hL _ (mem_rid.1 hx).1
  | none =>
    rw [e] at hx
    simp only [Option.isSome_none, Bool.false_eq_true, if_false] at hx
    have h1 : x ∈ L ∨ x = ⟨no, b, false⟩ := by
      unfold putL at hx
      split at hx
      · exact .inl hx
      · have h2 : x ∈ putL1 no b false L := by
          split at hx
          · exact hx
          · exact (List.dropLast_sublist _).subset hx
        rcases List.mem_cons.1 h2 with h2 | h2
        · right; rw [h2]; unfold wasD; rw [e]; rfl
        · exact .inl (mem_rid.1 h2).1
    rcases h1 with h1 | rfl
    · exact hL _ h1
    · exact hb e
/-- The numbers of the law's bytes. -/
def pno (u : UInt8) : Int := (u.toNat : Int) % 12 + 1
def askL (n : Nat) (l : List UInt8) : List AP := l.foldl (fun L u => ask n (pno u) [UInt8.ofNat (pno u).toNat] L) []
theorem askL_next {n : Nat} {l : List UInt8} {k : Nat} (h : k < l.length) : askL n (l.take (k + 1)) = ask n (pno l[k]) [UInt8.ofNat (pno l[k]).toNat] (askL n (l.take k)) := by
  unfold askL
  rw [List.take_succ_eq_append_getElem h, List.foldl_append]; rfl
theorem askL_nos {n : Nat} (hn : 1 ≤ n) (l : List UInt8) : ∀ k, k ≤ l.length → nos (askL n (l.take k)) = (dd ((l.take k).map pno).reverse).take n
  | 0, _ => by simp [askL, nos, dd]
  | k + 1, h => by
    rw [askL_next (by omega), ask_nos hn (by unfold pno; omega) (askL_nos hn l k (by omega)), List.take_succ_eq_append_getElem (show k < l.length by omega), List.map_append, List.reverse_append]; rfl
theorem askL_all {n : Nat} (l : List UInt8) : ∀ k, k ≤ l.length → ∀ x ∈ askL n (l.take k), x.b = [UInt8.ofNat x.no.toNat]
  | 0, _ => by simp [askL]
  | k + 1, h => by
    rw [askL_next (by omega)]
    exact ask_all (m := n) (askL_all l k (by omega)) (fun _ => rfl)
theorem askL_len {n : Nat} (hn : 1 ≤ n) (l : List UInt8) (k : Nat) (h : k ≤ l.length) : (askL n (l.take k)).length ≤ n := by
  have := congrArg List.length (askL_nos hn l k h)
  simp [nos] at this; omega
end Go.Proofs.Ytdbiggfnnhmpiaa
