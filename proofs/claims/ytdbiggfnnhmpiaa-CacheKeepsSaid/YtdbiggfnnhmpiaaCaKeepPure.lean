/- What the law CacheKeeps asks of its cache, in plain lists. Conditions: those that each fact names. -/
import Derived.Test.YtdbiggfnnhmpiaaCaDirty
namespace Go.Proofs.Ytdbiggfnnhmpiaa
open Go Go.HL

/-- The law's tables and the pages at hand, behind i calls: what is at hand was put later than it was told; all else was told as it was put. -/
structure Kp (i N : Nat) (L : List AP) (P T : List Int) : Prop where
  lp : P.length = 16
  lt : T.length = 16
  len : L.length ≤ N
  nd : (nos L).Nodup
  pg : ∀ x ∈ L, x.d = true ∧ ∃ (q : Nat) (z t : Int), x.no = (q : Int) + 1 ∧ P[q]? = some z ∧ x.b = [bno z] ∧ T[q]? = some t ∧ t < z
  pr : ∀ (q : Nat) (z : Int), P[q]? = some z → 0 ≤ z ∧ z ≤ i
  out : ∀ q : Nat, (q : Int) + 1 ∉ nos L → T[q]? = P[q]?
theorem Kp.zero (N : Nat) : Kp 0 N [] (List.replicate 16 0) (List.replicate 16 0) :=
  ⟨by simp, by simp, by simp, by simp [nos], fun x hx => by simp at hx, fun q z h => by
    have h1 := List.mem_of_getElem? h
    have h2 := List.eq_of_mem_replicate h1
    omega, fun _ _ => rfl⟩
theorem Kp.told {i N : Nat} {L : List AP} {P T : List Int} (r : Kp i N L P T) {q : Nat} {t : Int} (h : T[q]? = some t) : t ≤ i := by
  by_cases hq : (q : Int) + 1 ∈ nos L
  · obtain ⟨x, hx, hxn⟩ := List.mem_map.1 hq
    obtain ⟨_, q', z, t', h1, h2, _, h3, h4⟩ := r.pg x hx
    have : q' = q := by omega
    subst this
    rw [h] at h3; injection h3 with h3
    have := (r.pr _ _ h2).2
    omega
  · rw [r.out q hq] at h
    exact (r.pr _ _ h).2
theorem Kp.mono {i j N : Nat} {L : List AP} {P T : List Int} (r : Kp i N L P T) (h : i ≤ j) : Kp j N L P T :=
  ⟨r.lp, r.lt, r.len, r.nd, r.pg, fun q z hz => by have := r.pr q z hz; omega, r.out⟩
theorem Kp.get {i N : Nat} {L : List AP} {P T : List Int} (r : Kp i N L P T) (no : Int) : Kp i N (getL no L) P T := by
  unfold getL
  cases e : hit no L with
  | none => exact r
  | some x =>
    obtain ⟨hx, hxn⟩ := hit_some e
    subst hxn
    have hm := touch_mem r.nd hx
    have hn := nd_touch (x := x) r.nd
    have hlen : (x :: rid x.no L).length ≤ L.length := by
      have h5 : rid x.no L ≠ L := fun e2 => (mem_rid.1 (show x ∈ rid x.no L by rw [e2]; exact hx)).2 rfl
      have h6 := rid_len x.no L
      have h7 : (rid x.no L).length ≠ L.length := fun e2 => h5 ((List.filter_sublist (l := L)).eq_of_length e2)
      simp only [List.length_cons]; omega
    refine ⟨r.lp, r.lt, Nat.le_trans hlen r.len, hn, fun y hy => r.pg y ((hm y).1 hy), r.pr, fun q hq => r.out q fun h => hq ?_⟩
    obtain ⟨y, hy, hyn⟩ := List.mem_map.1 h
    exact List.mem_map.2 ⟨y, (hm y).2 hy, hyn⟩
/-- A page that is put: the tables and the list ahead of the one that goes. -/
theorem Kp.put1 {i N : Nat} {L : List AP} {P T : List Int} (r : Kp i N L P T) {q : Nat} (hq : q < 16) :
    Kp (i + 1) (N + 1) (putL1 ((q : Int) + 1) [bno ((i : Int) + 1)] true L) (P.set q ((i : Int) + 1)) T := by
  have hnd : (nos (putL1 ((q : Int) + 1) [bno ((i : Int) + 1)] true L)).Nodup := nd_touch (x := ⟨(q : Int) + 1, [bno ((i : Int) + 1)], true || wasD ((q : Int) + 1) L⟩) r.nd
  have hset : ∀ q' : Nat, q' ≠ q → (P.set q ((i : Int) + 1))[q']? = P[q']? := fun q' h => by rw [List.getElem?_set]; simp [Ne.symm h]
  have hset1 : (P.set q ((i : Int) + 1))[q]? = some ((i : Int) + 1) := by rw [List.getElem?_set]; simp [r.lp, hq]
  refine ⟨by simp [r.lp], r.lt, ?_, hnd, fun x hx => ?_, fun q' z hz => ?_, fun q' hq' => ?_⟩
  · have := putL1_len ((q : Int) + 1) [bno ((i : Int) + 1)] true L
    have := r.len
    omega
  · rcases List.mem_cons.1 hx with rfl | hx
    · obtain ⟨t, ht⟩ : ∃ t, T[q]? = some t := ⟨T[q]'(by rw [r.lt]; exact hq), by simp [r.lt, hq]⟩
      have := r.told ht
      exact ⟨by simp, q, (i : Int) + 1, t, rfl, hset1, rfl, ht, by omega⟩
    · obtain ⟨h1, h2⟩ := mem_rid.1 hx
      obtain ⟨hd, q', z, t, h3, h4, h5, h6, h7⟩ := r.pg x h1
      refine ⟨hd, q', z, t, h3, ?_, h5, h6, h7⟩
      rw [hset q' (by rintro rfl; exact h2 h3)]; exact h4
  · by_cases e : q' = q
    · subst e; rw [hset1] at hz; injection hz with hz; omega
    · rw [hset q' e] at hz
      have := r.pr q' z hz
      omega
  · have h1 : nos (putL1 ((q : Int) + 1) [bno ((i : Int) + 1)] true L) = ((q : Int) + 1) :: nos (rid ((q : Int) + 1) L) := rfl
    rw [h1, List.mem_cons, not_or, nos_rid, List.mem_filter] at hq'
    have h2 : q' ≠ q := fun e => hq'.1 (by rw [e])
    rw [hset q' h2]
    exact r.out q' fun h => hq'.2 ⟨h, by simpa using hq'.1⟩
/-- One goes, and is told. -/
theorem Kp.drop {i N : Nat} {L : List AP} {P T : List Int} (r : Kp i (N + 1) L P T) {y : AP} (hy : L.getLast? = some y) {q : Nat} {z : Int} (hq : y.no = (q : Int) + 1) (hz : P[q]? = some z) : Kp i N L.dropLast P (T.set q z) := by
  have hr := drop_last r.nd hy
  have hq16 : q < 16 := by have := (List.getElem?_eq_some_iff.1 hz).1; rw [r.lp] at this; exact this
  have hset : ∀ q' : Nat, q' ≠ q → (T.set q z)[q']? = T[q']? := fun q' h => by rw [List.getElem?_set]; simp [Ne.symm h]
  have hset1 : (T.set q z)[q]? = some z := by rw [List.getElem?_set]; simp [r.lt, hq16]
  rw [← hr]
  refine ⟨r.lp, by simp [r.lt], ?_, nd_rid r.nd, fun x hx => ?_, r.pr, fun q' hq' => ?_⟩
  · rw [hr, List.length_dropLast]; have := r.len; omega
  · obtain ⟨h1, h2⟩ := mem_rid.1 hx
    obtain ⟨hd, q', z', t, h3, h4, h5, h6, h7⟩ := r.pg x h1
    refine ⟨hd, q', z', t, h3, h4, h5, ?_, h7⟩
    rw [hset q' (by rintro rfl; exact h2 (by rw [h3, hq]))]; exact h6
  · by_cases e : q' = q
    · subst e; rw [hset1, hz]
    · rw [hset q' e]
      refine r.out q' fun h => hq' ?_
      rw [nos_rid, List.mem_filter]
      exact ⟨h, by rw [hq]; simp; omega⟩

theorem Kp.put {i N : Nat} {L : List AP} {P T : List Int} (r : Kp i N L P T) {q : Nat} (hq : q < 16) :
    (putA N ((q : Int) + 1) [bno ((i : Int) + 1)] true L = [] ∧ Kp (i + 1) N (putL N ((q : Int) + 1) [bno ((i : Int) + 1)] true L) (P.set q ((i : Int) + 1)) T) ∨
    ∃ (qy : Nat) (z : Int), putA N ((q : Int) + 1) [bno ((i : Int) + 1)] true L = [⟨(qy : Int) + 1, 0, [bno z]⟩] ∧ qy < 16 ∧ (P.set q ((i : Int) + 1))[qy]? = some z ∧ 0 ≤ z ∧ z ≤ i + 1 ∧ Kp (i + 1) N (putL N ((q : Int) + 1) [bno ((i : Int) + 1)] true L) (P.set q ((i : Int) + 1)) (T.set qy z) := by
  have r1 := r.put1 hq
  unfold putA putL
  have hno : ¬ ((q : Int) + 1 < 1) := by omega
  simp only [if_neg hno]
  by_cases h : ((putL1 ((q : Int) + 1) [bno ((i : Int) + 1)] true L).length : Int) ≤ N
  · left
    simp only [if_pos h]
    exact ⟨trivial, r1.lp, r1.lt, by omega, r1.nd, r1.pg, r1.pr, r1.out⟩
  · right
    simp only [if_neg h]
    obtain ⟨y, hy⟩ : ∃ y, (putL1 ((q : Int) + 1) [bno ((i : Int) + 1)] true L).getLast? = some y := by
      cases e : (putL1 ((q : Int) + 1) [bno ((i : Int) + 1)] true L).getLast? with
      | some y => exact ⟨y, rfl⟩
      | none => rw [List.getLast?_eq_none_iff] at e; simp [putL1] at e
    obtain ⟨hd, qy, z, t, h1, h2, h3, h4, h5⟩ := r1.pg y (List.mem_of_getLast? hy)
    have hz := r1.pr qy z h2
    have hq16 : qy < 16 := by have := (List.getElem?_eq_some_iff.1 h2).1; rw [r1.lp] at this; exact this
    refine ⟨qy, z, ?_, hq16, h2, hz.1, by omega, r1.drop hy h1 h2⟩
    rw [hy, told_yes hd, h1, h3]

/-- The last reading: the numbers from the k-th on are still to be told. -/
structure Kd (S : List Int) (k : Nat) (P T : List Int) : Prop where
  lp : P.length = 16
  lt : T.length = 16
  nd : S.Nodup
  rest : ∀ q : Nat, (q : Int) + 1 ∈ S.drop k → ∃ z t, P[q]? = some z ∧ T[q]? = some t ∧ t < z
  done : ∀ q : Nat, (q : Int) + 1 ∉ S.drop k → T[q]? = P[q]?
theorem Kp.last {i N : Nat} {L : List AP} {P T S : List Int} (r : Kp i N L P T) (hS : S.Perm (nos L)) : Kd S 0 P T := by
  refine ⟨r.lp, r.lt, hS.nodup_iff.2 r.nd, fun q hq => ?_, fun q hq => r.out q fun h => hq (hS.mem_iff.2 h)⟩
  obtain ⟨x, hx, hxn⟩ := List.mem_map.1 (hS.mem_iff.1 hq)
  obtain ⟨_, q', z, t, h1, h2, _, h3, h4⟩ := r.pg x hx
  have : q' = q := by omega
  subst this
  exact ⟨z, t, h2, h3, h4⟩
theorem Kd.next {S : List Int} {k : Nat} {P T : List Int} (r : Kd S k P T) (hk : k < S.length) {q : Nat} {z : Int} (hq : S[k] = (q : Int) + 1) (hz : P[q]? = some z) : Kd S (k + 1) P (T.set q z) := by
  have hd : S.drop k = S[k] :: S.drop (k + 1) := List.drop_eq_getElem_cons hk
  have hnd : (S[k] :: S.drop (k + 1)).Nodup := by rw [← hd]; exact r.nd.sublist (List.drop_sublist _ _)
  rw [List.nodup_cons] at hnd
  have hq16 : q < 16 := by have := (List.getElem?_eq_some_iff.1 hz).1; rw [r.lp] at this; exact this
  have hset : ∀ q' : Nat, q' ≠ q → (T.set q z)[q']? = T[q']? := fun q' h => by rw [List.getElem?_set]; simp [Ne.symm h]
  have hset1 : (T.set q z)[q]? = some z := by rw [List.getElem?_set]; simp [r.lt, hq16]
  refine ⟨r.lp, by simp [r.lt], r.nd, fun q' hq' => ?_, fun q' hq' => ?_⟩
  · have h1 : q' ≠ q := by rintro rfl; exact hnd.1 (hq ▸ hq')
    rw [hset q' h1]
    exact r.rest q' (by rw [hd]; exact List.mem_cons_of_mem _ hq')
  · by_cases e : q' = q
    · subst e; rw [hset1, hz]
    · rw [hset q' e]
      refine r.done q' fun h => ?_
      rw [hd] at h
      rcases List.mem_cons.1 h with h | h
      · rw [hq] at h; omega
      · exact hq' h
theorem Kd.fin {S : List Int} {P T : List Int} (r : Kd S S.length P T) : T = P := by
  apply List.ext_getElem?
  intro q
  exact r.done q (by simp)
/-- Each number that Dirty tells, with what was put. -/
theorem Kp.frames {i N : Nat} {L : List AP} {P T S : List Int} (r : Kp i N L P T) (hS : S.Perm (nos L)) : dirtyS S L = S.map fun k => ⟨k, 0, [bno (P.getD (k - 1).toNat 0)]⟩ := by
  have h1 : ∀ k ∈ S, dirty1 L k = [⟨k, 0, [bno (P.getD (k - 1).toNat 0)]⟩] := fun k hk => by
    obtain ⟨x, hx⟩ := hit_mem (hS.mem_iff.1 hk)
    obtain ⟨hxm, hxn⟩ := hit_some hx
    obtain ⟨hd, q, z, t, h1, h2, h3, _⟩ := r.pg x hxm
    unfold dirty1
    rw [hx, told_yes hd, hxn, h3]
    have e : (k - 1).toNat = q := by omega
    rw [e, List.getD, h2]; rfl
  unfold dirtyS
  clear hS
  induction S with
  | nil => rfl
  | cons a s ih =>
    rw [List.flatMap_cons, h1 a List.mem_cons_self, ih fun k hk => h1 k (List.mem_cons_of_mem _ hk)]; rfl
end Go.Proofs.Ytdbiggfnnhmpiaa
