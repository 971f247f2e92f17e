/- The latest frames in plain terms: a map from pages, and a sorted row. Conditions: those that each fact names. -/
import Derived.Test.YtpebbkhainpfaaaWfPure
namespace Go.Proofs.Ytpebbkhainpfaaa
open Go Go.HL
@[reducible] def frN (l : List Fr) (i : Nat) : Fr := l[i]?.getD ⟨0, 0, []⟩
def iput : List (Int × Nat) → Int → Nat → List (Int × Nat)
  | [], k, v => [(k, v)]
  | p :: l, k, v => if p.1 = k then (k, v) :: l else p :: iput l k v
theorem aput_map (g : Nat → Value) (k : Int) (i : Nat) : ∀ m : List (Int × Nat), aput (m.map fun p => (p.1, g p.2)) k (g i) = (iput m k i).map fun p => (p.1, g p.2)
  | [] => rfl
  | p :: m => by
    simp only [List.map_cons, aput, iput]
    split
    · rfl
    · rw [aput_map g k i m]; rfl
theorem iput_keys (k : Int) (i : Nat) : ∀ m : List (Int × Nat), (iput m k i).map (·.1) = if k ∈ m.map (·.1) then m.map (·.1) else m.map (·.1) ++ [k]
  | [] => by simp [iput]
  | p :: m => by
    have ih := iput_keys k i m
    unfold iput
    by_cases h : p.1 = k
    · simp [h]
    · rw [if_neg h, List.map_cons, ih]
      have h2 : ¬ k = p.1 := fun e => h e.symm
      by_cases h3 : k ∈ m.map (·.1)
      · rw [if_pos h3, if_pos (by simp only [List.map_cons, List.mem_cons]; exact .inr h3)]; rfl
      · rw [if_neg h3, if_neg (by simp only [List.map_cons, List.mem_cons, not_or]; exact ⟨h2, h3⟩)]; rfl
theorem iput_nodup {m : List (Int × Nat)} (h : (m.map (·.1)).Nodup) (k : Int) (i : Nat) : ((iput m k i).map (·.1)).Nodup := by
  rw [iput_keys]
  split
  · exact h
  · rename_i h2
    exact List.nodup_append.2 ⟨h, by simp, fun a ha b hb => by
      rw [List.mem_singleton] at hb; subst hb; rintro rfl; exact h2 ha⟩
theorem mem_iput {m : List (Int × Nat)} (h : (m.map (·.1)).Nodup) {k : Int} {i : Nat} {p : Int × Nat} : p ∈ iput m k i ↔ p = (k, i) ∨ (p ∈ m ∧ p.1 ≠ k) := by
  induction m with
  | nil => simp [iput]
  | cons q m ih =>
    rw [List.map_cons, List.nodup_cons] at h
    unfold iput
    split
    · rename_i hq
      simp only [List.mem_cons]
      constructor
      · rintro (h1 | h1)
        · exact .inl h1
        · refine .inr ⟨.inr h1, fun e => h.1 ?_⟩
          rw [hq, ← e]; exact List.mem_map.2 ⟨p, h1, rfl⟩
      · rintro (h1 | ⟨h1 | h1, h2⟩)
        · exact .inl h1
        · subst h1; exact absurd hq h2
        · exact .inr h1
    · rename_i hq
      simp only [List.mem_cons, ih h.2]
      constructor
      · rintro (h1 | h1 | h1)
        · subst h1; exact .inr ⟨.inl rfl, hq⟩
        · exact .inl h1
        · exact .inr ⟨.inr h1.1, h1.2⟩
      · rintro (h1 | ⟨h1 | h1, h2⟩)
        · exact .inr (.inl h1)
        · exact .inl h1
        · exact .inr (.inr ⟨h1, h2⟩)
section
variable (l : List Fr)
/-- The program's map behind a frame more, and its last commit. -/
def stepM (m : List (Int × Nat)) (i : Nat) : List (Int × Nat) :=
  if (frN l i).commit = 0 then iput m (frN l i).page i else (iput m (frN l i).page i).filter fun p => decide (p.1 ≤ (frN l i).commit)
def stepC (c : Int) (i : Nat) : Int := if (frN l i).commit = 0 then c else (frN l i).commit
def latM (k : Nat) : List (Int × Nat) := (List.range k).foldl (stepM l) []
def latC (k : Nat) : Int := (List.range k).foldl (stepC l) 0
theorem latM_succ (k : Nat) : latM l (k + 1) = stepM l (latM l k) k := by simp [latM, List.range_succ]
theorem latC_succ (k : Nat) : latC l (k + 1) = stepC l (latC l k) k := by simp [latC, List.range_succ]
/-- The document's row behind a frame more. -/
def stepI (i : Nat) (st : List Nat × Bool) (k : Nat) : List Nat × Bool :=
  let s1 := if st.2 = false ∧ (frN l i).page ≤ (frN l k).page then (st.1 ++ [i], true) else st
  if (frN l k).page ≠ (frN l i).page then (s1.1 ++ [k], s1.2) else s1
def insI (out : List Nat) (i : Nat) : List Nat := let st := out.foldl (stepI l i) ([], false); if st.2 then st.1 else st.1 ++ [i]
def stepO (out : List Nat) (i : Nat) : List Nat :=
  if (frN l i).commit = 0 then insI l out i else (insI l out i).filter fun k => decide ((frN l k).page ≤ (frN l i).commit)
def latO (k : Nat) : List Nat := (List.range k).foldl (stepO l) []
theorem latO_succ (k : Nat) : latO l (k + 1) = stepO l (latO l k) k := by simp [latO, List.range_succ]
def ins (i : Nat) : List Nat → List Nat
  | [] => [i]
  | k :: r => if (frN l k).page < (frN l i).page then k :: ins i r else if (frN l k).page = (frN l i).page then i :: r else i :: k :: r
abbrev Sorted (out : List Nat) : Prop := out.Pairwise fun a b => (frN l a).page < (frN l b).page
theorem fold_true (i : Nat) : ∀ (r : List Nat) (acc : List Nat), r.foldl (stepI l i) (acc, true) = (acc ++ r.filter fun k => decide ((frN l k).page ≠ (frN l i).page), true)
  | [], acc => by simp
  | k :: r, acc => by
    have h1 : stepI l i (acc, true) k = if (frN l k).page ≠ (frN l i).page then (acc ++ [k], true) else (acc, true) := by simp [stepI]
    rw [List.foldl_cons, h1, List.filter_cons]
    by_cases h : (frN l k).page = (frN l i).page
    · rw [if_neg (by simpa using h), fold_true i r]; simp [h]
    · rw [if_pos h, fold_true i r]; simp [h]
theorem fold_false (i : Nat) : ∀ (r : List Nat) (acc : List Nat), Sorted l r → (let st := r.foldl (stepI l i) (acc, false); if st.2 then st.1 else st.1 ++ [i]) = acc ++ ins l i r
  | [], acc, _ => by simp [ins]
  | k :: r, acc, hs => by
    have hs' := List.pairwise_cons.1 hs
    rw [List.foldl_cons]
    rcases Int.lt_trichotomy (frN l k).page (frN l i).page with h | h | h
    · have h1 : stepI l i (acc, false) k = (acc ++ [k], false) := by
        have : ¬ (frN l i).page ≤ (frN l k).page := by omega
        simp only [stepI, this, and_false, if_false]
        rw [if_pos (by omega)]
      rw [h1]
      have := fold_false i r (acc ++ [k]) hs'.2
      rw [this, ins, if_pos h]; simp
    · have h1 : stepI l i (acc, false) k = (acc ++ [i], true) := by
        have : (frN l i).page ≤ (frN l k).page := by omega
        simp only [stepI, this, and_self, if_true]
        rw [if_neg (by omega)]
      rw [h1, fold_true]
      have h2 : (r.filter fun k => decide ((frN l k).page ≠ (frN l i).page)) = r := by
        rw [List.filter_eq_self]
        intro a ha
        have := hs'.1 a ha
        simp; omega
      rw [h2]
      show acc ++ [i] ++ r = acc ++ ins l i (k :: r)
      rw [ins, if_neg (by omega), if_pos h]; simp
    · have h1 : stepI l i (acc, false) k = (acc ++ [i] ++ [k], true) := by
        have : (frN l i).page ≤ (frN l k).page := by omega
        simp only [stepI, this, and_self, if_true]
        rw [if_pos (by omega)]
      rw [h1, fold_true]
      have h2 : (r.filter fun k => decide ((frN l k).page ≠ (frN l i).page)) = r := by
        rw [List.filter_eq_self]
        intro a ha
        have := hs'.1 a ha
        simp; omega
      rw [h2]
      show acc ++ [i] ++ [k] ++ r = acc ++ ins l i (k :: r)
      rw [ins, if_neg (by omega), if_neg (by omega)]; simp
theorem insI_eq {out : List Nat} (hs : Sorted l out) (i : Nat) : insI l out i = ins l i out := by
  have := fold_false l i out [] hs
  simpa [insI] using this
theorem mem_ins {i : Nat} : ∀ {out : List Nat}, Sorted l out → ∀ {k : Nat}, k ∈ ins l i out ↔ k = i ∨ (k ∈ out ∧ (frN l k).page ≠ (frN l i).page)
  | [], _, k => by simp [ins]
  | a :: r, hs, k => by
    have hs' := List.pairwise_cons.1 hs
    unfold ins
    split
    · rename_i h
      rw [List.mem_cons, mem_ins hs'.2, List.mem_cons]
      constructor
      · rintro (h1 | h1 | h1)
        · subst h1; exact .inr ⟨.inl rfl, by omega⟩
        · exact .inl h1
        · exact .inr ⟨.inr h1.1, h1.2⟩
      · rintro (h1 | ⟨h1 | h1, h2⟩)
        · exact .inr (.inl h1)
        · exact .inl h1
        · exact .inr (.inr ⟨h1, h2⟩)
    · split
      · rename_i h1 h2
        simp only [List.mem_cons]
        constructor
        · rintro (h3 | h3)
          · exact .inl h3
          · have := hs'.1 k h3; exact .inr ⟨.inr h3, by omega⟩
        · rintro (h3 | ⟨h3 | h3, h4⟩)
          · exact .inl h3
          · subst h3; exact absurd h2 h4
          · exact .inr h3
      · rename_i h1 h2
        simp only [List.mem_cons]
        constructor
        · rintro (h3 | h3 | h3)
          · exact .inl h3
          · subst h3; exact .inr ⟨.inl rfl, by omega⟩
          · have := hs'.1 k h3; exact .inr ⟨.inr h3, by omega⟩
        · rintro (h3 | ⟨h3 | h3, h4⟩)
          · exact .inl h3
          · exact .inr (.inl h3)
          · exact .inr (.inr h3)
theorem sorted_ins {i : Nat} : ∀ {out : List Nat}, Sorted l out → Sorted l (ins l i out)
  | [], _ => by simp [ins]
  | a :: r, hs => by
    have hs' := List.pairwise_cons.1 hs
    unfold ins
    split
    · rename_i h
      refine List.pairwise_cons.2 ⟨fun b hb => ?_, sorted_ins hs'.2⟩
      rcases (mem_ins l hs'.2).1 hb with rfl | h1
      · exact h
      · exact hs'.1 b h1.1
    · split
      · rename_i h1 h2
        exact List.pairwise_cons.2 ⟨fun b hb => by have := hs'.1 b hb; omega, hs'.2⟩
      · rename_i h1 h2
        refine List.pairwise_cons.2 ⟨fun b hb => ?_, hs⟩
        rcases List.mem_cons.1 hb with rfl | hb
        · omega
        · have := hs'.1 b hb; omega
/-- The map and the row tell the same frames. -/
structure Lat (m : List (Int × Nat)) (out : List Nat) : Prop where
  srt : Sorted l out
  mem : ∀ k, k ∈ out ↔ ((frN l k).page, k) ∈ m
  key : ∀ p ∈ m, p.1 = (frN l p.2).page
  nod : (m.map (·.1)).Nodup
theorem Lat.step {m : List (Int × Nat)} {out : List Nat} (h : Lat l m out) (i : Nat) : Lat l (stepM l m i) (stepO l out i) := by
  have h1 : Lat l (iput m (frN l i).page i) (insI l out i) := by
    rw [insI_eq l h.srt]
    refine ⟨sorted_ins l h.srt, fun k => ?_, fun p hp => ?_, iput_nodup h.nod _ _⟩
    · rw [mem_ins l h.srt, mem_iput h.nod, h.mem]
      constructor
      · rintro (rfl | h1)
        · exact .inl rfl
        · exact .inr h1
      · rintro (h1 | h1)
        · injection h1 with _ h1; exact .inl h1
        · exact .inr h1
    · rcases (mem_iput h.nod).1 hp with rfl | h1
      · rfl
      · exact h.key p h1.1
  unfold stepM stepO
  split
  · exact h1
  · refine ⟨h1.srt.sublist List.filter_sublist, fun k => ?_, fun p hp => h1.key p ((List.mem_filter.1 hp).1), h1.nod.sublist (List.filter_sublist.map _)⟩
    rw [List.mem_filter, List.mem_filter, h1.mem]
theorem lat (k : Nat) : Lat l (latM l k) (latO l k) := by
  induction k with
  | zero => exact ⟨by simp [latO], by simp [latM, latO], by simp [latM], by simp [latM]⟩
  | succ k ih => rw [latM_succ, latO_succ]; exact ih.step l k
theorem latO_lt (k : Nat) : ∀ i ∈ latO l k, i < k := by
  induction k with
  | zero => simp [latO]
  | succ k ih =>
    intro i hi
    rw [latO_succ] at hi
    have h2 : i ∈ insI l (latO l k) k := by
      unfold stepO at hi
      split at hi
      · exact hi
      · exact (List.mem_filter.1 hi).1
    rw [insI_eq l (lat l k).srt, mem_ins l (lat l k).srt] at h2
    rcases h2 with rfl | h2
    · omega
    · have := ih i h2.1; omega
theorem latM_lt {k : Nat} {p : Int × Nat} (hp : p ∈ latM l k) : p.2 < k := latO_lt l k _ (((lat l k).mem p.2).2 (by rw [← (lat l k).key p hp]; exact hp))
theorem sorted_uniq : ∀ {a b : List Nat}, Sorted l a → Sorted l b → (∀ k, k ∈ a ↔ k ∈ b) → a = b
  | [], [], _, _, _ => rfl
  | [], y :: b, _, _, h => by have := (h y).2 List.mem_cons_self; cases this
  | x :: a, [], _, _, h => by have := (h x).1 List.mem_cons_self; cases this
  | x :: a, y :: b, ha, hb, h => by
    have ha' := List.pairwise_cons.1 ha
    have hb' := List.pairwise_cons.1 hb
    have hxy : x = y := by
      rcases List.mem_cons.1 ((h x).1 List.mem_cons_self) with e | e
      · exact e
      · rcases List.mem_cons.1 ((h y).2 List.mem_cons_self) with e2 | e2
        · exact e2.symm
        · have := ha'.1 y e2; have := hb'.1 x e; omega
    subst hxy
    congr 1
    refine sorted_uniq ha'.2 hb'.2 fun k => ?_
    constructor
    · intro hk
      rcases List.mem_cons.1 ((h k).1 (List.mem_cons_of_mem _ hk)) with e | e
      · subst e; have := ha'.1 k hk; omega
      · exact e
    · intro hk
      rcases List.mem_cons.1 ((h k).2 (List.mem_cons_of_mem _ hk)) with e | e
      · subst e; have := hb'.1 k hk; omega
      · exact e
/-- The place of a page's frame in the map. -/
def lkM (m : List (Int × Nat)) (k : Int) : Nat := ((m.find? fun p => p.1 = k).map (·.2)).getD 0
theorem lkM_mem {m : List (Int × Nat)} {k : Int} (h : k ∈ m.map (·.1)) : (k, lkM m k) ∈ m := by
  obtain ⟨p, hp, rfl⟩ := List.mem_map.1 h
  unfold lkM
  cases hf : m.find? fun q => q.1 = p.1 with
  | none => rw [List.find?_eq_none] at hf; exact absurd (by simp) (hf p hp)
  | some q =>
    have h1 := List.mem_of_find?_eq_some hf
    have h2 := List.find?_some hf
    simp at h2
    simp only [Option.map_some, Option.getD_some]
    rw [← h2]; exact h1
/-- The sorted pages' frames are the row. -/
theorem lat_sorted {k : Nat} {S : List Int} (hp : S.Perm ((latM l k).map (·.1))) (hs : S.Pairwise (· ≤ ·)) : S.map (lkM (latM l k)) = latO l k := by
  have h := lat l k
  have hnod : S.Nodup := hp.nodup_iff.2 h.nod
  have hmem : ∀ z ∈ S, (z, lkM (latM l k) z) ∈ latM l k := fun z hz => lkM_mem (hp.mem_iff.1 hz)
  have hpg : ∀ z ∈ S, (frN l (lkM (latM l k) z)).page = z := fun z hz => (h.key _ (hmem z hz)).symm
  refine sorted_uniq l ?_ h.srt fun i => ?_
  · unfold Sorted
    rw [List.pairwise_map]
    have h2 : S.Pairwise fun a b => a ≤ b ∧ a ≠ b := hs.and hnod
    refine (List.Pairwise.imp_of_mem ?_ h2)
    intro a b ha hb hab
    rw [hpg a ha, hpg b hb]
    omega
  · rw [h.mem, List.mem_map]
    constructor
    · rintro ⟨z, hz, rfl⟩
      rw [hpg z hz]; exact hmem z hz
    · intro hi
      have hz : (frN l i).page ∈ S := hp.mem_iff.2 (List.mem_map.2 ⟨_, hi, rfl⟩)
      refine ⟨_, hz, ?_⟩
      have h3 := hmem _ hz
      have hinj : ∀ {a b : Int × Nat}, a ∈ latM l k → b ∈ latM l k → a.1 = b.1 → a = b := by
        intro a b ha hb hab
        obtain ⟨x, hx⟩ := List.mem_iff_getElem?.1 ha
        obtain ⟨y, hy⟩ := List.mem_iff_getElem?.1 hb
        have hxy : x = y := by
          have a1 : ((latM l k).map (·.1))[x]? = some a.1 := by rw [List.getElem?_map, hx]; rfl
          have a2 : ((latM l k).map (·.1))[y]? = some a.1 := by rw [List.getElem?_map, hy, hab]; rfl
          exact (List.getElem?_inj (List.getElem?_eq_some_iff.1 a1).1 h.nod).1 (by rw [a1, a2])
        subst hxy
        rw [hx] at hy; injection hy
      have := hinj h3 hi rfl
      injection this
end
end Go.Proofs.Ytpebbkhainpfaaa
