/- Loops over maps, as rules of the logic. Conditions: those that each rule names. -/
import Derived.Test.YtpebbkhainpfaaaHlMap
namespace Go.HL
open Go Go.MapKept
open Go.ChangeMaps (setBlock)

theorem filter_idx {α β : Type} [DecidableEq β] (f : α → β) : ∀ {l : List α} {i : Nat} {e : α}, (l.map f).Nodup → l[i]? = some e → l.filter (fun x => decide (f x ≠ f e)) = l.eraseIdx i
  | [], _, _, _, h => by simp at h
  | x :: l, 0, e, hn, h => by
    simp at h; subst h
    rw [List.map_cons, List.nodup_cons] at hn
    rw [List.filter_cons]
    simp only [ne_eq, not_true_eq_false, decide_false, Bool.false_eq_true, if_false, List.eraseIdx_cons_zero]
    rw [List.filter_eq_self]
    intro y hy
    simp only [decide_eq_true_eq]
    exact fun h => hn.1 (List.mem_map.2 ⟨y, hy, h⟩)
  | x :: l, i + 1, e, hn, h => by
    rw [List.map_cons, List.nodup_cons] at hn
    simp only [List.getElem?_cons_succ] at h
    have hne : f x ≠ f e := fun hh => hn.1 (List.mem_map.2 ⟨e, List.mem_of_getElem? h, hh.symm⟩)
    rw [List.filter_cons, if_pos (by simpa using hne), filter_idx f hn.2 h]; rfl

section
variable {κ : Type}
/-- A loop over a map: its iterator's block, the map's, the map's entries, and those that are still to come. -/
structure Iter (kv : κ → Value) (h : Heap) (r bm : Nat) (l todo : List (κ × Value)) : Prop where
  ex : ∃ (es : Array MapEntry) (clock since : Nat) (seen : Array Nat) (c0 : Nat), h[r]? = some (.mapIter (some bm) since seen c0) ∧ h[bm]? = some (.map es clock) ∧ es.toList.map (fun e => (e.key, e.val)) = l.map (fun p => (kv p.1, p.2)) ∧ Stamped es clock ∧
    (∀ x ∈ es.toList, x.born < since) ∧ since ≤ c0 ∧ since ≤ clock ∧ (leftOf es seen).toList.map (fun e => (e.key, e.val)) = todo.map (fun p => (kv p.1, p.2))
/-- What the iterator gave last. -/
structure Cur (kv : κ → Value) (h : Heap) (r bm : Nat) (p : κ × Value) : Prop where
  ex : ∃ (es : Array MapEntry) (clock since : Nat) (seen : Array Nat) (e : MapEntry), h[r]? = some (.mapIter (some bm) since (seen.push e.born) clock) ∧ h[bm]? = some (.map es clock) ∧ e ∈ es.toList ∧ (es.toList.map (·.born)).Nodup ∧ e.key = kv p.1 ∧ e.val = p.2

theorem Iter.map {kv : κ → Value} {h : Heap} {r bm : Nat} {l todo : List (κ × Value)} (x : Iter kv h r bm l todo) : MapT kv h bm l :=
  let ⟨es, cl, _, _, _, _, h2, h3, h4, _⟩ := x.ex; ⟨es, cl, h2, h3, h4⟩
theorem Iter.ne {kv : κ → Value} {h : Heap} {r bm : Nat} {l todo : List (κ × Value)} (x : Iter kv h r bm l todo) : r ≠ bm := fun e => by
  obtain ⟨es, cl, si, se, c0, h1, h2, _⟩ := x.ex
  rw [e, h2] at h1; injection h1 with h1; cases h1
theorem Iter.it {kv : κ → Value} {h : Heap} {r bm : Nat} {l todo : List (κ × Value)} (x : Iter kv h r bm l todo) : ∃ si se c0, h[r]? = some (.mapIter (some bm) si se c0) :=
  let ⟨_, _, si, se, c0, h1, _⟩ := x.ex; ⟨si, se, c0, h1⟩
theorem Iter.lt {kv : κ → Value} {h : Heap} {r bm : Nat} {l todo : List (κ × Value)} (x : Iter kv h r bm l todo) : r < h.size :=
  let ⟨_, _, _, h1⟩ := x.it; block_lt h1
theorem Iter.chg {kv : κ → Value} {F : Nat → Prop} {h h' : Heap} (c : Chg F h h') {r bm : Nat} {l todo : List (κ × Value)} (x : Iter kv h r bm l todo) (h1 : ¬ F r) (h2 : ¬ F bm) : Iter kv h' r bm l todo :=
  let ⟨es, cl, si, se, c0, a, b, k⟩ := x.ex; ⟨es, cl, si, se, c0, c.block a h1, c.block b h2, k⟩
theorem Cur.chg {kv : κ → Value} {F : Nat → Prop} {h h' : Heap} (c : Chg F h h') {r bm : Nat} {p : κ × Value} (x : Cur kv h r bm p) (h1 : ¬ F r) (h2 : ¬ F bm) : Cur kv h' r bm p :=
  let ⟨es, cl, si, se, e, a, b, k⟩ := x.ex; ⟨es, cl, si, se, e, c.block a h1, c.block b h2, k⟩

/-- What a step of the loop gives. -/
structure MStep (kv : κ → Value) (h : Heap) (r bm : Nat) (l todo : List (κ × Value)) (i : Nat) (p : κ × Value) (h' : Heap) : Prop where
  at' : todo[i]? = some p
  iter : Iter kv h' r bm l (todo.eraseIdx i)
  cur : Cur kv h' r bm p
  chg : Chg (fun b => b = r) h h'
  size : h'.size = h.size
end
namespace V
variable {κ : Type} {P : Program} {s : Slots} {h : Heap} {d : Option Tmp} {ty : TypeId} {pos : String} {af : Array Edge} {g : Option (Nat × Bool)} {x : Operand} {t kt et : TypeId}

theorem range {kv : κ → Value} {r : Nat} {l : List (κ × Value)} (hx : ev s x = .map (some r)) (hm : MapT kv h r l) (ht : mpB P t = some (kt, et)) :
    OpA P ⟨d, .range t x, ty, pos, af, g⟩ s h (fun v h' => v = .pointer (some ⟨h.size, 0, none⟩) ∧ Iter kv h' h.size r l l ∧ Ext h h' ∧ h'.size = h.size + 1) := fun E w at' => by
  obtain ⟨es, cl, hb, he, hs⟩ := hm
  have hwb : w.heap[r]? = some (.map es cl) := by rw [at'.heap]; exact hb
  refine ⟨_, _, _, ⟨rfl, ?_, Ext.push _ _, by simp⟩, at'.alloc (.mapIter (some r) cl #[] cl), ?_⟩
  · refine ⟨⟨es, cl, cl, #[], cl, push_same _ _, push_other hb, he, hs, hs.1, Nat.le_refl _, Nat.le_refl _, ?_⟩⟩
    have : leftOf es #[] = es := by unfold leftOf; simp
    rw [this]; exact he
  · simp [execOp, hx, Instr.range, run_und (mpB_iff ht), MapKept.run_getObj_map hwb, at'.heap]

theorem next {kv : κ → Value} {r bm : Nat} {l todo : List (κ × Value)} (hx : ev s x = .pointer (some ⟨r, 0, none⟩)) (hi : Iter kv h r bm l todo) :
    OpA P ⟨d, .next x false, ty, pos, af, g⟩ s h (fun v h' => ∃ vs b, v = .tuple vs ∧ vs[0]? = some (.bool b) ∧ ((b = false ∧ todo = [] ∧ h' = h) ∨ (b = true ∧ ∃ i p, MStep kv h r bm l todo i p h'))) := fun E w at' => by
  obtain ⟨es, cl, si, se, c0, h1, h2, he, hs, ho, hsc, hcl, ht⟩ := hi.ex
  have w1 : w.heap[r]? = some (.mapIter (some bm) si se c0) := by rw [at'.heap]; exact h1
  have w2 : w.heap[bm]? = some (.map es cl) := by rw [at'.heap]; exact h2
  rcases run_next_at (P := P) w ty r bm si c0 se es cl w1 w2 ho hsc with ⟨h0, hr⟩ | ⟨e, hem, w', hw', hr⟩
  · refine ⟨_, h, w, ⟨#[.bool false], false, rfl, rfl, .inl ⟨rfl, ?_, rfl⟩⟩, at', by simp [execOp, hx, hr]⟩
    have : (leftOf es se).toList = [] := by rw [Array.eq_empty_of_size_eq_zero h0]
    rw [this] at ht
    cases todo with
    | nil => rfl
    | cons a b => simp at ht
  · obtain ⟨i, hi'⟩ := List.mem_iff_getElem?.1 hem
    obtain ⟨p, hp, hk, hv⟩ := ents_at ht hi'
    have hei : e ∈ es.toList := by unfold leftOf at hem; simp at hem; simpa using hem.1
    have hw2 : At E h w' := by rcases hw' with rfl | rfl; exact at'; exact ⟨at'.heap, at'.os, at'.tape, at'.output⟩
    refine ⟨_, _, _, ⟨#[.bool true, e.key, e.val], true, rfl, rfl, .inr ⟨rfl, i, p, hp, ?_, ?_, (set_chg (o' := .mapIter (some bm) si (se.push e.born) cl) h1).1, (set_chg h1).2.2⟩⟩, hw2.set r (.mapIter (some bm) si (se.push e.born) cl), by simp [execOp, hx, hr]; rfl⟩
    · refine ⟨⟨es, cl, si, se.push e.born, cl, (set_chg h1).2.1, (set_chg h1).1.block h2 (fun e => hi.ne e.symm), he, hs, ho, hcl, hcl, ?_⟩⟩
      have hn : ((leftOf es se).toList.map (·.born)).Nodup := by
        unfold leftOf
        rw [Array.toList_filter]
        exact hs.2.1.sublist ((List.filter_sublist).map _)
      have hl : (leftOf es (se.push e.born)).toList = (leftOf es se).toList.eraseIdx i := by
        rw [← filter_idx (·.born) hn hi']
        unfold leftOf
        rw [Array.toList_filter, Array.toList_filter, List.filter_filter]
        apply List.filter_congr
        intro x _
        simp [Bool.and_comm]
      rw [hl, map_erase, ht, map_erase]
    · exact ⟨⟨es, cl, si, se, e, (set_chg h1).2.1, (set_chg h1).1.block h2 (fun e => hi.ne e.symm), hei, hs.2.1, hk, hv⟩⟩
theorem entry {kv : κ → Value} {r bm : Nat} {p : κ × Value} (hx : ev s x = .pointer (some ⟨r, 0, none⟩)) (hc : Cur kv h r bm p) :
    OpV P ⟨d, .entry x, ty, pos, af, g⟩ s h (.tuple #[kv p.1, p.2]) := fun w hw => by
  obtain ⟨es, cl, si, se, e, h1, h2, h3, h4, h5, h6⟩ := hc.ex
  have := run_entry_at (P := P) w r bm si se es cl e (by rw [hw]; exact h1) (by rw [hw]; exact h2) h3 h4
  rw [← h5, ← h6]
  simp [execOp, hx, this]
end V
end Go.HL
