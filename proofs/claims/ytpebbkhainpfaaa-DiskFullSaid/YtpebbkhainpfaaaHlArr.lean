/- Arrays of integers, as rules of the logic. Conditions: those that each rule names. -/
import Derived.Test.YtpebbkhainpfaaaHlMap
import Derived.ChangeKeysEq
namespace Go.HL
open Go

theorem run_items {P : Program} {e : TypeId} {k : IntKind} (he : P.underlying e = some (.int k)) (ha : agB P e = some false) (d : Nat) (l m : List Int) (w : World) : ∀ is : List Nat, (∀ i ∈ is, i < l.length ∧ i < m.length) →
    (Op.eqItems (d + 1) e 1 (l.map (Value.int k)).toArray (m.map (Value.int k)).toArray is).run P w = .ok (is.all fun i => decide (l[i]? = m[i]?)) w
  | [], _ => by simp [Op.eqItems]
  | i :: is, h => by
    obtain ⟨h1, h2⟩ := h i List.mem_cons_self
    have p1 : (part e (l.map (Value.int k)).toArray (i * 1)).run P w = .ok (.int k l[i]) w := by simp [part, run_agB ha, h1]
    have p2 : (part e (m.map (Value.int k)).toArray (i * 1)).run P w = .ok (.int k m[i]) w := by simp [part, run_agB ha, h2]
    have p3 : (Op.equalIn (d + 1) e (.int k l[i]) (.int k m[i])).run P w = .ok (l[i] == m[i]) w := by simp [Op.equalIn, run_und he]
    simp only [Op.eqItems, Sem.run_bind, p1, p2, p3, Result.andThen_ok]
    have ih := run_items he ha d l m w is fun j hj => h j (List.mem_cons_of_mem _ hj)
    by_cases hq : l[i] = m[i]
    · simp only [hq, beq_self_eq_true, Bool.not_true, Bool.false_eq_true, if_false, ih]
      simp [h1, h2, hq]
    · have : (l[i] == m[i]) = false := by simpa using hq
      simp [this, h1, h2, hq]
theorem all_eq {l m : List Int} {n : Nat} (hl : l.length = n) (hm : m.length = n) : ((List.range n).all fun i => decide (l[i]? = m[i]?)) = decide (l = m) := by
  by_cases h : l = m
  · subst h; simp
  · rw [decide_eq_false h]
    rw [List.all_eq_false]
    have : ∃ i, i < n ∧ ¬ l[i]? = m[i]? := by
      refine Classical.byContradiction fun hn => h (List.ext_getElem? fun i => ?_)
      by_cases hi : i < n
      · exact Classical.byContradiction fun hne => hn ⟨i, hi, hne⟩
      · rw [List.getElem?_eq_none (by omega), List.getElem?_eq_none (by omega)]
    obtain ⟨i, hi, hne⟩ := this
    exact ⟨i, by simpa using hi, by simpa using hne⟩
/-- An array of ints, in a block of its own. -/
def Arr (h : Heap) (t : TypeId) (b : Nat) (l : List Int) : Prop := h[b]? = some (.cells (l.map (Value.int .i64)).toArray t (0, 0))
theorem Arr.cell {h : Heap} {t : TypeId} {b : Nat} {l : List Int} (r : Arr h t b l) {q : Nat} (hq : q < l.length) : HL.cell h b (0 + q) = some (.int .i64 l[q]) := by
  rw [cell_of r]; simp [hq]
theorem Arr.cells {h : Heap} {t : TypeId} {b : Nat} {l : List Int} (r : Arr h t b l) : ∀ j v, (l.map (Value.int .i64))[j]? = some v → HL.cell h b (0 + j) = some v := cells0 r
theorem Arr.chg {F : Nat → Prop} {h h' : Heap} (c : Chg F h h') {t : TypeId} {b : Nat} {l : List Int} (r : Arr h t b l) (hf : ¬ F b) : Arr h' t b l := c.block r hf
theorem Arr.ext {h h' : Heap} (c : Ext h h') {t : TypeId} {b : Nat} {l : List Int} (r : Arr h t b l) : Arr h' t b l := c.block r fun f => f
theorem Arr.lt {h : Heap} {t : TypeId} {b : Nat} {l : List Int} (r : Arr h t b l) : b < h.size := block_lt r
structure ArrPut (h : Heap) (t : TypeId) (b : Nat) (l : List Int) (h' : Heap) : Prop where
  arr : Arr h' t b l
  chg : Chg (fun x => x = b) h h'
  size : h'.size = h.size
namespace V
variable {P : Program} {s : Slots} {h : Heap} {d : Option Tmp} {ty : TypeId} {pos : String} {af : Array Edge} {g : Option (Nat × Bool)} {x y : Operand} {t u : TypeId}
/-- The place of an array's cell, where a cell is one element. -/
theorem indexA {b o n : Nat} {e : TypeId} {kk : IntKind} {i : Int} (hx : ev s x = .pointer (some ⟨b, o, none⟩)) (hy : ev s y = .int kk i) (ht : arB P t = some (n, e)) (hk : szB P e = some 1) (hi : 0 ≤ i ∧ i < n) :
    OpV P ⟨d, .indexAddr t x y, ty, pos, af, g⟩ s h (.pointer (some ⟨b, o + i.toNat, none⟩)) := fun w _ => by
  have hadd : (⟨b, o, none⟩ : Addr).add (i.toNat * 1) = ⟨b, o + i.toNat, none⟩ := by unfold Addr.add; split <;> simp_all
  simp [execOp, hx, hy, Instr.indexAt, asIntOf, Instr.sureAddr, run_und (arB_iff ht), run_szB hk, hi]
  simpa using hadd
theorem arEql {n : Nat} {e : TypeId} {k : IntKind} {l m : List Int} {r : Bool} (hx : ev s x = .agg (l.map (Value.int k)).toArray) (hy : ev s y = .agg (m.map (Value.int k)).toArray) (ht : arB P t = some (n, e)) (he : inB P e = some k) (ha : agB P e = some false) (hc : szB P e = some 1) (hc' : P.cellsOf e = 1)
    (hg : P.eqGuardType P.depth t = false) (hl : l.length = n) (hm : m.length = n) (hr : decide (l = m) = r) : OpV P ⟨d, .binOp .eql t x y u, ty, pos, af, g⟩ s h (.bool r) := fun w _ => by
  subst hr
  have hguard : (eqGuard .eql t x y (.agg (l.map (Value.int k)).toArray) (.agg (m.map (Value.int k)).toArray)).run P w = .ok () w := by
    unfold eqGuard
    simp [hg]
  obtain ⟨i, hi, _⟩ := szB_iff hc
  have heq : (Op.equal t (.agg (l.map (Value.int k)).toArray) (.agg (m.map (Value.int k)).toArray)).run P w = .ok (decide (l = m)) w := by
    have h0 : (Op.equalIn (9998 + 2) t (.agg (l.map (Value.int k)).toArray) (.agg (m.map (Value.int k)).toArray)).run P w = .ok (decide (l = m)) w := by
      rw [run_equalIn_array w (9998 + 1) _ _ (arB_iff ht) hi, hc', run_items (inB_iff he) ha 9998 l m w _ (fun j hj => by simp at hj; omega), all_eq hl hm]
    exact h0
  simp [execOp, hx, hy, hguard, binOp, heq]
theorem storeArr {b q : Nat} {t' : TypeId} {l : List Int} {v : Int} (hx : ev s x = .pointer (some ⟨b, 0 + q, none⟩)) (hy : ev s y = .int .i64 v) (ht : szB P t = some 1) (ha : Arr h t' b l) (hq : q < l.length) :
    OpUR P ⟨d, .store t x y, ty, pos, af, g⟩ s h (ArrPut h t' b (l.set q v)) := fun E w at' => by
  obtain ⟨w', at2, hr⟩ := V.store (P := P) (s := s) (d := d) (ty := ty) (pos := pos) (af := af) (g := g) hx hy ht rfl ha (by simp; omega) (by simp) rfl E w at'
  refine ⟨_, w', ⟨?_, hput_chg _ _ _, hput_size _ _ _⟩, at2, hr⟩
  have := hput_same (cs' := (l.map (Value.int .i64)).toArray.setIfInBounds (0 + q) (.int .i64 v)) ha
  unfold Arr
  rw [this]
  simp [List.map_set]
end V
end Go.HL
