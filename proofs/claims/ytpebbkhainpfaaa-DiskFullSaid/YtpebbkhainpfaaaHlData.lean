/- Slices as lists of cells, and heaps that agree but for some blocks. Conditions: those that each fact names. -/
import Derived.Test.YtpebbkhainpfaaaHlOps
namespace Go.HL
open Go

/-- A slice's cells: n elements of k cells each, cell by cell; nothing is said of the capacity. -/
def Row (h : Heap) (k : Nat) (a : Option Addr) (n : Nat) (xs : List Value) : Prop :=
  xs.length = n * k ∧ (0 < n → ∃ b o, a = some ⟨b, o, none⟩ ∧ ∀ i x, xs[i]? = some x → cell h b (o + i) = some x)

/-- The block that a slice lies in. -/
def blk (v : Value) (b : Nat) : Prop := ∃ o n c, v = .slice (some ⟨b, o, none⟩) n c ∧ 0 < n

def Sl (h : Heap) (k : Nat) (v : Value) (xs : List Value) : Prop := ∃ a n c, v = .slice a n c ∧ n ≤ c ∧ c ≤ 9223372036854775807 ∧ Row h k a n xs

def bv (x : UInt8) : Value := .int .u8 x.toNat
def iv (x : Int) : Value := .int .i64 x
def Bytes (h : Heap) (v : Value) (l : List UInt8) : Prop := Sl h 1 v (l.map bv)
def Ints (h : Heap) (v : Value) (l : List Int) : Prop := Sl h 1 v (l.map iv)

theorem Row.len {h : Heap} {a : Option Addr} {n : Nat} {xs : List Value} (r : Row h 1 a n xs) : xs.length = n := by simpa using r.1
theorem Row.pos {h : Heap} {k : Nat} {a : Option Addr} {n : Nat} {xs : List Value} (r : Row h k a n xs) (hn : 0 < n) : ∃ b o, a = some ⟨b, o, none⟩ ∧ ∀ i x, xs[i]? = some x → cell h b (o + i) = some x := r.2 hn

/-- Heaps that agree but for some blocks, and have no fewer. -/
structure Chg (F : Nat → Prop) (h h' : Heap) : Prop where
  size : h.size ≤ h'.size
  same : ∀ b, b < h.size → ¬ F b → h'[b]? = h[b]?

def none_ : Nat → Prop := fun _ => False
/-- Nothing that was there has turned. -/
abbrev Ext (h h' : Heap) : Prop := Chg none_ h h'

theorem Chg.refl (F : Nat → Prop) (h : Heap) : Chg F h h := ⟨Nat.le_refl _, fun _ _ _ => rfl⟩
theorem Chg.trans {F : Nat → Prop} {a b c : Heap} (x : Chg F a b) (y : Chg F b c) : Chg F a c :=
  ⟨Nat.le_trans x.size y.size, fun k hk hf => (y.same k (Nat.lt_of_lt_of_le hk x.size) hf).trans (x.same k hk hf)⟩
/-- A second step may turn, besides, whatever the first one made. -/
theorem Chg.trans' {F G : Nat → Prop} {a b c : Heap} (x : Chg F a b) (y : Chg G b c) (hg : ∀ k, k < a.size → G k → F k) : Chg F a c :=
  ⟨Nat.le_trans x.size y.size, fun k hk hf => (y.same k (Nat.lt_of_lt_of_le hk x.size) (fun g => hf (hg k hk g))).trans (x.same k hk hf)⟩
theorem Chg.mono {F G : Nat → Prop} {a b : Heap} (x : Chg F a b) (hg : ∀ k, k < a.size → F k → G k) : Chg G a b := ⟨x.size, fun k hk hf => x.same k hk (fun f => hf (hg k hk f))⟩
theorem Ext.to {F : Nat → Prop} {a b : Heap} (x : Ext a b) : Chg F a b := x.mono fun _ _ f => f.elim
theorem Ext.refl (h : Heap) : Ext h h := Chg.refl _ h
theorem Ext.push (h : Heap) (o : Obj) : Ext h (h.push o) := ⟨by simp, fun b hb _ => by rw [Array.getElem?_push, if_neg (by omega)]⟩

theorem Chg.cell {F : Nat → Prop} {h h' : Heap} (x : Chg F h h') {b o : Nat} {v : Value} (hc : cell h b o = some v) (hf : ¬ F b) : cell h' b o = some v := by
  rw [cell_block (x.same b (cell_lt hc) hf)]; exact hc

theorem Row.chg {F : Nat → Prop} {h h' : Heap} (x : Chg F h h') {k : Nat} {a : Option Addr} {n : Nat} {xs : List Value} (r : Row h k a n xs) (hf : ∀ b o, a = some ⟨b, o, none⟩ → ¬ F b) : Row h' k a n xs :=
  ⟨r.1, fun hn => by
    obtain ⟨b, o, rfl, hc⟩ := r.2 hn
    exact ⟨b, o, rfl, fun i y hy => x.cell (hc i y hy) (hf b o rfl)⟩⟩
theorem Row.ext {h h' : Heap} (x : Ext h h') {k : Nat} {a : Option Addr} {n : Nat} {xs : List Value} (r : Row h k a n xs) : Row h' k a n xs := r.chg x fun _ _ _ f => f
theorem Sl.chg {F : Nat → Prop} {h h' : Heap} (x : Chg F h h') {k : Nat} {v : Value} {xs : List Value} (r : Sl h k v xs) (hf : ∀ b, blk v b → ¬ F b) : Sl h' k v xs := by
  obtain ⟨a, n, c, rfl, hc, hm, hr⟩ := r
  refine ⟨a, n, c, rfl, hc, hm, hr.1, fun hn => ?_⟩
  obtain ⟨b, o, rfl, hcell⟩ := hr.2 hn
  exact ⟨b, o, rfl, fun i y hy => x.cell (hcell i y hy) (hf b ⟨o, n, c, rfl, hn⟩)⟩
theorem Sl.ext {h h' : Heap} (x : Ext h h') {k : Nat} {v : Value} {xs : List Value} (r : Sl h k v xs) : Sl h' k v xs := r.chg x fun _ _ f => f
theorem Bytes.ext {h h' : Heap} (x : Ext h h') {v : Value} {l : List UInt8} (r : Bytes h v l) : Bytes h' v l := Sl.ext x r
theorem Ints.ext {h h' : Heap} (x : Ext h h') {v : Value} {l : List Int} (r : Ints h v l) : Ints h' v l := Sl.ext x r
theorem Sl.nil (h : Heap) (k : Nat) : Sl h k (.slice none 0 0) [] := ⟨none, 0, 0, rfl, Nat.le_refl _, by omega, by simp, fun x => absurd x (by omega)⟩

theorem map_at {α β : Type} {f : α → β} {l : List α} {k : Nat} (h : k < l.length) : (l.map f)[k]? = some (f l[k]) := by simp [h]

theorem flat_len {α : Type} {f : α → List Value} {k : Nat} (hf : ∀ x, (f x).length = k) : ∀ (l : List α), (l.flatMap f).length = l.length * k
  | [] => by simp
  | x :: l => by simp [flat_len hf l, hf x, Nat.add_mul]; omega
theorem flat_at {α : Type} {f : α → List Value} {k : Nat} (hf : ∀ x, (f x).length = k) : ∀ (l : List α) (i j : Nat) (hi : i < l.length), j < k → (l.flatMap f)[i * k + j]? = (f l[i])[j]?
  | x :: l, 0, j, _, hj => by simp only [List.flatMap_cons, Nat.zero_mul, Nat.zero_add]; rw [List.getElem?_append_left (by rw [hf]; exact hj)]; rfl
  | x :: l, i + 1, j, hi, hj => by
    simp only [List.flatMap_cons]
    rw [List.getElem?_append_right (by rw [hf, Nat.add_mul]; omega), hf]
    have : (i + 1) * k + j - k = i * k + j := by rw [Nat.add_mul]; omega
    rw [this, flat_at hf l i j (by simpa using hi) hj]
    rfl
theorem cell_at {α : Type} {f : α → List Value} {k : Nat} (hf : ∀ x, (f x).length = k) {l : List α} {h : Heap} {b o : Nat} (hc : ∀ i x, (l.flatMap f)[i]? = some x → cell h b (o + i) = some x) {i j : Nat} {v : Value} (hi : i < l.length)
    (hv : (f l[i])[j]? = some v) : cell h b (o + i * k + j) = some v := by
  rw [Nat.add_assoc]
  refine hc _ _ ?_
  rw [flat_at hf l i j hi (by rw [← hf l[i]]; exact (List.getElem?_eq_some_iff.1 hv).1)]
  exact hv

/-- Two lists, place by place. -/
def All2 {α β : Type} (R : α → β → Prop) (l : List α) (m : List β) : Prop := l.length = m.length ∧ ∀ i (h1 : i < l.length) (h2 : i < m.length), R l[i] m[i]
theorem All2.nil {α β : Type} {R : α → β → Prop} : All2 R [] [] := ⟨rfl, fun i h => absurd h (by simp)⟩
theorem All2.mono {α β : Type} {R R' : α → β → Prop} {l : List α} {m : List β} (h : All2 R l m) (hr : ∀ a b, R a b → R' a b) : All2 R' l m := ⟨h.1, fun i h1 h2 => hr _ _ (h.2 i h1 h2)⟩
theorem All2.cons {α β : Type} {R : α → β → Prop} {a : α} {b : β} {l : List α} {m : List β} (h : R a b) (t : All2 R l m) : All2 R (a :: l) (b :: m) :=
  ⟨by simp [t.1], fun i h1 h2 => by
    cases i with
    | zero => exact h
    | succ i => exact t.2 i (by simpa using h1) (by simpa using h2)⟩
theorem All2.append {α β : Type} {R : α → β → Prop} {l l' : List α} {m m' : List β} (h : All2 R l m) (t : All2 R l' m') : All2 R (l ++ l') (m ++ m') :=
  ⟨by simp [h.1, t.1], fun i h1 h2 => by
    by_cases hi : i < l.length
    · rw [List.getElem_append_left hi, List.getElem_append_left (h.1 ▸ hi)]; exact h.2 i hi (h.1 ▸ hi)
    · have hi' : ¬ i < m.length := h.1 ▸ hi
      rw [List.getElem_append_right (by omega), List.getElem_append_right (by omega)]
      have e := h.1
      have := t.2 (i - l.length) (by simp at h1; omega) (by simp at h2; omega)
      simp only [e] at this ⊢
      exact this⟩

theorem flatten_take {l : List (List UInt8)} {k : Nat} (h : k < l.length) : (l.take (k + 1)).flatten = (l.take k).flatten ++ l[k] := by
  rw [List.take_succ_eq_append_getElem h, List.flatten_append]; simp
theorem take_next {α : Type} {l : List α} {k : Nat} (h : k < l.length) : l.take (k + 1) = l.take k ++ [l[k]] := List.take_succ_eq_append_getElem h
theorem bv_one (x : UInt8) : ∀ u ∈ [bv x], u.oneCell' = true := by
  intro u hu; simp at hu; subst hu; rfl

theorem cells0 {h : Heap} {b : Nat} {cs : List Value} {t : TypeId} {fz : Nat × Nat} (hb : h[b]? = some (.cells cs.toArray t fz)) : ∀ j v, cs[j]? = some v → cell h b (0 + j) = some v := fun j v hj => by
  rw [cell_of hb, Nat.zero_add]; simpa using hj

theorem bv_inj {x y : UInt8} (h : bv x = bv y) : x = y := by
  unfold bv at h; injection h with _ h; exact UInt8.toNat_inj.1 (by omega)
end Go.HL
