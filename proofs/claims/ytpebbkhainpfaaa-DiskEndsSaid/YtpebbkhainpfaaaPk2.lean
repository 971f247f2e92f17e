/- Slices with their capacity, append, copy and new blocks. Conditions: those that each fact names. The operations that make or turn memory, as rules of the logic. Conditions: those that each rule names. Stores into slices and the operations on maps, as rules of the logic. Conditions: those that each rule names. Loops over maps, as rules of the logic. Conditions: those that each rule names. Arrays of integers, as rules of the logic. Conditions: those that each rule names. -/
import Derived.Test.YtpebbkhainpfaaaPk1
import Derived.ArgAppend
import Derived.MapKept
import Derived.Maps.RangeRun
import Derived.ChangeKeysEq
namespace Go.HL
open Go

/-! ### Blocks that are written -/
def hput (h : Heap) (b : Nat) (cs : Array Value) : Heap := h.modify b fun
  | .cells _ e fz => .cells cs e fz
  | x => x

theorem hput_size (h : Heap) (b : Nat) (cs : Array Value) : (hput h b cs).size = h.size := by simp [hput]
theorem hput_same {h : Heap} {b : Nat} {cs cs' : Array Value} {e : TypeId} {fz : Nat × Nat} (hb : h[b]? = some (.cells cs e fz)) : (hput h b cs')[b]? = some (.cells cs' e fz) := by
  simp [hput, Array.getElem?_modify, hb]
theorem hput_other {h : Heap} {b b' : Nat} {cs : Array Value} (hb : b' ≠ b) : (hput h b cs)[b']? = h[b']? := by
  simp [hput, Array.getElem?_modify, Ne.symm hb]
theorem hput_chg (h : Heap) (b : Nat) (cs : Array Value) : Chg (fun x => x = b) h (hput h b cs) :=
  ⟨by rw [hput_size]; exact Nat.le_refl _, fun b' _ hf => hput_other hf⟩
theorem push_same (h : Heap) (o : Obj) : (h.push o)[h.size]? = some o := by simp
theorem push_other {h : Heap} {o : Obj} {b : Nat} {x : Obj} (hb : h[b]? = some x) : (h.push o)[b]? = some x := by
  have := (Array.getElem?_eq_some_iff.1 hb).1
  rw [Array.getElem?_push, if_neg (by omega)]; exact hb
theorem block_lt {h : Heap} {b : Nat} {x : Obj} (hb : h[b]? = some x) : b < h.size := (Array.getElem?_eq_some_iff.1 hb).1
theorem Chg.block {F : Nat → Prop} {h h' : Heap} (x : Chg F h h') {b : Nat} {o : Obj} (hb : h[b]? = some o) (hf : ¬ F b) : h'[b]? = some o := (x.same b (block_lt hb) hf).trans hb
theorem hput_other' {h : Heap} {b b' : Nat} {cs : Array Value} {o : Obj} (hb : h[b']? = some o) (hne : b' ≠ b) : (hput h b cs)[b']? = some o := (hput_other hne).trans hb

theorem At.push {E : Env} {h : Heap} {w : World} (a : At E h w) (o : Obj) : At E (h.push o) { w with heap := w.heap.push o } := ⟨by simp [a.heap], a.os, a.tape, a.output⟩
theorem At.alloc {E : Env} {h : Heap} {w : World} (a : At E h w) (o : Obj) : At E (h.push o) (w.alloc o) := a.push o
theorem At.drew {E : Env} {h : Heap} {w : World} (a : At E h w) : At E h w.drew := ⟨a.heap, a.os, a.tape, a.output⟩
theorem At.setRow {E : Env} {h : Heap} {w : World} (a : At E h w) (b : Nat) (cs : Array Value) : At E (hput h b cs) (w.setRow b cs) := ⟨by rw [← a.heap]; rfl, a.os, a.tape, a.output⟩

def spl (cs : List Value) (o : Nat) (vs : List Value) : List Value := cs.take o ++ vs ++ cs.drop (o + vs.length)
theorem spl_length {cs vs : List Value} {o : Nat} (h : o + vs.length ≤ cs.length) : (spl cs o vs).length = cs.length := by simp [spl]; omega
theorem spl_lt {cs vs : List Value} {o j : Nat} (hj : j < o) (h : o + vs.length ≤ cs.length) : (spl cs o vs)[j]? = cs[j]? := by
  unfold spl
  rw [List.append_assoc, List.getElem?_append_left (by simp; omega), List.getElem?_take, if_pos hj]
theorem spl_mid {cs vs : List Value} {o j : Nat} (hj : j < vs.length) (h : o + vs.length ≤ cs.length) : (spl cs o vs)[o + j]? = vs[j]? := by
  unfold spl
  rw [List.append_assoc, List.getElem?_append_right (by simp; omega), List.getElem?_append_left (by simp; omega)]
  congr 1; simp; omega
theorem spl_gt {cs vs : List Value} {o j : Nat} (hj : o + vs.length ≤ j) (h : o + vs.length ≤ cs.length) : (spl cs o vs)[j]? = cs[j]? := by
  unfold spl
  rw [List.getElem?_append_right (by simp; omega), List.getElem?_drop]
  congr 1; simp; omega

theorem setCells_row (b : Nat) (e : TypeId) (fz : Nat × Nat) : ∀ (vs : List Value) (o : Nat) (w : World) (cs : Array Value), w.heap[b]? = some (.cells cs e fz) → o + vs.length ≤ cs.size →
    w.setCells b o vs = w.setRow b (spl cs.toList o vs).toArray
  | [], o, w, cs, hb, _ => by
    simp only [World.setCells, spl, List.append_nil, List.length_nil, Nat.add_zero, List.take_append_drop, Array.toArray_toList]
    exact (setRow_self w b cs e fz hb).symm
  | v :: vs, o, w, cs, hb, hl => by
    simp only [List.length_cons] at hl
    have hb' : (w.setCell ⟨b, o, none⟩ v).heap[b]? = some (.cells (cs.setIfInBounds o v) e fz) := by
      simp [World.setCell, Array.getElem?_modify, hb]
    rw [World.setCells, setCells_row b e fz vs (o + 1) _ _ hb' (by simp; omega)]
    unfold World.setRow World.setCell
    simp only [World.mk.injEq, and_true]
    apply Array.ext_getElem?
    intro i
    simp only [Array.getElem?_modify]
    by_cases hi : b = i
    · subst hi
      simp only [if_true, hb, Option.map_some]
      congr 2
      simp only [spl, Array.toList_setIfInBounds, List.length_cons]
      congr 1
      have hol : o < cs.toList.length := by simp; omega
      rw [List.set_eq_take_append_cons_drop, if_pos hol]
      rw [List.take_append, List.drop_append]
      have e1 : List.take (o + 1) (cs.toList.take o) = cs.toList.take o := by rw [List.take_take]; congr 1; omega
      have e2 : o + 1 - (cs.toList.take o).length = 1 := by simp; omega
      have e3 : List.drop (o + 1 + vs.length) (cs.toList.take o) = [] := by rw [List.drop_eq_nil_iff]; simp; omega
      have e4 : o + 1 + vs.length - (cs.toList.take o).length = vs.length + 1 := by simp; omega
      rw [e1, e2, e3, e4]
      simp
      congr 1
      omega
    · simp [hi]

/-! ### Slices with their capacity: what may be written and appended to -/
def fzOk (fz : Nat × Nat) (n : Nat) : Prop := fz.1 ≤ fz.2 ∧ ∀ j, j < n → ¬ (fz.1 ≤ j ∧ j < fz.2)
theorem fzOk_zero (n : Nat) : fzOk (0, 0) n := ⟨Nat.le_refl _, fun j _ h => by omega⟩

def Cap (h : Heap) (k : Nat) (e : TypeId) (v : Value) (xs : List Value) : Prop :=
  ∃ a n c, v = .slice a n c ∧ n ≤ c ∧ c ≤ 9223372036854775807 ∧ xs.length = n * k ∧
    ((a = none ∧ c = 0) ∨ ∃ b o cs fz, a = some ⟨b, o, none⟩ ∧ h[b]? = some (.cells cs e fz) ∧ o + c * k ≤ cs.size ∧ fzOk fz cs.size ∧ (cs.toList.drop o).take (n * k) = xs)

def blkC (v : Value) (b : Nat) : Prop := ∃ o n c, v = .slice (some ⟨b, o, none⟩) n c

theorem Cap.nil (h : Heap) (k : Nat) (e : TypeId) : Cap h k e (.slice none 0 0) [] := ⟨none, 0, 0, rfl, Nat.le_refl _, by omega, by simp, .inl ⟨rfl, rfl⟩⟩
theorem Cap.sl {h : Heap} {k : Nat} {e : TypeId} {v : Value} {xs : List Value} (c : Cap h k e v xs) : Sl h k v xs := by
  obtain ⟨a, n, c, rfl, hn, hc, hl, hr⟩ := c
  refine ⟨a, n, c, rfl, hn, hc, hl, fun hp => ?_⟩
  rcases hr with ⟨rfl, rfl⟩ | ⟨b, o, cs, fz, rfl, hb, hs, hf, hx⟩
  · omega
  · refine ⟨b, o, rfl, fun i x hi => ?_⟩
    rw [cell_of hb, ← Array.getElem?_toList]
    rw [← hx, List.getElem?_take] at hi
    split at hi
    · rwa [List.getElem?_drop] at hi
    · cases hi
theorem Cap.chg {F : Nat → Prop} {h h' : Heap} (x : Chg F h h') {k : Nat} {e : TypeId} {v : Value} {xs : List Value} (c : Cap h k e v xs) (hf : ∀ b, blkC v b → ¬ F b) : Cap h' k e v xs := by
  obtain ⟨a, n, c, rfl, hn, hc, hl, hr⟩ := c
  refine ⟨a, n, c, rfl, hn, hc, hl, ?_⟩
  rcases hr with hr | ⟨b, o, cs, fz, rfl, hb, hs, hfz, hx⟩
  · exact .inl hr
  · exact .inr ⟨b, o, cs, fz, rfl, x.block hb (hf b ⟨o, n, c, rfl⟩), hs, hfz, hx⟩
theorem Cap.ext {h h' : Heap} (x : Ext h h') {k : Nat} {e : TypeId} {v : Value} {xs : List Value} (c : Cap h k e v xs) : Cap h' k e v xs := c.chg x fun _ _ f => f
/-- A new block that a slice covers. -/
theorem Cap.new {h : Heap} {k : Nat} {e : TypeId} {n : Nat} {cs : Array Value} {b : Nat} (hb : h[b]? = some (.cells cs e (0, 0))) (hs : cs.size = n * k) (hn : n ≤ 9223372036854775807) :
    Cap h k e (.slice (some ⟨b, 0, none⟩) n n) cs.toList :=
  ⟨_, n, n, rfl, Nat.le_refl _, hn, by simpa using hs, .inr ⟨b, 0, cs, (0, 0), rfl, hb, by omega, fzOk_zero _, by rw [List.drop_zero]; exact List.take_of_length_le (by simp [hs])⟩⟩
theorem Cap.le {h : Heap} {k : Nat} {e : TypeId} {a : Option Addr} {n c : Nat} {xs : List Value} (r : Cap h k e (.slice a n c) xs) : n ≤ c := by
  obtain ⟨a', n', c', hv, hn, _⟩ := r
  injection hv with h1 h2 h3; subst h1 h2 h3; exact hn
theorem Cap.bd {h : Heap} {k : Nat} {e : TypeId} {a : Option Addr} {n c : Nat} {xs : List Value} (r : Cap h k e (.slice a n c) xs) : c ≤ 9223372036854775807 := by
  obtain ⟨a', n', c', hv, _, hn, _⟩ := r
  injection hv with h1 h2 h3; subst h1 h2 h3; exact hn
theorem Cap.blk {h : Heap} {k : Nat} {e : TypeId} {v : Value} {xs : List Value} (c : Cap h k e v xs) {b : Nat} (hb : blkC v b) : ∃ cs fz, h[b]? = some (.cells cs e fz) := by
  obtain ⟨a, n, c, rfl, _, _, _, hr⟩ := c
  obtain ⟨o', n', c', hv⟩ := hb
  rcases hr with ⟨rfl, _⟩ | ⟨b', o, cs, fz, rfl, hb', _⟩
  · cases hv
  · injection hv with h1; injection h1 with h1; injection h1 with h1; subst h1; exact ⟨cs, fz, hb'⟩
theorem Cap.lt {h : Heap} {k : Nat} {e : TypeId} {v : Value} {xs : List Value} (c : Cap h k e v xs) {b : Nat} (hb : blkC v b) : b < h.size := by
  obtain ⟨a, n, c, rfl, _, _, _, hr⟩ := c
  obtain ⟨o', n', c', hv⟩ := hb
  rcases hr with ⟨rfl, _⟩ | ⟨b', o, cs, fz, rfl, hb', _⟩
  · cases hv
  · injection hv with h1; injection h1 with h1; injection h1 with h1; subst h1; exact block_lt hb'

/-- Blocks of cells keep their types, marks and sizes. -/
def Shape (h h' : Heap) : Prop := ∀ (b : Nat) (cs : Array Value) (e : TypeId) (fz : Nat × Nat), h[b]? = some (.cells cs e fz) → ∃ cs', h'[b]? = some (.cells cs' e fz) ∧ cs'.size = cs.size
theorem Shape.refl (h : Heap) : Shape h h := fun _ cs _ _ hb => ⟨cs, hb, rfl⟩
theorem Shape.trans {a b c : Heap} (x : Shape a b) (y : Shape b c) : Shape a c := fun k cs e fz hb => by
  obtain ⟨cs1, h1, s1⟩ := x k cs e fz hb
  obtain ⟨cs2, h2, s2⟩ := y k cs1 e fz h1
  exact ⟨cs2, h2, s2.trans s1⟩
theorem Shape.ext {h h' : Heap} (x : Ext h h') : Shape h h' := fun _ cs _ _ hb => ⟨cs, x.block hb (fun f => f), rfl⟩
theorem Shape.put {h : Heap} {b : Nat} {cs cs' : Array Value} {e : TypeId} {fz : Nat × Nat} (hb : h[b]? = some (.cells cs e fz)) (hs : cs'.size = cs.size) : Shape h (hput h b cs') := fun k ck ek fk hk => by
  by_cases e : k = b
  · subst e; rw [hb] at hk; injection hk with hk; injection hk with h1 h2 h3; subst h1 h2 h3
    exact ⟨cs', hput_same hb, hs⟩
  · exact ⟨ck, (hput_other e).trans hk, rfl⟩
/-- A slice whose cells are as they were, in blocks of the same shape. -/
theorem Cap.re {h h' : Heap} (x : Shape h h') {k : Nat} {e : TypeId} {a : Option Addr} {n c : Nat} {xs : List Value} (r : Cap h k e (.slice a n c) xs) (hc : ∀ b o j v, a = some ⟨b, o, none⟩ → j < n * k → cell h b (o + j) = some v → cell h' b (o + j) = some v) : Cap h' k e (.slice a n c) xs := by
  obtain ⟨a', n', c', hv, hn, hcm, hl, hr⟩ := r
  injection hv with h1 h2 h3; subst h1 h2 h3
  refine ⟨_, _, _, rfl, hn, hcm, hl, ?_⟩
  rcases hr with hr | ⟨b, o, cs, fz, rfl, hb, hs, hf, hx⟩
  · exact .inl hr
  · obtain ⟨cs', hb', hs'⟩ := x _ _ _ _ hb
    refine .inr ⟨b, o, cs', fz, rfl, hb', by omega, by rw [hs']; exact hf, ?_⟩
    apply List.ext_getElem?
    intro j
    by_cases hj : j < n * k
    · have hnk : n * k ≤ c * k := Nat.mul_le_mul_right _ hn
      have h1 : cell h b (o + j) = some (cs[o + j]'(by omega)) := by rw [cell_of hb]; simp
      have h2 := hc b o j _ rfl hj h1
      rw [cell_of hb'] at h2
      rw [← hx]
      rw [List.getElem?_take, if_pos hj, List.getElem?_take, if_pos hj, List.getElem?_drop, List.getElem?_drop, Array.getElem?_toList, Array.getElem?_toList, h2]
      simp
    · rw [List.getElem?_take, if_neg hj, List.getElem?_eq_none (by omega)]

/-- What an append leaves. -/
structure Appended (h : Heap) (k : Nat) (e : TypeId) (v : Value) (ys : List Value) (v' : Value) (h' : Heap) : Prop where
  cap : Cap h' k e v' ys
  chg : Chg (blkC v) h h'
  kept : ∀ b off x, cell h b off = some x → (∀ o n c, v = .slice (some ⟨b, o, none⟩) n c → off < o + n * k) → cell h' b off = some x
  place : ∀ b, blkC v' b → blkC v b ∨ h.size ≤ b
  shape : Shape h h'
  inplace : ∀ a n c q, v = .slice a n c → ys.length = q * k → q ≤ c → v' = .slice a q c
  grown : ∀ a n c q, v = .slice a n c → ys.length = q * k → c < q → ∀ b, blkC v' b → h.size ≤ b

theorem cell_kept_of_chg {F : Nat → Prop} {h h' : Heap} (x : Chg F h h') {b off : Nat} {v : Value} (hc : cell h b off = some v) (hf : ¬ F b) : cell h' b off = some v := x.cell hc hf

theorem frozen?_eq {w : World} {b j : Nat} {cs : Array Value} {e : TypeId} {fz : Nat × Nat} (hb : w.heap[b]? = some (.cells cs e fz)) (hf : fzOk fz cs.size) (hj : j < cs.size) : w.frozen? ⟨b, j, none⟩ = false := by
  obtain ⟨lo, hi⟩ := fz
  simp only [World.frozen?, hb]
  have := hf.2 j hj
  simp at this ⊢
  exact this

theorem run_append {P : Program} {t e ty : TypeId} {k bytes : Nat} {z : Value} (ht : elB P t = some e) (hk : szB P e = some k) (hby : byB P e = some bytes) (hz : zrB P e = some z) (hk0 : 0 < k) (hb0 : 0 < bytes) (hzk : z.cells.size = k)
    {h : Heap} {v nv : Value} {xs news : List Value} (hv : Cap h k e v xs) (hn : Sl h k nv news) (h1 : ∀ u ∈ news, u.oneCell' = true) (hfit : (xs.length + news.length) * bytes ≤ 140737488355328)
    {E : Env} {w : World} (at' : At E h w) :
    ∃ v' h' w', Appended h k e v (xs ++ news) v' h' ∧ At E h' w' ∧ (Builtin.append_ #[t, t] ty #[v, nv]).run P w = .ok v' w' := by
  obtain ⟨i, hi, hik⟩ := szB_iff hk
  have hib : i.bytes = bytes := by
    obtain ⟨i', hi', e'⟩ := byB_iff hby
    rw [hi] at hi'; injection hi' with hi'; subst hi'; exact e'
  have hiz : i.zero = some z := by
    obtain ⟨i', hi', e'⟩ := zrB_iff hz
    rw [hi] at hi'; injection hi' with hi'; subst hi'; exact e'
  have hut := elB_iff ht
  obtain ⟨a, n, c, rfl, hnc, hc, hl, hr⟩ := hv
  obtain ⟨a', m, c', rfl, hmc, hc', hl', hr'⟩ := hn
  have hnm : (n + m) * bytes ≤ 140737488355328 := by
    refine Nat.le_trans (Nat.mul_le_mul_right _ ?_) hfit
    rw [hl, hl', ← Nat.add_mul]
    exact Nat.le_mul_of_pos_right _ hk0
  have h63 : n + m ≤ 140737488355328 := Nat.le_trans (Nat.le_mul_of_pos_right _ hb0) hnm
  have hmax : n + m ≤ maxLen := by simp only [maxLen]; omega
  by_cases hm0 : m = 0
  · -- nothing is appended
    subst hm0
    have hnn : news = [] := List.eq_nil_of_length_eq_zero (by simpa using hl')
    subst hnn
    refine ⟨.slice a n c, h, w, ⟨by rw [List.append_nil]; exact ⟨a, n, c, rfl, hnc, hc, hl, hr⟩, Chg.refl _ _, fun _ _ _ hx _ => hx, fun b hb => .inl hb, Shape.refl _, ?_, ?_⟩, at', ?_⟩
    · intro a1 n1 c1 q hv hq _
      injection hv with h1 h2 h3; subst h1 h2 h3
      rw [List.append_nil, hl] at hq
      rw [Nat.eq_of_mul_eq_mul_right hk0 hq]
    · intro a1 n1 c1 q hv hq hc1
      injection hv with h1 h2 h3; subst h1 h2 h3
      rw [List.append_nil, hl] at hq
      have := Nat.eq_of_mul_eq_mul_right hk0 hq
      omega
    have hf : (Builtin.firstCells i.size 0 (.slice a' 0 c')).run P w = .ok #[] w := by
      cases a' <;> simp [Builtin.firstCells, loadCells, loadCellsFrom]
    cases a with
    | none => simp [Builtin.append_, run_underlying hut, sizeOf, typeInfo, hi, Builtin.lenOf, hnc, hf]
    | some ad => simp [Builtin.append_, run_underlying hut, sizeOf, typeInfo, hi, Builtin.lenOf, hnc, hf, storeCells]
  obtain ⟨b', o', rfl, hcell⟩ := hr' (by omega)
  have hnews : ∀ j u, news[j]? = some u → w.cell? ((⟨b', o', none⟩ : Addr).add j) = some u := fun j u hj => by
    rw [Addr.add_lit, cell?_eq, at'.heap]; exact hcell j u hj
  have hlm : news.length = m * i.size := by rw [hl', hik]
  rcases hr with ⟨rfl, rfl⟩ | ⟨b, o, cs, fz, rfl, hb, hs, hf, hx⟩
  · have hn0 : n = 0 := by omega
    subst hn0
    have hx0 : xs = [] := List.eq_nil_of_length_eq_zero (by simpa using hl)
    subst hx0
    have hrun := run_append_nil (P := P) w t ty e i z hut hi hiz ⟨b', o', none⟩ m c' news hlm hnews (by omega) (by omega) (by rw [hib]; simp only [Nat.zero_add] at hnm; omega)
    have hge := grownCap_ge w m 0 e
    have hcm := grownCap_le_maxLen w m 0 e (by simp only [maxLen]; omega)
    simp only [maxLen] at hcm
    refine ⟨_, _, _, ⟨?_, ?_, ?_, ?_, ?_, ?_, ?_⟩, (at'.drew).alloc _, hrun⟩
    · refine ⟨_, m, _, rfl, hge, hcm, by simpa using hl', .inr ⟨w.heap.size, 0, news.toArray ++ Builtin.zeroCells z.cells (grownCap w m 0 e - m), (0, 0), rfl, ?_, ?_, fzOk_zero _, ?_⟩⟩
      · rw [at'.heap]; exact push_same _ _
      · simp only [Array.size_append, List.size_toArray, size_zeroCells, hzk, hl', ← Nat.add_mul]; rw [Nat.zero_add]; apply Nat.le_of_eq; congr 1; omega
      · simp [← hl']
    · exact (Ext.push _ _).to
    · intro bb off x hx _
      exact (Ext.push h _).cell hx (fun f => f)
    · rintro bb ⟨oo, nn, cc, hv⟩
      right
      injection hv with h1; injection h1 with h1; injection h1 with h1
      rw [← h1, at'.heap]; exact Nat.le_refl _
    · exact Shape.ext (Ext.push _ _)
    · intro a1 n1 c1 q hv hq hqc
      injection hv with h1 h2 h3; subst h1 h2 h3
      have : m * k = q * k := by rw [← hq]; simp [hl']
      have := Nat.eq_of_mul_eq_mul_right hk0 this
      omega
    · rintro a1 n1 c1 q _ _ _ bb ⟨oo, nn, cc, hv⟩
      injection hv with h1; injection h1 with h1; injection h1 with h1
      rw [← h1, at'.heap]; exact Nat.le_refl _
  · by_cases hroom : n + m ≤ c
    · have hwb : w.heap[b]? = some (.cells cs e fz) := by rw [at'.heap]; exact hb
      have hfit2 : o + n * k + news.length ≤ cs.size := by
        rw [hl']
        have : (n + m) * k ≤ c * k := Nat.mul_le_mul_right _ hroom
        rw [Nat.add_mul] at this
        omega
      have hrun := run_append_room_cells (P := P) w t ty e i hut hi b o n c ⟨b', o', none⟩ m c' news hlm hnews h1 hroom
        (fun j hj => by rw [hik, cell?_eq, cell_of hwb]; simp; omega) (fun j hj => by rw [hik]; exact frozen?_eq hwb hf (by omega))
      rw [hik, setCells_row b e fz news (o + n * k) w cs hwb hfit2] at hrun
      refine ⟨_, _, _, ⟨?_, ?_, ?_, ?_, ?_, ?_, ?_⟩, at'.setRow _ _, hrun⟩
      · refine ⟨_, n + m, c, rfl, hroom, hc, by simp [hl, hl', Nat.add_mul], .inr ⟨b, o, (spl cs.toList (o + n * k) news).toArray, fz, rfl, hput_same hb, ?_, ?_, ?_⟩⟩
        · simp only [List.size_toArray]; rw [spl_length (by simpa using hfit2)]; simpa using hs
        · simp only [List.size_toArray]; rw [spl_length (by simpa using hfit2)]; simpa using hf
        · apply List.ext_getElem?
          intro j
          rw [List.getElem?_take]
          split
          · rename_i hj
            rw [List.getElem?_drop]
            by_cases hjn : j < n * k
            · rw [spl_lt (by omega) (by simpa using hfit2), List.getElem?_append_left (by omega), ← hx, List.getElem?_take, if_pos hjn, List.getElem?_drop]
            · have e1 : o + j = o + n * k + (j - n * k) := by omega
              rw [e1, spl_mid (by rw [hl']; rw [Nat.add_mul] at hj; omega) (by simpa using hfit2), List.getElem?_append_right (by omega), hl]
          · rename_i hj
            rw [List.getElem?_eq_none]
            simp [hl, hl']
            rw [Nat.add_mul] at hj; omega
      · exact (hput_chg h b _).mono fun x _ hxb => by subst hxb; exact ⟨o, n, c, rfl⟩
      · intro bb off x hx2 hlt
        by_cases hbb : bb = b
        · subst hbb
          rw [cell_of hb] at hx2
          rw [cell_of (hput_same hb)]
          have := hlt o n c rfl
          rw [← Array.getElem?_toList, spl_lt this (by simpa using hfit2), Array.getElem?_toList]
          exact hx2
        · rw [cell_block (hput_other hbb)]; exact hx2
      · rintro bb ⟨oo, nn, cc, hv⟩
        left
        injection hv with h1 h2 h3; injection h1 with h1; injection h1 with h1 h4
        subst h1
        exact ⟨o, n, c, rfl⟩
      · exact Shape.put hb (by simp only [List.size_toArray]; rw [spl_length (by simpa using hfit2)]; simp)
      · intro a1 n1 c1 q hv hq _
        injection hv with h1 h2 h3; subst h1 h2 h3
        have : (n + m) * k = q * k := by rw [← hq]; simp [hl, hl', Nat.add_mul]
        rw [Nat.eq_of_mul_eq_mul_right hk0 this]
      · intro a1 n1 c1 q hv hq hc1
        injection hv with h1 h2 h3; subst h1 h2 h3
        have : (n + m) * k = q * k := by rw [← hq]; simp [hl, hl', Nat.add_mul]
        have := Nat.eq_of_mul_eq_mul_right hk0 this
        omega
    · have holds : ∀ j u, xs[j]? = some u → w.cell? ((⟨b, o, none⟩ : Addr).add j) = some u := fun j u hj => by
        rw [Addr.add_lit, cell?_eq, at'.heap, cell_of hb, ← Array.getElem?_toList]
        rw [← hx, List.getElem?_take] at hj
        split at hj
        · rwa [List.getElem?_drop] at hj
        · cases hj
      have hrun := run_append_grow (P := P) w t ty e i z hut hi hiz ⟨b, o, none⟩ n c xs (by rw [hl, hik]) holds ⟨b', o', none⟩ m c' news hlm hnews (by omega) (by omega) (growslice_fits (by omega) (by rw [hib]; exact hnm))
      have hge := grownCap_ge w (n + m) c e
      have hcm := grownCap_le_maxLen w (n + m) c e hmax
      simp only [maxLen] at hcm
      refine ⟨_, _, _, ⟨?_, ?_, ?_, ?_, ?_, ?_, ?_⟩, (at'.drew).alloc _, hrun⟩
      · refine ⟨_, n + m, _, rfl, hge, hcm, by simp [hl, hl', Nat.add_mul], .inr ⟨w.heap.size, 0, xs.toArray ++ news.toArray ++ Builtin.zeroCells z.cells (grownCap w (n + m) c e - (n + m)), (0, 0), rfl, ?_, ?_, fzOk_zero _, ?_⟩⟩
        · rw [at'.heap]; exact push_same _ _
        · simp only [Array.size_append, List.size_toArray, size_zeroCells, hzk, hl', hl, ← Nat.add_mul]; rw [Nat.zero_add]; apply Nat.le_of_eq; congr 1; omega
        · simp only [List.drop_zero, Array.toList_append]
          have : (n + m) * k = (xs ++ news).length := by simp [hl, hl', Nat.add_mul]
          rw [this]
          exact List.take_left
      · exact (Ext.push _ _).to
      · intro bb off x hx _
        exact (Ext.push h _).cell hx (fun f => f)
      · rintro bb ⟨oo, nn, cc, hv⟩
        right
        injection hv with h1; injection h1 with h1; injection h1 with h1
        rw [← h1, at'.heap]; exact Nat.le_refl _
      · exact Shape.ext (Ext.push _ _)
      · intro a1 n1 c1 q hv hq hqc
        injection hv with h1 h2 h3; subst h1 h2 h3
        have : (n + m) * k = q * k := by rw [← hq]; simp [hl, hl', Nat.add_mul]
        have := Nat.eq_of_mul_eq_mul_right hk0 this
        omega
      · rintro a1 n1 c1 q _ _ _ bb ⟨oo, nn, cc, hv⟩
        injection hv with h1; injection h1 with h1; injection h1 with h1
        rw [← h1, at'.heap]; exact Nat.le_refl _
end Go.HL
namespace Go.HL
open Go
/-! ### Slices that a call makes and appends to -/
abbrev SV := Option Addr × Nat × Nat
@[reducible] def sv (x : SV) : Value := .slice x.1 x.2.1 x.2.2
theorem Cap.form {h : Heap} {k : Nat} {e : TypeId} {v : Value} {xs : List Value} (c : Cap h k e v xs) : ∃ x : SV, v = sv x := by
  obtain ⟨a, n, c, rfl, _⟩ := c; exact ⟨(a, n, c), rfl⟩
theorem Sl.form {h : Heap} {k : Nat} {v : Value} {xs : List Value} (c : Sl h k v xs) : ∃ x : SV, v = sv x := by
  obtain ⟨a, n, c, rfl, _⟩ := c; exact ⟨(a, n, c), rfl⟩

/-- A slice that was made behind h0, in a heap in which nothing of h0 has turned. -/
structure Own (h0 h : Heap) (k : Nat) (e : TypeId) (v : Value) (xs : List Value) : Prop where
  cap : Cap h k e v xs
  ext : Ext h0 h
  fresh : ∀ b, blkC v b → h0.size ≤ b

theorem Own.nil {h0 h : Heap} (x : Ext h0 h) (k : Nat) (e : TypeId) : Own h0 h k e (.slice none 0 0) [] :=
  ⟨Cap.nil _ _ _, x, fun b hb => by obtain ⟨o, n, c, hv⟩ := hb; cases hv⟩
theorem Own.push {h0 h h' : Heap} {k : Nat} {e : TypeId} {v : Value} {xs : List Value} (x : Own h0 h k e v xs) (hx : Ext h h') : Own h0 h' k e v xs := ⟨x.cap.ext hx, x.ext.trans hx, x.fresh⟩
theorem Own.app {h0 h h' : Heap} {k : Nat} {e : TypeId} {v v' : Value} {xs ys : List Value} (x : Own h0 h k e v xs) (a : Appended h k e v ys v' h') : Own h0 h' k e v' ys :=
  ⟨a.cap, x.ext.trans' a.chg (fun b hb hk => absurd (x.fresh b hk) (by omega)), fun b hb => by
    rcases a.place b hb with hb | hb
    · exact x.fresh b hb
    · exact Nat.le_trans x.ext.size hb⟩
/-- A slice over a whole new block. -/
theorem Own.new {h0 h : Heap} (x : Ext h0 h) {k : Nat} {e : TypeId} {n : Nat} {cs : Array Value} (hs : cs.size = n * k) (hn : n ≤ 9223372036854775807) :
    Own h0 (h.push (.cells cs e (0, 0))) k e (.slice (some ⟨h.size, 0, none⟩) n n) cs.toList :=
  ⟨Cap.new (push_same _ _) hs hn, x.trans (Ext.push _ _), fun b hb => by
    obtain ⟨o, n', c, hv⟩ := hb
    injection hv with h1; injection h1 with h1; injection h1 with h1
    rw [← h1]; exact x.size⟩
theorem Own.sl {h0 h : Heap} {k : Nat} {e : TypeId} {v : Value} {xs : List Value} (x : Own h0 h k e v xs) : Sl h k v xs := x.cap.sl
/-- What a literal of one element holds. -/
theorem sl_new {h : Heap} {k : Nat} {e : TypeId} {n : Nat} {cs : Array Value} (hs : cs.size = n * k) (hn : n ≤ 9223372036854775807) :
    Sl (h.push (.cells cs e (0, 0))) k (.slice (some ⟨h.size, 0, none⟩) n n) cs.toList := (Cap.new (push_same _ _) hs hn).sl
theorem Sl.bd {h : Heap} {k n c : Nat} {a : Option Addr} {xs : List Value} (r : Sl h k (.slice a n c) xs) : n ≤ 9223372036854775807 := by
  obtain ⟨a', n', c', hv, h4, h5, hr⟩ := r
  injection hv with h1 h2 h3; subst h1 h2 h3; omega
theorem Sl.cells {h : Heap} {k n c : Nat} {a : Option Addr} {xs : List Value} (r : Sl h k (.slice a n c) xs) : Row h k a n xs := by
  obtain ⟨a', n', c', hv, _, _, hr⟩ := r
  injection hv with h1 h2 h3; subst h1 h2 h3; exact hr

/-! ### Parts of slices -/
def cutA (a : Option Addr) (l m k : Nat) : Option Addr := if m = l then a else a.map (·.add (l * k))
theorem cutA_some {b o l m k : Nat} (h : m ≠ l) : cutA (some ⟨b, o, none⟩) l m k = some ⟨b, o + l * k, none⟩ := by
  unfold cutA; rw [if_neg h]; simp [Addr.add_lit]
theorem Row.cut {h : Heap} {k : Nat} {a : Option Addr} {n : Nat} {xs : List Value} (r : Row h k a n xs) {l q m : Nat} (hq : l + q ≤ n) (hm : n ≤ m) : Row h k (cutA a l m k) q ((xs.drop (l * k)).take (q * k)) := by
  have hlk : (l + q) * k ≤ n * k := Nat.mul_le_mul_right _ hq
  rw [Nat.add_mul] at hlk
  refine ⟨by simp [r.1]; omega, fun hp => ?_⟩
  obtain ⟨b, o, rfl, hc⟩ := r.2 (by omega)
  refine ⟨b, o + l * k, cutA_some (by omega), fun i x hi => ?_⟩
  rw [List.getElem?_take] at hi
  split at hi
  · rw [List.getElem?_drop] at hi
    rw [Nat.add_assoc]; exact hc _ _ hi
  · cases hi
theorem Sl.cut {h : Heap} {k : Nat} {a : Option Addr} {n c : Nat} {xs : List Value} (r : Sl h k (.slice a n c) xs) {l q : Nat} (hq : l + q ≤ n) : Sl h k (.slice (cutA a l c k) q (c - l)) ((xs.drop (l * k)).take (q * k)) := by
  obtain ⟨a', n', c', hv, hn, hcm, hr⟩ := r
  injection hv with h1 h2 h3; subst h1 h2 h3
  exact ⟨_, _, _, rfl, by omega, by omega, hr.cut hq hn⟩
theorem Cap.pre {h : Heap} {k : Nat} {e : TypeId} {a : Option Addr} {n c : Nat} {xs : List Value} (r : Cap h k e (.slice a n c) xs) {q : Nat} (hq : q ≤ n) : Cap h k e (.slice a q c) (xs.take (q * k)) := by
  obtain ⟨a', n', c', hv, hn, hcm, hl, hr⟩ := r
  injection hv with h1 h2 h3; subst h1 h2 h3
  have hqk : q * k ≤ n * k := Nat.mul_le_mul_right _ hq
  refine ⟨_, _, _, rfl, by omega, hcm, by rw [List.length_take, hl]; omega, ?_⟩
  rcases hr with hr | ⟨b, o, cs, fz, rfl, hb, hs, hf, hx⟩
  · exact .inl hr
  · refine .inr ⟨b, o, cs, fz, rfl, hb, hs, hf, ?_⟩
    rw [← hx, List.take_take]; congr 1; omega
/-- Any part of the capacity. -/
theorem Cap.sub {h : Heap} {k : Nat} {e : TypeId} {a : Option Addr} {n c : Nat} {xs : List Value} (r : Cap h k e (.slice a n c) xs) {l q : Nat} (hq : l + q ≤ c) (hlc : l < c) : ∃ zs, Cap h k e (.slice (cutA a l c k) q (c - l)) zs := by
  obtain ⟨a', n', c', hv, hn, hcm, hl, hr⟩ := r
  injection hv with h1 h2 h3; subst h1 h2 h3
  rcases hr with ⟨rfl, rfl⟩ | ⟨b, o, cs, fz, rfl, hb, hs, hf, hx⟩
  · omega
  · have h1 : (l + q) * k ≤ c * k := Nat.mul_le_mul_right _ hq
    have h2 : (l + (c - l)) * k = c * k := by congr 1; omega
    rw [Nat.add_mul] at h1 h2
    exact ⟨(cs.toList.drop (o + l * k)).take (q * k), _, _, _, rfl, by omega, by omega, by simp; omega, .inr ⟨b, o + l * k, cs, fz, cutA_some (by omega), hb, by omega, hf, rfl⟩⟩

/-- Cells that were stored at a slice's head. -/
structure Stored (h : Heap) (k : Nat) (e : TypeId) (v : Value) (ys : List Value) (h' : Heap) : Prop where
  cap : Cap h' k e v ys
  chg : Chg (blkC v) h h'
  kept : ∀ b off x, cell h b off = some x → (∀ o n c, v = .slice (some ⟨b, o, none⟩) n c → off < o ∨ o + n * k ≤ off) → cell h' b off = some x
  shape : Shape h h'
  size : h'.size = h.size

theorem run_storeSl {P : Program} {h : Heap} {k : Nat} {e : TypeId} {b o n c : Nat} {xs vs : List Value} (r : Cap h k e (.slice (some ⟨b, o, none⟩) n c) xs) (hl : vs.length ≤ n * k) (h1 : ∀ u ∈ vs, u.oneCell' = true) {E : Env} {w : World} (at' : At E h w) :
    ∃ h' w', Stored h k e (.slice (some ⟨b, o, none⟩) n c) (vs ++ xs.drop vs.length) h' ∧ At E h' w' ∧ (storeCells ⟨b, o, none⟩ vs).run P w = .ok () w' := by
  obtain ⟨a', n', c', hv, hn, hcm, hxl, hr⟩ := r
  injection hv with g1 g2 g3; subst g1 g2 g3
  rcases hr with ⟨hbad, _⟩ | ⟨b', o', cs, fz, hab, hb, hs, hf, hx⟩
  · cases hbad
  injection hab with hab; injection hab with g1 g2; subst g1 g2
  have hwb : w.heap[b]? = some (.cells cs e fz) := by rw [at'.heap]; exact hb
  have hnk : n * k ≤ c * k := Nat.mul_le_mul_right _ hn
  have hfit : o + vs.length ≤ cs.toList.length := by simp; omega
  have hst := run_storeCells_cells (P := P) b o vs 0 w (fun j hj => by rw [cell?_eq, cell_of hwb]; simp; omega) (fun j hj => frozen?_eq hwb hf (by omega)) h1
  simp only [Nat.add_zero] at hst
  rw [setCells_row b e fz vs o w cs hwb (by omega)] at hst
  refine ⟨_, _, ⟨?_, ?_, ?_, ?_, hput_size _ _ _⟩, at'.setRow _ _, hst⟩
  · refine ⟨_, _, _, rfl, hn, hcm, by simp [hxl]; omega, .inr ⟨b, o, (spl cs.toList o vs).toArray, fz, rfl, hput_same hb, ?_, ?_, ?_⟩⟩
    · simp only [List.size_toArray]; rw [spl_length hfit]; simpa using hs
    · simp only [List.size_toArray]; rw [spl_length hfit]; simpa using hf
    · apply List.ext_getElem?
      intro j
      rw [List.getElem?_take]
      split
      · rename_i hj
        rw [List.getElem?_drop]
        by_cases hjv : j < vs.length
        · rw [spl_mid hjv hfit, List.getElem?_append_left hjv]
        · rw [spl_gt (by omega) hfit, List.getElem?_append_right (by omega), List.getElem?_drop, ← hx, List.getElem?_take, if_pos (by omega), List.getElem?_drop]
          congr 1; omega
      · rename_i hj
        rw [List.getElem?_eq_none]; simp [hxl]; omega
  · exact (hput_chg h b _).mono fun x _ hxb => by subst hxb; exact ⟨o, n, c, rfl⟩
  · intro bb off x hx2 hlt
    by_cases hbb : bb = b
    · subst hbb
      rw [cell_of hb] at hx2
      rw [cell_of (hput_same hb)]
      have := hlt o n c rfl
      rw [← Array.getElem?_toList]
      rcases this with h3 | h3
      · rw [spl_lt h3 hfit, Array.getElem?_toList]; exact hx2
      · rw [spl_gt (by omega) hfit, Array.getElem?_toList]; exact hx2
    · rw [cell_block (hput_other hbb)]; exact hx2
  · exact Shape.put hb (by simp only [List.size_toArray]; rw [spl_length hfit]; simp)
end Go.HL

namespace Go.HL
open Go
namespace V
variable {P : Program} {s : Slots} {h : Heap} {d : Option Tmp} {ty : TypeId} {pos : String} {af : Array Edge} {g : Option (Nat × Bool)} {x y c : Operand} {t u : TypeId}

theorem append {e : TypeId} {k bytes : Nat} {z v nv : Value} {xs news : List Value} (hx : ev s x = v) (hy : ev s y = nv) (ht : elB P t = some e) (hk : szB P e = some (k + 1)) (hby : byB P e = some (bytes + 1)) (hz : zrB P e = some z) (hzk : z.cells.size = k + 1)
    (hv : Cap h (k + 1) e v xs) (hn : Sl h (k + 1) nv news) (h1 : ∀ u ∈ news, u.oneCell' = true) (hfit : (xs.length + news.length) * (bytes + 1) ≤ 140737488355328) :
    OpA P ⟨d, .call ⟨.builtin .append, #[x, y], #[t, t]⟩, ty, pos, af, g⟩ s h (fun v' h' => Appended h (k + 1) e v (xs ++ news) v' h') := fun E w at' => by
  obtain ⟨v', h', w', ha, at2, hr⟩ := run_append (ty := ty) ht hk hby hz (by omega) (by omega) hzk hv hn h1 hfit at'
  refine ⟨v', h', w', ha, at2, ?_⟩
  simp [execOp, resolve, invoke, builtin, hx, hy, hr]

theorem alloc {z : Value} {cs : Array Value} (hz : zrB P t = some z) (hc : z.cells = cs) : OpE P ⟨d, .alloc t, ty, pos, af, g⟩ s h (.pointer (some ⟨h.size, 0, none⟩)) (h.push (.cells cs t (0, 0))) := fun E w at' => by
  refine ⟨_, at'.alloc (.cells cs t (0, 0)), ?_⟩
  simp [execOp, Instr.alloc, run_zrB hz, newVar, newRow, hc, at'.heap]
theorem box {v : Value} {cs : Array Value} (hx : ev s x = v) (hc : v.cells = cs) : OpE P ⟨d, .box t x, ty, pos, af, g⟩ s h (.pointer (some ⟨h.size, 0, none⟩)) (h.push (.cells cs t (0, 0))) := fun E w at' => by
  refine ⟨_, at'.alloc (.cells cs t (0, 0)), ?_⟩
  simp [execOp, Instr.box, newVar, newRow, hc, at'.heap, hx]
theorem boxI {k : IntKind} {n : Int} (hx : ev s x = .int k n) : OpE P ⟨d, .box t x, ty, pos, af, g⟩ s h (.pointer (some ⟨h.size, 0, none⟩)) (h.push (.cells #[.int k n] t (0, 0))) := box hx rfl
theorem boxB {b : Bool} (hx : ev s x = .bool b) : OpE P ⟨d, .box t x, ty, pos, af, g⟩ s h (.pointer (some ⟨h.size, 0, none⟩)) (h.push (.cells #[.bool b] t (0, 0))) := box hx rfl
theorem boxS {a : Option Addr} {n m : Nat} (hx : ev s x = .slice a n m) : OpE P ⟨d, .box t x, ty, pos, af, g⟩ s h (.pointer (some ⟨h.size, 0, none⟩)) (h.push (.cells #[.slice a n m] t (0, 0))) := box hx rfl
theorem boxP {a : Option Addr} (hx : ev s x = .pointer a) : OpE P ⟨d, .box t x, ty, pos, af, g⟩ s h (.pointer (some ⟨h.size, 0, none⟩)) (h.push (.cells #[.pointer a] t (0, 0))) := box hx rfl
theorem boxT {b : ByteArray} (hx : ev s x = .string b) : OpE P ⟨d, .box t x, ty, pos, af, g⟩ s h (.pointer (some ⟨h.size, 0, none⟩)) (h.push (.cells #[.string b] t (0, 0))) := box hx rfl
theorem boxA {cs : Array Value} (hx : ev s x = .agg cs) : OpE P ⟨d, .box t x, ty, pos, af, g⟩ s h (.pointer (some ⟨h.size, 0, none⟩)) (h.push (.cells cs t (0, 0))) := box hx rfl
theorem makeMap : OpE P ⟨d, .makeMap t none, ty, pos, af, g⟩ s h (.map (some h.size)) (h.push (.map #[] 0)) := fun E w at' => by
  refine ⟨_, at'.alloc (.map #[] 0), ?_⟩
  simp [execOp, Instr.makeMap, at'.heap]

/-- A slice literal of elements of k cells. -/
theorem buildSliceF {n k : Nat} {e : TypeId} {z : Value} {l : List (Nat × Operand)} {cs : Array Value} (ht : elB P t = some e) (hk : szB P e = some k) (hz : zrB P e = some z) (hnk : Nat.ble (n * k) 16777216 = true)
    (hf : Instr.fill (fun i => some (i * k, k)) ((Array.range (n * k)).map (z.cells[· % z.cells.size]!)) (l.map fun p => (p.1, ev s p.2)) = some cs) :
    OpE P ⟨d, .buildSlice t n l.toArray, ty, pos, af, g⟩ s h (.slice (some ⟨h.size, 0, none⟩) n n) (h.push (.cells cs e (0, 0))) := fun E w at' => by
  refine ⟨_, at'.alloc (.cells cs e (0, 0)), ?_⟩
  have hnk' := Nat.le_of_ble_eq_true hnk
  have h0 : ¬ 16777216 < n * k := by omega
  by_cases hz0 : n * k = 0
  · have r0 : Array.range 0 = #[] := rfl
    simp only [hz0, r0, Array.map_empty] at hf
    simp [execOp, Instr.buildSlice, run_und (elB_iff ht), run_szB hk, hz0, r0, hf, newRow, at'.heap]
  · simp [execOp, Instr.buildSlice, run_und (elB_iff ht), run_szB hk, h0, hz0, run_zrB hz, hf, newRow, at'.heap]

def idx : Nat → List Operand → List (Nat × Operand)
  | _, [] => []
  | i, x :: l => (i, x) :: idx (i + 1) l
theorem fold_set (o : Nat) : ∀ (vs : List Value) (j : Nat) (cs : Array Value), o + j + vs.length ≤ cs.size →
    ((vs.zipIdx j).foldl (fun cs (c, j) => cs.setIfInBounds (o + j) c) cs).toList = spl cs.toList (o + j) vs
  | [], j, cs, _ => by simp [spl]
  | v :: vs, j, cs, hl => by
    simp only [List.length_cons] at hl
    simp only [List.zipIdx_cons, List.foldl_cons]
    rw [fold_set o vs (j + 1) _ (by simp; omega)]
    apply List.ext_getElem?
    intro i
    have hl2 : o + (j + 1) + vs.length ≤ (cs.setIfInBounds (o + j) v).toList.length := by simp; omega
    have hl3 : o + j + (v :: vs).length ≤ cs.toList.length := by simp; omega
    by_cases h1 : i < o + j
    · rw [spl_lt (by omega) hl2, spl_lt h1 hl3]
      simp [show ¬ (o + j = i) by omega]
    · by_cases h2 : i = o + j
      · subst h2
        rw [spl_lt (by omega) hl2]
        have := spl_mid (cs := cs.toList) (vs := v :: vs) (o := o + j) (j := 0) (by simp) hl3
        simp at this
        rw [this]
        simp [show o + j < cs.size by omega]
      · by_cases h3 : i < o + j + 1 + vs.length
        · have e1 : i = o + (j + 1) + (i - (o + j + 1)) := by omega
          have e2 : i = o + j + (i - (o + j)) := by omega
          rw [e1, spl_mid (by omega) hl2]
          rw [show o + (j + 1) + (i - (o + j + 1)) = o + j + (i - (o + j)) by omega, spl_mid (by simp; omega) hl3]
          rw [show i - (o + j) = (i - (o + j + 1)) + 1 by omega]
          rfl
        · rw [spl_gt (by omega) hl2, spl_gt (by simp; omega) hl3]
          simp [show ¬ (o + j = i) by omega]
theorem fill_idx {k : Nat} : ∀ (xs : List Operand) (i : Nat) (cs : Array Value), (∀ x ∈ xs, (ev s x).cells.size = k) → cs.size = (i + xs.length) * k →
    Instr.fill (fun i => some (i * k, k)) cs ((idx i xs).map fun p => (p.1, ev s p.2)) = some (cs.toList.take (i * k) ++ xs.flatMap fun x => (ev s x).cells.toList).toArray
  | [], i, cs, _, hs => by
    simp only [idx, List.map_nil, Instr.fill, List.flatMap_nil, List.append_nil, List.length_nil, Nat.add_zero] at hs ⊢
    rw [List.take_of_length_le (by simp [hs])]
  | x :: xs, i, cs, hx, hs => by
    have h0 := hx x List.mem_cons_self
    simp only [idx, List.map_cons, Instr.fill]
    have hle : i * k + k ≤ cs.size := by rw [hs]; simp [Nat.add_mul]
    have c1 : ((ev s x).cells.size ≠ k || i * k + (ev s x).cells.size > cs.size) = false := by simp [h0]; omega
    have hfold := fold_set (i * k) (ev s x).cells.toList 0 cs (by simp [h0]; omega)
    simp only [Nat.add_zero] at hfold
    have hsz : ((ev s x).cells.zipIdx.foldl (fun cs (c, j) => cs.setIfInBounds (i * k + j) c) cs) = (spl cs.toList (i * k) (ev s x).cells.toList).toArray := by
      rw [← hfold, Array.toArray_toList, ← Array.foldl_toList, Array.toList_zipIdx]
    simp only [c1, Bool.false_eq_true, if_false]
    rw [hsz, fill_idx xs (i + 1) _ (fun y hy => hx y (List.mem_cons_of_mem _ hy)) (by simp only [List.size_toArray]; rw [spl_length (by simp [h0]; omega)]; simp [hs]; congr 1; omega)]
    congr 2
    simp only [List.flatMap_cons]
    rw [← List.append_assoc]
    congr 1
    unfold spl
    have e1 : (i + 1) * k = (cs.toList.take (i * k) ++ (ev s x).cells.toList).length := by simp [h0, Nat.add_mul]; omega
    rw [e1, List.take_left]
def AllSz (s : Slots) (k : Nat) : List Operand → Prop
  | [] => True
  | x :: xs => (ev s x).cells.size = k ∧ AllSz s k xs
theorem AllSz.all {k : Nat} : ∀ {xs : List Operand}, AllSz s k xs → ∀ x ∈ xs, (ev s x).cells.size = k
  | x :: xs, h, y, hy => by
    rcases List.mem_cons.1 hy with rfl | hy
    · exact h.1
    · exact AllSz.all h.2 y hy
theorem buildSlice (xs : List Operand) {n k : Nat} {e : TypeId} {z : Value} {l : List (Nat × Operand)} {cs : Array Value} (ht : elB P t = some e) (hk : szB P e = some k) (hz : zrB P e = some z) (hl : l = idx 0 xs) (hn : n = xs.length) (hnk : Nat.ble (n * k) 16777216 = true)
    (hx : AllSz s k xs) (hcs : (xs.flatMap fun x => (ev s x).cells.toList) = cs.toList) :
    OpE P ⟨d, .buildSlice t n l.toArray, ty, pos, af, g⟩ s h (.slice (some ⟨h.size, 0, none⟩) n n) (h.push (.cells cs e (0, 0))) := by
  refine buildSliceF ht hk hz hnk ?_
  subst hl hn
  rw [fill_idx xs 0 _ hx.all (by simp), hcs]
  simp

/-- A struct's literal: the fields' places, as pairs of an offset and a number of cells. -/
def plB (P : Program) (t : TypeId) : Option (List (Nat × Nat)) := match P.underlying t with
  | some (.struct fs) => fs.toList.mapM fun f => (P.info? f.type).map fun i => (f.offset, i.size)
  | _ => none
theorem run_places {P : Program} {w : World} : ∀ {l : List Field} {ps : List (Nat × Nat)}, l.mapM (fun f => (P.info? f.type).map fun i => (f.offset, i.size)) = some ps →
    (l.mapM fun (f : Field) => (do pure (f.offset, ← sizeOf f.type) : Sem (Nat × Nat))).run P w = .ok ps w
  | [], ps, h => by simp at h; subst h; simp
  | f :: l, ps, h => by
    simp only [List.mapM_cons, Option.bind_eq_bind, Option.bind_eq_some_iff] at h
    obtain ⟨p, hp, qs, hq, hps⟩ := h
    simp at hps
    subst hps
    have ih := run_places (w := w) hq
    cases hi : P.info? f.type with
    | none => simp [hi] at hp
    | some i =>
      simp [hi] at hp
      subst hp
      simp [List.mapM_cons, sizeOf, typeInfo, hi]
      simp [sizeOf, typeInfo] at ih
      simp [ih]
theorem build {l : List (Nat × Operand)} {ps : List (Nat × Nat)} {z : Value} {cs : Array Value} (hz : zrB P t = some z) (hp : plB P t = some ps) (hf : Instr.fill (fun i => ps[i]?) z.cells (l.map fun p => (p.1, ev s p.2)) = some cs) :
    OpV P ⟨d, .build t l.toArray, ty, pos, af, g⟩ s h (.agg cs) := fun w _ => by
  unfold plB at hp
  cases hu : P.underlying t with
  | none => simp [hu] at hp
  | some dd =>
    cases dd <;> simp only [hu] at hp <;> try (cases hp; done)
    rename_i fs
    have := run_places (w := w) hp
    have hm : (fs.mapM fun (f : Field) => (do pure (f.offset, ← sizeOf f.type) : Sem (Nat × Nat))).run P w = .ok ps.toArray w := by
      rw [← Array.toArray_toList (xs := fs), List.mapM_toArray]
      simp at this ⊢
      simp [this]
    simp [execOp, Instr.build, run_zrB hz, run_und hu]
    simp at hm
    simp [hm, hf]

/-- A store into a block that is known: one cell. -/
theorem store {b o : Nat} {v : Value} {cs cs' : Array Value} {e : TypeId} {fz : Nat × Nat} (hx : ev s x = .pointer (some ⟨b, o, none⟩)) (hy : ev s y = v) (ht : szB P t = some 1) (h1 : v.oneCell' = true)
    (hb : h[b]? = some (.cells cs e fz)) (ho : o < cs.size) (hf : ¬ (fz.1 ≤ o ∧ o < fz.2)) (hc : cs.setIfInBounds o v = cs') : OpU P ⟨d, .store t x y, ty, pos, af, g⟩ s h (hput h b cs') := fun E w at' => by
  subst hc
  refine ⟨_, at'.setRow b (cs.setIfInBounds o v), ?_⟩
  have hvc : v.cells = #[v] := by cases v <;> first | rfl | (simp [Value.oneCell'] at h1)
  have hwb : w.heap[b]? = some (.cells cs e fz) := by rw [at'.heap]; exact hb
  have hcell : w.cell? ⟨b, o, none⟩ = some cs[o] := by rw [cell?_eq, cell_of hwb]; simp [ho]
  have hfr : w.frozen? ⟨b, o, none⟩ = false := by
    obtain ⟨lo, hi⟩ := fz
    simp only [World.frozen?, hwb]
    simp at hf ⊢
    exact hf
  have hset : w.setCell ⟨b, o, none⟩ v = w.setRow b (cs.setIfInBounds o v) := by
    unfold World.setCell World.setRow
    simp only [World.mk.injEq, and_true]
    apply Array.ext_getElem?
    intro i
    simp only [Array.getElem?_modify]
    by_cases hi : b = i
    · subst hi; simp [hwb]
    · simp [hi]
  have hst := run_store P w ⟨b, o, none⟩ v .plain h1
  simp only [hcell, hfr] at hst
  simp [execOp, hx, hy, Instr.storeAt, Instr.sureAddr, storeVar, hvc, run_szB ht, storeCells, Addr.add_zero', hst, hset]

/-- A store of a struct or an array over a part of a block. -/
theorem storeA {b o : Nat} {vs : List Value} {cs cs' : Array Value} {e : TypeId} {fz : Nat × Nat} (hx : ev s x = .pointer (some ⟨b, o, none⟩)) (hy : ev s y = .agg vs.toArray) (ht : szB P t = some vs.length) (h1 : ∀ v ∈ vs, v.oneCell' = true)
    (hb : h[b]? = some (.cells cs e fz)) (ho : o + vs.length ≤ cs.size) (hf : fzOk fz cs.size) (hc : (spl cs.toList o vs).toArray = cs') : OpU P ⟨d, .store t x y, ty, pos, af, g⟩ s h (hput h b cs') := fun E w at' => by
  subst hc
  refine ⟨_, at'.setRow b _, ?_⟩
  have hwb : w.heap[b]? = some (.cells cs e fz) := by rw [at'.heap]; exact hb
  have hst := run_storeCells_cells (P := P) b o vs 0 w (fun j hj => by rw [cell?_eq, cell_of hwb]; simp; omega) (fun j hj => frozen?_eq hwb hf (by omega)) h1
  simp only [Nat.add_zero] at hst
  rw [setCells_row b e fz vs o w cs hwb ho] at hst
  simp [execOp, hx, hy, Instr.storeAt, Instr.sureAddr, storeVar, Value.cells, run_szB ht, hst]

/-- make([]T, n) and make([]T, n, m). -/
theorem makeSlice {n m k bytes : Nat} {e : TypeId} {z : Value} (hx : ev s x = .int .i64 n) (hy : ev s y = .int .i64 m) (ht : elB P t = some e) (hk : szB P e = some k) (hb : byB P e = some bytes) (hz : zrB P e = some z) (hnm : n ≤ m) (hfit : m * bytes ≤ 281474976710656) (hm : m ≤ 9223372036854775807) :
    OpE P ⟨d, .makeSlice t x y, ty, pos, af, g⟩ s h (.slice (some ⟨h.size, 0, none⟩) n m) (h.push (.cells ((Array.range (m * k)).map (z.cells[· % z.cells.size]!)) e (0, 0))) := fun E w at' => by
  refine ⟨_, at'.alloc _, ?_⟩
  obtain ⟨i, hi, hik⟩ := szB_iff hk
  have hib : i.bytes = bytes := by
    obtain ⟨i', hi', e'⟩ := byB_iff hb
    rw [hi] at hi'; injection hi' with hi'; subst hi'; exact e'
  have w1 : IntKind.i64.wrap (n : Int) = n := IntWalk.i64_in _ (by omega)
  have w2 : IntKind.i64.wrap (m : Int) = m := IntWalk.i64_in _ (by omega)
  have b1 : ¬ ((281474976710656 : Int) < (bytes : Int) * (m : Int)) := by
    have : ((m * bytes : Nat) : Int) ≤ 281474976710656 := by omega
    rw [Nat.mul_comm] at this
    rw [← Int.natCast_mul]; omega
  have b2 : ¬ ((m : Int) < n) := by omega
  have b3 : ¬ ((m : Int) < 0) := by omega
  have b4 : ¬ ((n : Int) < 0) := by omega
  by_cases h0 : m * k = 0
  · have r0 : Array.range 0 = #[] := rfl
    simp [r0, execOp, hx, hy, Instr.makeSlice, run_und (elB_iff ht), asInt, asIntOf, typeInfo, hi, hib, w1, w2, b1, b2, b3, b4, run_szB hk, h0, newRow, at'.heap]
  · simp [execOp, hx, hy, Instr.makeSlice, run_und (elB_iff ht), asInt, asIntOf, typeInfo, hi, hib, w1, w2, b1, b2, b3, b4, run_szB hk, h0, run_zrB hz, newRow, at'.heap]

/-- s[lo:hi], s[lo:], s[:hi], s[lo:hi:max] of a slice: the value as the model has it. -/
theorem slice_lh {a : Option Addr} {n m l r k : Nat} {e : TypeId} {lo hi : Operand} {k1 k2 : IntKind} (hx : ev s x = .slice a n m) (hlo : ev s lo = .int k1 l) (hhi : ev s hi = .int k2 r) (ht : elB P t = some e) (hk : szB P e = some k) (hlr : l ≤ r) (hrm : r ≤ m) :
    OpV P ⟨d, .slice t x (some lo) (some hi) none, ty, pos, af, g⟩ s h (.slice (cutA a l m k) (r - l) (m - l)) := fun w _ => by
  simp [execOp, hx, hlo, hhi, Instr.sliceAt, Instr.slice, run_und (elB_iff ht), Instr.sliceBounds, Instr.sliceBound, asIntOf, run_szB hk, hlr, hrm, cutA]
theorem slice_l {a : Option Addr} {n m l k : Nat} {e : TypeId} {lo : Operand} {k1 : IntKind} (hx : ev s x = .slice a n m) (hlo : ev s lo = .int k1 l) (ht : elB P t = some e) (hk : szB P e = some k) (hln : l ≤ n) :
    OpV P ⟨d, .slice t x (some lo) none none, ty, pos, af, g⟩ s h (.slice (cutA a l m k) (n - l) (m - l)) := fun w _ => by
  simp [execOp, hx, hlo, Instr.sliceAt, Instr.slice, run_und (elB_iff ht), Instr.sliceBounds, Instr.sliceBound, asIntOf, run_szB hk, hln, cutA]
theorem slice_h {a : Option Addr} {n m r k : Nat} {e : TypeId} {hi : Operand} {k2 : IntKind} (hx : ev s x = .slice a n m) (hhi : ev s hi = .int k2 r) (ht : elB P t = some e) (hk : szB P e = some k) (hrm : r ≤ m) :
    OpV P ⟨d, .slice t x none (some hi) none, ty, pos, af, g⟩ s h (.slice a r m) := fun w _ => by
  have : (a.map fun x => x.add 0) = a := by cases a <;> simp [Addr.add_zero']
  simp [execOp, hx, hhi, Instr.sliceAt, Instr.slice, run_und (elB_iff ht), Instr.sliceBounds, Instr.sliceBound, asIntOf, run_szB hk, hrm, this]
theorem slice_hm {a : Option Addr} {n m r q k : Nat} {e : TypeId} {hi mx : Operand} {k2 k3 : IntKind} (hx : ev s x = .slice a n m) (hhi : ev s hi = .int k2 r) (hmx : ev s mx = .int k3 q) (ht : elB P t = some e) (hk : szB P e = some k) (hrq : r ≤ q) (hqm : q ≤ m) :
    OpV P ⟨d, .slice t x none (some hi) (some mx), ty, pos, af, g⟩ s h (.slice a r q) := fun w _ => by
  have : (a.map fun x => x.add 0) = a := by cases a <;> simp [Addr.add_zero']
  simp [execOp, hx, hhi, hmx, Instr.sliceAt, Instr.slice, run_und (elB_iff ht), Instr.sliceBounds, Instr.sliceBound, asIntOf, run_szB hk, hrq, hqm, this]
theorem slice_lhm {a : Option Addr} {n m l r q k : Nat} {e : TypeId} {lo hi mx : Operand} {k1 k2 k3 : IntKind} (hx : ev s x = .slice a n m) (hlo : ev s lo = .int k1 l) (hhi : ev s hi = .int k2 r) (hmx : ev s mx = .int k3 q) (ht : elB P t = some e) (hk : szB P e = some k) (hlr : l ≤ r) (hrq : r ≤ q) (hqm : q ≤ m) :
    OpV P ⟨d, .slice t x (some lo) (some hi) (some mx), ty, pos, af, g⟩ s h (.slice (cutA a l q k) (r - l) (q - l)) := fun w _ => by
  simp [execOp, hx, hlo, hhi, hmx, Instr.sliceAt, Instr.slice, run_und (elB_iff ht), Instr.sliceBounds, Instr.sliceBound, asIntOf, run_szB hk, hlr, hrq, hqm, cutA]

theorem zeroCells_len (z : Array Value) (n : Nat) : (Builtin.zeroCells z n).toList.length = n * z.size := by simp [Builtin.zeroCells]
/-- clear(s) of a slice that is not empty. -/
theorem clear {b o n c k : Nat} {e : TypeId} {z : Value} {xs : List Value} (hx : ev s x = .slice (some ⟨b, o, none⟩) (n + 1) c) (ht : elB P t = some e) (hz : zrB P e = some z) (hzk : z.cells.size = k) (h1 : ∀ u ∈ (Builtin.zeroCells z.cells (n + 1)).toList, u.oneCell' = true)
    (hc : Cap h k e (.slice (some ⟨b, o, none⟩) (n + 1) c) xs) :
    OpA P ⟨d, .call ⟨.builtin .clear, #[x], #[t]⟩, ty, pos, af, g⟩ s h (fun v h' => v = .tuple #[] ∧ ∃ ys, Stored h k e (.slice (some ⟨b, o, none⟩) (n + 1) c) ys h') := fun E w at' => by
  obtain ⟨h', w', hst, at2, hr⟩ := run_storeSl (P := P) hc (vs := (Builtin.zeroCells z.cells (n + 1)).toList) (by rw [zeroCells_len, hzk]; exact Nat.le_refl _) h1 at'
  refine ⟨_, h', w', ⟨rfl, _, hst⟩, at2, ?_⟩
  simp [execOp, resolve, invoke, builtin, hx, Builtin.clear_, run_und (elB_iff ht), run_zrB hz, hr]
/-- copy(d, s) into a slice that is not empty: as many elements as both have. -/
theorem copy {b o n c k m c' : Nat} {a' : Option Addr} {e : TypeId} {t' : TypeId} {xs ys : List Value} (hx : ev s x = .slice (some ⟨b, o, none⟩) n c) (hy : ev s y = .slice a' m c') (ht : elB P t = some e) (hk : szB P e = some k)
    (hc : Cap h k e (.slice (some ⟨b, o, none⟩) n c) xs) (hn : Sl h k (.slice a' m c') ys) (h1 : ∀ u ∈ ys, u.oneCell' = true) (hmn : m ≤ n) :
    OpA P ⟨d, .call ⟨.builtin .copy, #[x, y], #[t, t']⟩, ty, pos, af, g⟩ s h (fun v h' => v = .int .i64 m ∧ Stored h k e (.slice (some ⟨b, o, none⟩) n c) (ys ++ xs.drop ys.length) h') := fun E w at' => by
  have hr0 := hn.cells
  have hmk : m * k ≤ n * k := Nat.mul_le_mul_right _ hmn
  obtain ⟨h', w', hst, at2, hr⟩ := run_storeSl (P := P) hc (vs := ys) (by rw [hr0.1]; exact hmk) h1 at'
  refine ⟨_, h', w', ⟨rfl, hst⟩, at2, ?_⟩
  have hmin : Nat.min m n = m := Nat.min_eq_left hmn
  have hf : (Builtin.firstCells k m (.slice a' m c')).run P w = .ok ys.toArray w := by
    by_cases hm0 : m = 0
    · subst hm0
      have : ys = [] := List.eq_nil_of_length_eq_zero (by simpa using hr0.1)
      subst this
      cases a' <;> simp [Builtin.firstCells, loadCells, loadCellsFrom]
    · obtain ⟨b', o', rfl, hcell⟩ := hr0.2 (by omega)
      exact run_firstCells_some w k m ⟨b', o', none⟩ m c' ys hr0.1 (fun j v hj => by rw [Addr.add_lit, cell?_eq, at'.heap]; exact hcell j v hj)
  simp [execOp, resolve, invoke, builtin, hx, hy, Builtin.copy_, run_und (elB_iff ht), Builtin.lenOf, hmin, run_szB hk, hf, hr, goInt]

theorem eqGP {op : BinOp} {a b : Option Addr} {w : World} : (eqGuard op t x y (.pointer a) (.pointer b)).run P w = .ok () w := by
  unfold eqGuard
  cases op <;> simp
theorem eqGS {op : BinOp} {a b : Option Addr} {n m n' m' : Nat} {w : World} : (eqGuard op t x y (.slice a n m) (.slice b n' m')).run P w = .ok () w := by
  unfold eqGuard
  cases op <;> simp
theorem eqGB {op : BinOp} {a b : Bool} {w : World} : (eqGuard op t x y (.bool a) (.bool b)).run P w = .ok () w := by
  unfold eqGuard
  cases op <;> simp
theorem eqGT {op : BinOp} {a b : ByteArray} {w : World} : (eqGuard op t x y (.string a) (.string b)).run P w = .ok () w := by
  unfold eqGuard
  cases op <;> simp

theorem equal_ptr {a : Option Addr} {e : TypeId} (ht : ptB P t = some e) (w : World) : (Op.equal t (.pointer a) (.pointer none)).run P w = .ok a.isNone w := by
  have : ∀ dd, (Op.equalIn (dd + 1) t (.pointer a) (.pointer none)).run P w = .ok a.isNone w := fun dd => by
    cases a <;> simp [Op.equalIn, run_und (ptB_iff ht)]
  exact this 9999
theorem equal_sl {a : Option Addr} {n m : Nat} {e : TypeId} (ht : elB P t = some e) (w : World) : (Op.equal t (.slice a n m) (.slice none 0 0)).run P w = .ok a.isNone w := by
  have : ∀ dd, (Op.equalIn (dd + 1) t (.slice a n m) (.slice none 0 0)).run P w = .ok a.isNone w := fun dd => by
    cases a <;> simp [Op.equalIn, run_und (elB_iff ht)]
  exact this 9999
theorem equal_bo {a b : Bool} (ht : boB P t = true) (w : World) : (Op.equal t (.bool a) (.bool b)).run P w = .ok (a == b) w := run_equal_bool w t a b (boB_iff ht)

theorem ptrEqNil {a : Option Addr} {e : TypeId} (hx : ev s x = .pointer a) (hy : ev s y = .pointer none) (ht : ptB P t = some e) : OpV P ⟨d, .binOp .eql t x y u, ty, pos, af, g⟩ s h (.bool a.isNone) := fun w _ => by
  simp [execOp, hx, hy, eqGP, binOp, equal_ptr ht]
theorem ptrNeNil {a : Option Addr} {e : TypeId} (hx : ev s x = .pointer a) (hy : ev s y = .pointer none) (ht : ptB P t = some e) : OpV P ⟨d, .binOp .neq t x y u, ty, pos, af, g⟩ s h (.bool (!a.isNone)) := fun w _ => by
  simp [execOp, hx, hy, eqGP, binOp, equal_ptr ht]
theorem slEqNil {a : Option Addr} {n m : Nat} {e : TypeId} (hx : ev s x = .slice a n m) (hy : ev s y = .slice none 0 0) (ht : elB P t = some e) : OpV P ⟨d, .binOp .eql t x y u, ty, pos, af, g⟩ s h (.bool a.isNone) := fun w _ => by
  simp [execOp, hx, hy, eqGS, binOp, equal_sl ht]
theorem slNeNil {a : Option Addr} {n m : Nat} {e : TypeId} (hx : ev s x = .slice a n m) (hy : ev s y = .slice none 0 0) (ht : elB P t = some e) : OpV P ⟨d, .binOp .neq t x y u, ty, pos, af, g⟩ s h (.bool (!a.isNone)) := fun w _ => by
  simp [execOp, hx, hy, eqGS, binOp, equal_sl ht]
theorem boEql {a b r : Bool} (hx : ev s x = .bool a) (hy : ev s y = .bool b) (ht : boB P t = true) (hr : (a == b) = r) : OpV P ⟨d, .binOp .eql t x y u, ty, pos, af, g⟩ s h (.bool r) := fun w _ => by
  subst hr
  simp [execOp, hx, hy, eqGB, binOp, equal_bo ht]
theorem boNeq {a b r : Bool} (hx : ev s x = .bool a) (hy : ev s y = .bool b) (ht : boB P t = true) (hr : (a != b) = r) : OpV P ⟨d, .binOp .neq t x y u, ty, pos, af, g⟩ s h (.bool r) := fun w _ => by
  subst hr
  simp [execOp, hx, hy, eqGB, binOp, equal_bo ht, bne]
theorem stEql {a b : ByteArray} {r : Bool} (hx : ev s x = .string a) (hy : ev s y = .string b) (hr : (a.toList == b.toList) = r) : OpV P ⟨d, .binOp .eql t x y u, ty, pos, af, g⟩ s h (.bool r) := fun w _ => by
  subst hr
  simp [execOp, hx, hy, eqGT, binOp, Op.stringOp]
theorem stNeq {a b : ByteArray} {r : Bool} (hx : ev s x = .string a) (hy : ev s y = .string b) (hr : (!(a.toList == b.toList)) = r) : OpV P ⟨d, .binOp .neq t x y u, ty, pos, af, g⟩ s h (.bool r) := fun w _ => by
  subst hr
  simp [execOp, hx, hy, eqGT, binOp, Op.stringOp]

/-- Between kinds of integers. -/
theorem convI {k k' : IntKind} {a : Int} (hx : ev s x = .int k a) (hu : inB P u = some k') (ht : inB P t = some k) : OpV P ⟨d, .convert t u x, ty, pos, af, g⟩ s h (.int k' (k'.wrap a)) := fun w _ => by
  simp [execOp, hx, convert, run_und (inB_iff hu), run_und (inB_iff ht), Conv.intToInt]
theorem convE {k k' : IntKind} {a b : Int} (hx : ev s x = .int k a) (hu : inB P u = some k') (ht : inB P t = some k) (hb : k'.wrap a = b) : OpV P ⟨d, .convert t u x, ty, pos, af, g⟩ s h (.int k' b) := hb ▸ convI hx hu ht
/-- A field of a struct that is a value: one cell; several. -/
theorem field1 {cs : Array Value} {f off : Nat} {ft : TypeId} {v : Value} (hx : ev s x = .agg cs) (hf : fdB P t f = some (off, ft, 1)) (ha : agB P ft = some false) (hv : cs[off]? = some v) : OpV P ⟨d, .field t x f, ty, pos, af, g⟩ s h v := fun w _ => by
  obtain ⟨fs, fd, i, h1, h2, rfl, rfl, h3, h4⟩ := fdB_iff hf
  simp [execOp, hx, Instr.field, run_und h1, h2, asAgg, part, run_agB ha, hv]
end V
end Go.HL

namespace Go.HL
open Go Go.MapKept

/-- No value, and a heap out of a class. -/
def OpUR (P : Program) (o : Oper) (s : Slots) (h : Heap) (R : Heap → Prop) : Prop :=
  ∀ E w, At E h w → ∃ h' w', R h' ∧ At E h' w' ∧ (execOp (ev s) o).run P w = .ok .skip w'
theorem HO.ur {P : Program} {n : Nat} {ops : Array Oper} {l : List Oper} {o : Oper} {K : Slots → Heap → Prop} {s : Slots} {h : Heap} {R : Heap → Prop} (hv : OpUR P o s h R) (hw : wants ops o s = true) (hd : o.dst = none)
    (hk : ∀ h', R h' → HO P n ops l K s h') : HO P n ops (o :: l) K s h :=
  HO.step hw fun E a w r at' => by
    obtain ⟨h', w', hR, at2, hr⟩ := hv E w at'
    unfold Oper.wp
    rw [r.eval', hr]
    simp only [Oper.upon, hd, Act.put]
    exact hk h' hR E _ w' r at2
theorem Up.ur {P : Program} {n : Nat} {ops : Array Oper} {o : Oper} {bar : Nat} {S : Bool → Heap → Prop} {K : Slots → Heap → Prop} {fuel : Nat} {listed : Array Bool} {s : Slots} {h : Heap} {i : Nat} {R : Heap → Prop} (hi : ops[i]? = some o) (hw : wants ops o s = true) (hd : o.dst = none)
    (hv : OpUR P o s h R) {fl : Bool} (hfl : (listed.setIfInBounds i true).getD bar false = fl) (hk : ∀ h', R h' → S fl h' ∧ HA P n ops bar S K fuel (listed.setIfInBounds i true) s h') : Up P n ops bar S K fuel listed i s h :=
  Up.step hi hw fun E a w r at' => by
    obtain ⟨h', w', hR, at2, hr⟩ := hv E w at'
    unfold Oper.wp
    rw [r.eval', hr]
    simp only [Oper.upon, hd, Act.put, hfl]
    obtain ⟨k1, k2⟩ := hk h' hR
    exact ⟨by rw [at2.heap]; exact k1, k2 E _ w' r at2⟩

/-- One cell of a slice, stored anew. -/
structure Set1 (h : Heap) (k : Nat) (e : TypeId) (b o n c q : Nat) (xs : List Value) (u : Value) (h' : Heap) : Prop where
  cap : Cap h' k e (.slice (some ⟨b, o, none⟩) n c) (xs.set q u)
  chg : Chg (fun x => x = b) h h'
  kept : ∀ b' off x, cell h b' off = some x → ¬ (b' = b ∧ off = o + q) → cell h' b' off = some x
  shape : Shape h h'
  size : h'.size = h.size
theorem V.storeC {P : Program} {s : Slots} {h : Heap} {d : Option Tmp} {ty : TypeId} {pos : String} {af : Array Edge} {g : Option (Nat × Bool)} {x y : Operand} {t e : TypeId} {b o n c k q : Nat} {xs : List Value} {u : Value}
    (hx : ev s x = .pointer (some ⟨b, o + q, none⟩)) (hy : ev s y = u) (ht : szB P t = some 1) (h1 : u.oneCell' = true) (hc : Cap h k e (.slice (some ⟨b, o, none⟩) n c) xs) (hq : q < n * k) :
    OpUR P ⟨d, .store t x y, ty, pos, af, g⟩ s h (Set1 h k e b o n c q xs u) := fun E w at' => by
  have hc0 := hc
  obtain ⟨a', n', c', hv, hn, hcm, hxl, hr⟩ := hc
  injection hv with g1 g2 g3; subst g1 g2 g3
  rcases hr with ⟨hbad, _⟩ | ⟨b', o', cs, fz, hab, hb, hs, hf, hxx⟩
  · cases hbad
  injection hab with hab; injection hab with g1 g2; subst g1 g2
  have hnk : n * k ≤ c * k := Nat.mul_le_mul_right _ hn
  obtain ⟨w', at2, hr⟩ := V.store (P := P) (s := s) (d := d) (ty := ty) (pos := pos) (af := af) (g := g) hx hy ht h1 hb (by omega) (hf.2 _ (by omega)) rfl E w at'
  refine ⟨_, w', ⟨?_, hput_chg _ _ _, ?_, Shape.put hb (by simp), hput_size _ _ _⟩, at2, hr⟩
  · refine ⟨_, _, _, rfl, hn, hcm, by simp [hxl], .inr ⟨b, o, _, fz, rfl, hput_same hb, by simpa using hs, by simpa using hf, ?_⟩⟩
    apply List.ext_getElem?
    intro j
    simp only [Array.toList_setIfInBounds, List.getElem?_take, List.getElem?_drop, List.getElem?_set]
    have hx' : j < n * k → xs[j]? = cs.toList[o + j]? := fun hj => by rw [← hxx, List.getElem?_take, if_pos hj, List.getElem?_drop]
    by_cases hj : j < n * k
    · rw [if_pos hj]
      by_cases hjq : q = j
      · subst hjq
        have l1 : o + q < cs.toList.length := by simp; omega
        have l2 : q < xs.length := by omega
        rw [if_pos rfl, if_pos l1, if_pos rfl, if_pos l2]
      · rw [if_neg (by omega), if_neg hjq, hx' hj]
    · rw [if_neg hj, if_neg (by omega), List.getElem?_eq_none (by omega)]
  · intro bb off x hx2 hne
    by_cases hbb : bb = b
    · subst hbb
      rw [cell_of hb] at hx2
      rw [cell_of (hput_same hb), Array.getElem?_setIfInBounds]
      rw [if_neg (fun e => hne ⟨rfl, e.symm⟩)]; exact hx2
    · rw [cell_block (hput_other hbb)]; exact hx2

namespace V
variable {P : Program} {s : Slots} {h : Heap} {d : Option Tmp} {ty : TypeId} {pos : String} {af : Array Edge} {g : Option (Nat × Bool)} {x y : Operand} {t : TypeId}
theorem storeI {b o : Nat} {kk : IntKind} {u : Int} {cs cs' : Array Value} {e : TypeId} {fz : Nat × Nat} (hx : ev s x = .pointer (some ⟨b, o, none⟩)) (hy : ev s y = .int kk u) (ht : szB P t = some 1)
    (hb : h[b]? = some (.cells cs e fz)) (ho : o < cs.size) (hf : ¬ (fz.1 ≤ o ∧ o < fz.2)) (hc : cs.setIfInBounds o (.int kk u) = cs') : OpU P ⟨d, .store t x y, ty, pos, af, g⟩ s h (hput h b cs') := store hx hy ht rfl hb ho hf hc
theorem storeCI {e : TypeId} {b o n c k q : Nat} {xs : List Value} {kk : IntKind} {u : Int} (hx : ev s x = .pointer (some ⟨b, o + q, none⟩)) (hy : ev s y = .int kk u) (ht : szB P t = some 1) (hc : Cap h k e (.slice (some ⟨b, o, none⟩) n c) xs) (hq : q < n * k) :
    OpUR P ⟨d, .store t x y, ty, pos, af, g⟩ s h (Set1 h k e b o n c q xs (.int kk u)) := storeC hx hy ht rfl hc hq
theorem storeB {b o : Nat} {u : Bool} {cs cs' : Array Value} {e : TypeId} {fz : Nat × Nat} (hx : ev s x = .pointer (some ⟨b, o, none⟩)) (hy : ev s y = .bool u) (ht : szB P t = some 1)
    (hb : h[b]? = some (.cells cs e fz)) (ho : o < cs.size) (hf : ¬ (fz.1 ≤ o ∧ o < fz.2)) (hc : cs.setIfInBounds o (.bool u) = cs') : OpU P ⟨d, .store t x y, ty, pos, af, g⟩ s h (hput h b cs') := store hx hy ht rfl hb ho hf hc
theorem storeCB {e : TypeId} {b o n c k q : Nat} {xs : List Value} {u : Bool} (hx : ev s x = .pointer (some ⟨b, o + q, none⟩)) (hy : ev s y = .bool u) (ht : szB P t = some 1) (hc : Cap h k e (.slice (some ⟨b, o, none⟩) n c) xs) (hq : q < n * k) :
    OpUR P ⟨d, .store t x y, ty, pos, af, g⟩ s h (Set1 h k e b o n c q xs (.bool u)) := storeC hx hy ht rfl hc hq
theorem storeS {b o : Nat} {ua : Option Addr} {un um : Nat} {cs cs' : Array Value} {e : TypeId} {fz : Nat × Nat} (hx : ev s x = .pointer (some ⟨b, o, none⟩)) (hy : ev s y = .slice ua un um) (ht : szB P t = some 1)
    (hb : h[b]? = some (.cells cs e fz)) (ho : o < cs.size) (hf : ¬ (fz.1 ≤ o ∧ o < fz.2)) (hc : cs.setIfInBounds o (.slice ua un um) = cs') : OpU P ⟨d, .store t x y, ty, pos, af, g⟩ s h (hput h b cs') := store hx hy ht rfl hb ho hf hc
theorem storeCS {e : TypeId} {b o n c k q : Nat} {xs : List Value} {ua : Option Addr} {un um : Nat} (hx : ev s x = .pointer (some ⟨b, o + q, none⟩)) (hy : ev s y = .slice ua un um) (ht : szB P t = some 1) (hc : Cap h k e (.slice (some ⟨b, o, none⟩) n c) xs) (hq : q < n * k) :
    OpUR P ⟨d, .store t x y, ty, pos, af, g⟩ s h (Set1 h k e b o n c q xs (.slice ua un um)) := storeC hx hy ht rfl hc hq
theorem storeP {b o : Nat} {ua : Option Addr} {cs cs' : Array Value} {e : TypeId} {fz : Nat × Nat} (hx : ev s x = .pointer (some ⟨b, o, none⟩)) (hy : ev s y = .pointer ua) (ht : szB P t = some 1)
    (hb : h[b]? = some (.cells cs e fz)) (ho : o < cs.size) (hf : ¬ (fz.1 ≤ o ∧ o < fz.2)) (hc : cs.setIfInBounds o (.pointer ua) = cs') : OpU P ⟨d, .store t x y, ty, pos, af, g⟩ s h (hput h b cs') := store hx hy ht rfl hb ho hf hc
theorem storeCP {e : TypeId} {b o n c k q : Nat} {xs : List Value} {ua : Option Addr} (hx : ev s x = .pointer (some ⟨b, o + q, none⟩)) (hy : ev s y = .pointer ua) (ht : szB P t = some 1) (hc : Cap h k e (.slice (some ⟨b, o, none⟩) n c) xs) (hq : q < n * k) :
    OpUR P ⟨d, .store t x y, ty, pos, af, g⟩ s h (Set1 h k e b o n c q xs (.pointer ua)) := storeC hx hy ht rfl hc hq
theorem storeM {b o : Nat} {ur : Option Nat} {cs cs' : Array Value} {e : TypeId} {fz : Nat × Nat} (hx : ev s x = .pointer (some ⟨b, o, none⟩)) (hy : ev s y = .map ur) (ht : szB P t = some 1)
    (hb : h[b]? = some (.cells cs e fz)) (ho : o < cs.size) (hf : ¬ (fz.1 ≤ o ∧ o < fz.2)) (hc : cs.setIfInBounds o (.map ur) = cs') : OpU P ⟨d, .store t x y, ty, pos, af, g⟩ s h (hput h b cs') := store hx hy ht rfl hb ho hf hc
theorem storeCM {e : TypeId} {b o n c k q : Nat} {xs : List Value} {ur : Option Nat} (hx : ev s x = .pointer (some ⟨b, o + q, none⟩)) (hy : ev s y = .map ur) (ht : szB P t = some 1) (hc : Cap h k e (.slice (some ⟨b, o, none⟩) n c) xs) (hq : q < n * k) :
    OpUR P ⟨d, .store t x y, ty, pos, af, g⟩ s h (Set1 h k e b o n c q xs (.map ur)) := storeC hx hy ht rfl hc hq
theorem storeT {b o : Nat} {ut : ByteArray} {cs cs' : Array Value} {e : TypeId} {fz : Nat × Nat} (hx : ev s x = .pointer (some ⟨b, o, none⟩)) (hy : ev s y = .string ut) (ht : szB P t = some 1)
    (hb : h[b]? = some (.cells cs e fz)) (ho : o < cs.size) (hf : ¬ (fz.1 ≤ o ∧ o < fz.2)) (hc : cs.setIfInBounds o (.string ut) = cs') : OpU P ⟨d, .store t x y, ty, pos, af, g⟩ s h (hput h b cs') := store hx hy ht rfl hb ho hf hc
theorem storeCT {e : TypeId} {b o n c k q : Nat} {xs : List Value} {ut : ByteArray} (hx : ev s x = .pointer (some ⟨b, o + q, none⟩)) (hy : ev s y = .string ut) (ht : szB P t = some 1) (hc : Cap h k e (.slice (some ⟨b, o, none⟩) n c) xs) (hq : q < n * k) :
    OpUR P ⟨d, .store t x y, ty, pos, af, g⟩ s h (Set1 h k e b o n c q xs (.string ut)) := storeC hx hy ht rfl hc hq
end V

/-- Keys of a plain type. -/
structure KV {κ : Type} (kv : κ → Value) (d : TypeDesc) : Prop where
  inj : ∀ a b, kv a = kv b → a = b
  key : ∀ a, IsKey d (kv a)
theorem KV.int (k : IntKind) : KV (Value.int k) (.int k) := ⟨fun a b h => by injection h, fun _ => rfl⟩
theorem KV.string : KV Value.string .string := ⟨fun a b h => by injection h, fun _ => trivial⟩

section
variable {κ : Type}
def MapT (kv : κ → Value) (h : Heap) (r : Nat) (l : List (κ × Value)) : Prop :=
  ∃ es clock, h[r]? = some (.map es clock) ∧ es.toList.map (fun e => (e.key, e.val)) = l.map (fun p => (kv p.1, p.2)) ∧ Stamped es clock

theorem MapT.chg {kv : κ → Value} {F : Nat → Prop} {h h' : Heap} (x : Chg F h h') {r : Nat} {l : List (κ × Value)} (m : MapT kv h r l) (hf : ¬ F r) : MapT kv h' r l :=
  let ⟨es, c, hb, he, hs⟩ := m; ⟨es, c, x.block hb hf, he, hs⟩
theorem MapT.ext {kv : κ → Value} {h h' : Heap} (x : Ext h h') {r : Nat} {l : List (κ × Value)} (m : MapT kv h r l) : MapT kv h' r l := m.chg x fun f => f
theorem MapT.lt {kv : κ → Value} {h : Heap} {r : Nat} {l : List (κ × Value)} (m : MapT kv h r l) : r < h.size := let ⟨_, _, hb, _⟩ := m; block_lt hb
theorem MapT.new {kv : κ → Value} {h : Heap} {r : Nat} (hb : h[r]? = some (.map #[] 0)) : MapT kv h r ([] : List (κ × Value)) := ⟨#[], 0, hb, rfl, stamped_empty 0⟩

theorem ents_keys {kv : κ → Value} {es : Array MapEntry} {l : List (κ × Value)} (he : es.toList.map (fun e => (e.key, e.val)) = l.map (fun p => (kv p.1, p.2))) : es.toList.map (·.key) = l.map fun p => kv p.1 := by
  have := congrArg (List.map Prod.fst) he
  rw [List.map_map, List.map_map] at this
  exact this
theorem ents_at {kv : κ → Value} {es : Array MapEntry} {l : List (κ × Value)} (he : es.toList.map (fun e => (e.key, e.val)) = l.map (fun p => (kv p.1, p.2))) {i : Nat} {e : MapEntry} (hi : es.toList[i]? = some e) : ∃ p, l[i]? = some p ∧ e.key = kv p.1 ∧ e.val = p.2 := by
  have h1 := congrArg (fun x => x[i]?) he
  simp only [List.getElem?_map, hi, Option.map_some] at h1
  cases hl : l[i]? with
  | none => simp [hl] at h1
  | some p => simp [hl] at h1; exact ⟨p, rfl, h1.1, h1.2⟩
theorem ents_at' {kv : κ → Value} {es : Array MapEntry} {l : List (κ × Value)} (he : es.toList.map (fun e => (e.key, e.val)) = l.map (fun p => (kv p.1, p.2))) {i : Nat} {p : κ × Value} (hi : l[i]? = some p) : ∃ e, es.toList[i]? = some e ∧ e.key = kv p.1 ∧ e.val = p.2 := by
  have h1 := congrArg (fun x => x[i]?) he
  simp only [List.getElem?_map, hi, Option.map_some] at h1
  cases hl : es.toList[i]? with
  | none => simp [hl] at h1
  | some e => simp [hl] at h1; exact ⟨e, rfl, h1.1, h1.2⟩
end

section
variable {κ : Type}
theorem MapT.nodup {kv : κ → Value} {h : Heap} {r : Nat} {l : List (κ × Value)} (m : MapT kv h r l) : (l.map (·.1)).Nodup := by
  obtain ⟨es, c, _, he, hs⟩ := m
  have := hs.2.2
  rw [ents_keys he] at this
  unfold List.Nodup at this ⊢
  rw [List.pairwise_map] at this ⊢
  exact this.imp fun hne e => hne (by rw [e])

end

section
variable {κ : Type} [DecidableEq κ]
def aget (l : List (κ × Value)) (k : κ) : Option Value := (l.find? fun p => p.1 = k).map (·.2)
def aput : List (κ × Value) → κ → Value → List (κ × Value)
  | [], k, v => [(k, v)]
  | p :: l, k, v => if p.1 = k then (k, v) :: l else p :: aput l k v
def adel (l : List (κ × Value)) (k : κ) : List (κ × Value) := l.filter fun p => decide (p.1 ≠ k)

theorem aget_some {l : List (κ × Value)} {k : κ} {i : Nat} {v : Value} (hn : (l.map (·.1)).Nodup) (hi : l[i]? = some (k, v)) : aget l k = some v := by
  induction l generalizing i with
  | nil => simp at hi
  | cons p l ih =>
    unfold aget
    rw [List.map_cons, List.nodup_cons] at hn
    cases i with
    | zero => simp at hi; subst hi; simp
    | succ i =>
      simp only [List.getElem?_cons_succ] at hi
      have hne : p.1 ≠ k := fun e => hn.1 (List.mem_map.2 ⟨(k, v), List.mem_of_getElem? hi, e.symm⟩)
      have := ih hn.2 hi
      unfold aget at this
      simp [hne, this]
theorem aget_none {l : List (κ × Value)} {k : κ} (h : ∀ p ∈ l, p.1 ≠ k) : aget l k = none := by
  unfold aget
  rw [List.find?_eq_none.2 (fun p hp => by simpa using h p hp)]; rfl

/-- The key's place, or that it has none. -/
theorem MapT.find {kv : κ → Value} {d : TypeDesc} (K : KV kv d) {es : Array MapEntry} {l : List (κ × Value)} (he : es.toList.map (fun e => (e.key, e.val)) = l.map (fun p => (kv p.1, p.2))) (hn : (l.map (·.1)).Nodup) (k : κ) :
    (Instr.findNow d (kv k) es.toList 0 = some none ∧ aget l k = none ∧ ∀ p ∈ l, p.1 ≠ k) ∨ ∃ (i : Nat) (e : MapEntry), Instr.findNow d (kv k) es.toList 0 = some (some (i, e.val)) ∧ es.toList[i]? = some e ∧ e.key = kv k ∧ l[i]? = some (k, e.val) ∧ aget l k = some e.val := by
  have hk : ∀ x ∈ es.toList, IsKey d x.key := fun x hx => by
    obtain ⟨i, hi⟩ := List.mem_iff_getElem?.1 hx
    obtain ⟨p, _, h2, _⟩ := ents_at he hi
    rw [h2]; exact K.key _
  rcases findNow_spec (K.key k) es.toList 0 hk with ⟨h1, h2⟩ | ⟨j, e, h1, h2, h3⟩
  · left
    have : ∀ p ∈ l, p.1 ≠ k := fun p hp hpk => by
      obtain ⟨i, hi⟩ := List.mem_iff_getElem?.1 hp
      obtain ⟨e, h4, h5, _⟩ := ents_at' he hi
      exact h2 e (List.mem_of_getElem? h4) (by rw [h5, hpk])
    exact ⟨h1, aget_none this, this⟩
  · right
    obtain ⟨p, h4, h5, h6⟩ := ents_at he h2
    have : p.1 = k := K.inj _ _ (by rw [← h5, h3])
    have hp : l[j]? = some (k, e.val) := by rw [h4, ← this, h6]
    exact ⟨j, e, by simpa using h1, h2, h3, hp, aget_some hn hp⟩

theorem aput_none {l : List (κ × Value)} {k : κ} {v : Value} (h : ∀ p ∈ l, p.1 ≠ k) : aput l k v = l ++ [(k, v)] := by
  induction l with
  | nil => rfl
  | cons p l ih => simp [aput, h p List.mem_cons_self, ih (fun q hq => h q (List.mem_cons_of_mem _ hq))]
theorem aput_some {l : List (κ × Value)} {k : κ} {v u : Value} {i : Nat} (hn : (l.map (·.1)).Nodup) (hi : l[i]? = some (k, u)) : aput l k v = l.set i (k, v) := by
  induction l generalizing i with
  | nil => simp at hi
  | cons p l ih =>
    rw [List.map_cons, List.nodup_cons] at hn
    cases i with
    | zero => simp at hi; subst hi; simp [aput]
    | succ i =>
      simp only [List.getElem?_cons_succ] at hi
      have hne : p.1 ≠ k := fun e => hn.1 (List.mem_map.2 ⟨(k, u), List.mem_of_getElem? hi, e.symm⟩)
      simp [aput, hne, ih hn.2 hi]
theorem adel_some {l : List (κ × Value)} {k : κ} {u : Value} {i : Nat} (hn : (l.map (·.1)).Nodup) (hi : l[i]? = some (k, u)) : adel l k = l.eraseIdx i := by
  induction l generalizing i with
  | nil => simp at hi
  | cons p l ih =>
    rw [List.map_cons, List.nodup_cons] at hn
    cases i with
    | zero =>
      simp at hi; subst hi
      simp only [adel, List.eraseIdx_cons_zero]
      rw [List.filter_cons]
      simp
      intro a b hab e
      subst e
      exact hn.1 (List.mem_map.2 ⟨(a, b), hab, rfl⟩)
    | succ i =>
      simp only [List.getElem?_cons_succ] at hi
      have hne : p.1 ≠ k := fun e => hn.1 (List.mem_map.2 ⟨(k, u), List.mem_of_getElem? hi, e.symm⟩)
      have := ih hn.2 hi
      unfold adel at this ⊢
      rw [List.filter_cons, if_pos (by simpa using hne), this]
      rfl
theorem adel_none {l : List (κ × Value)} {k : κ} (h : ∀ p ∈ l, p.1 ≠ k) : adel l k = l := by
  unfold adel
  rw [List.filter_eq_self]
  intro p hp; simpa using h p hp

end

section
theorem map_erase {α β : Type} (f : α → β) : ∀ (l : List α) (i : Nat), (l.eraseIdx i).map f = (l.map f).eraseIdx i
  | [], _ => rfl
  | _ :: _, 0 => rfl
  | x :: l, i + 1 => by simp [map_erase f l i]
/-- A map's block, put anew. -/
theorem set_chg {h : Heap} {r : Nat} {o o' : Obj} (hb : h[r]? = some o) : Chg (fun x => x = r) h (h.setIfInBounds r o') ∧ (h.setIfInBounds r o')[r]? = some o' ∧ (h.setIfInBounds r o').size = h.size :=
  ⟨⟨by simp, fun b _ hf => by simp [Ne.symm hf]⟩, by simp [block_lt hb], by simp⟩
theorem At.set {E : Env} {h : Heap} {w : World} (a : At E h w) (r : Nat) (o : Obj) : At E (h.setIfInBounds r o) { w with heap := w.heap.setIfInBounds r o } := ⟨by simp [a.heap], a.os, a.tape, a.output⟩
end

namespace V
variable {κ : Type} [DecidableEq κ] {P : Program} {s : Slots} {h : Heap} {d : Option Tmp} {ty : TypeId} {pos : String} {af : Array Edge} {g : Option (Nat × Bool)} {x y c : Operand} {t u kt et : TypeId}

theorem lookup {kv : κ → Value} {dd : TypeDesc} (K : KV kv dd) {r : Nat} {l : List (κ × Value)} {k : κ} {z : Value} (hx : ev s x = .map (some r)) (hy : ev s y = kv k) (hm : MapT kv h r l) (ht : mpB P t = some (kt, et)) (hd : P.underlying kt = some dd) (hz : zrB P et = some z) :
    OpV P ⟨d, .lookup t x y false, ty, pos, af, g⟩ s h ((aget l k).getD z) := fun w hw => by
  have hn := hm.nodup
  obtain ⟨es, cl, hb, he, _⟩ := hm
  have hwb : w.heap[r]? = some (.map es cl) := by rw [hw]; exact hb
  rcases MapT.find K he hn k with ⟨h1, h2, _⟩ | ⟨i, e, h1, _, _, _, h2⟩
  · simp [execOp, hx, hy, Instr.lookup, run_und (mpB_iff ht), MapKept.run_getObj_map hwb, run_checkKey hd (K.key k), run_findKey hd h1, run_zrB hz, h2]
  · simp [execOp, hx, hy, Instr.lookup, run_und (mpB_iff ht), MapKept.run_getObj_map hwb, run_checkKey hd (K.key k), run_findKey hd h1, h2]
theorem lookupE {kv : κ → Value} {dd : TypeDesc} (K : KV kv dd) {r : Nat} {l : List (κ × Value)} {k : κ} {z v : Value} (hx : ev s x = .map (some r)) (hy : ev s y = kv k) (hm : MapT kv h r l) (ht : mpB P t = some (kt, et)) (hd : P.underlying kt = some dd) (hz : zrB P et = some z) (he : (aget l k).getD z = v) :
    OpV P ⟨d, .lookup t x y false, ty, pos, af, g⟩ s h v := he ▸ lookup K hx hy hm ht hd hz
theorem lookupOk {kv : κ → Value} {dd : TypeDesc} (K : KV kv dd) {r : Nat} {l : List (κ × Value)} {k : κ} {z : Value} (hx : ev s x = .map (some r)) (hy : ev s y = kv k) (hm : MapT kv h r l) (ht : mpB P t = some (kt, et)) (hd : P.underlying kt = some dd) (hz : zrB P et = some z) :
    OpV P ⟨d, .lookup t x y true, ty, pos, af, g⟩ s h (.tuple #[(aget l k).getD z, .bool (aget l k).isSome]) := fun w hw => by
  have hn := hm.nodup
  obtain ⟨es, cl, hb, he, _⟩ := hm
  have hwb : w.heap[r]? = some (.map es cl) := by rw [hw]; exact hb
  rcases MapT.find K he hn k with ⟨h1, h2, _⟩ | ⟨i, e, h1, _, _, _, h2⟩
  · simp [execOp, hx, hy, Instr.lookup, run_und (mpB_iff ht), MapKept.run_getObj_map hwb, run_checkKey hd (K.key k), run_findKey hd h1, run_zrB hz, h2]
  · simp [execOp, hx, hy, Instr.lookup, run_und (mpB_iff ht), MapKept.run_getObj_map hwb, run_checkKey hd (K.key k), run_findKey hd h1, h2]

theorem lookupOkE {kv : κ → Value} {dd : TypeDesc} (K : KV kv dd) {r : Nat} {l : List (κ × Value)} {k : κ} {z v : Value} {b : Bool} (hx : ev s x = .map (some r)) (hy : ev s y = kv k) (hm : MapT kv h r l) (ht : mpB P t = some (kt, et)) (hd : P.underlying kt = some dd) (hz : zrB P et = some z) (he : (aget l k).getD z = v) (hb : (aget l k).isSome = b) :
    OpV P ⟨d, .lookup t x y true, ty, pos, af, g⟩ s h (.tuple #[v, .bool b]) := by subst he hb; exact lookupOk K hx hy hm ht hd hz

/-- What a store into a map leaves. -/
structure Put (kv : κ → Value) (h : Heap) (r : Nat) (l' : List (κ × Value)) (h' : Heap) : Prop where
  map : MapT kv h' r l'
  chg : Chg (fun x => x = r) h h'
  size : h'.size = h.size

theorem run_mapUpdate {kv : κ → Value} {dd : TypeDesc} (K : KV kv dd) (hsb : ∀ a n, Instr.sameBits n (kv a) (kv a) = true) {r : Nat} {l : List (κ × Value)} {k : κ} {v : Value} (hm : MapT kv h r l) (ht : mpB P t = some (kt, et)) (hd : P.underlying kt = some dd) {E : Env} {w : World} (at' : At E h w) :
    ∃ h' w', Put kv h r (aput l k v) h' ∧ At E h' w' ∧ (Instr.mapUpdate t (.map (some r)) (kv k) v).run P w = .ok () w' := by
  have hn := hm.nodup
  obtain ⟨es, cl, hb, he, hs⟩ := hm
  have hwb : w.heap[r]? = some (.map es cl) := by rw [at'.heap]; exact hb
  rcases MapT.find K he hn k with ⟨h1, h2, h3⟩ | ⟨i, e, h1, h4, h5, h6, h2⟩
  · refine ⟨_, _, ?_, at'.set r (.map (es.push { key := kv k, val := v, born := cl }) (cl + 1)), ?_⟩
    · obtain ⟨c1, c2, c3⟩ := set_chg (o' := .map (es.push { key := kv k, val := v, born := cl }) (cl + 1)) hb
      refine ⟨⟨_, _, c2, ?_, ?_⟩, c1, c3⟩
      · rw [aput_none h3]; simp [he]
      · refine stamped_push hs ?_
        intro x hx e
        obtain ⟨i, hi⟩ := List.mem_iff_getElem?.1 hx
        obtain ⟨p, q1, q2, _⟩ := ents_at he hi
        exact h3 p (List.mem_of_getElem? q1) (K.inj _ _ (by rw [← q2, e]))
    · simp [Instr.mapUpdate, run_und (mpB_iff ht), MapKept.run_getObj_map hwb, run_checkKey hd (K.key k), run_findKey hd h1, run_setObj_map _ hwb]
  · have hei : es[i]? = some e := by rw [← Array.getElem?_toList]; exact h4
    refine ⟨_, _, ?_, at'.set r (.map (es.modify i fun e => { e with key := kv k, val := v }) cl), ?_⟩
    · obtain ⟨c1, c2, c3⟩ := set_chg (o' := .map (es.modify i fun e => { e with key := kv k, val := v }) cl) hb
      refine ⟨⟨_, _, c2, ?_, ?_⟩, c1, c3⟩
      · rw [aput_some hn h6]
        apply List.ext_getElem?
        intro j
        simp only [List.getElem?_map, Array.getElem?_toList, Array.getElem?_modify]
        have hj := congrArg (fun x => x[j]?) he
        simp only [List.getElem?_map, Array.getElem?_toList] at hj
        by_cases hij : i = j
        · subst hij
          have hil : i < l.length := (List.getElem?_eq_some_iff.1 h6).1
          simp [hei, hil]
        · simp [hij, hj]
      · exact stamped_modify hs i _ (fun _ _ => rfl) (fun x hx hxe => by rw [hei] at hxe; injection hxe with hxe; subst hxe; exact h5.symm)
    · have hb2 : Instr.sameBits 10000 e.key (kv k) = true := by rw [h5]; exact hsb k _
      simp [Instr.mapUpdate, run_und (mpB_iff ht), MapKept.run_getObj_map hwb, run_checkKey hd (K.key k), run_findKey hd h1, hei, Instr.keyThatStays, hb2, run_setObj_map _ hwb]

theorem mapUpdate {kv : κ → Value} {dd : TypeDesc} (K : KV kv dd) (hsb : ∀ a n, Instr.sameBits n (kv a) (kv a) = true) {r : Nat} {l : List (κ × Value)} {k : κ} {v : Value} (hx : ev s x = .map (some r)) (hy : ev s y = kv k) (hc : ev s c = v) (hm : MapT kv h r l) (ht : mpB P t = some (kt, et)) (hd : P.underlying kt = some dd) :
    OpUR P ⟨d, .mapUpdate t x y c, ty, pos, af, g⟩ s h (Put kv h r (aput l k v)) := fun E w at' => by
  obtain ⟨h', w', hp, at2, hr⟩ := run_mapUpdate (v := v) (k := k) K hsb hm ht hd at'
  exact ⟨h', w', hp, at2, by simp [execOp, hx, hy, hc, hr]⟩
theorem insert {kv : κ → Value} {dd : TypeDesc} (K : KV kv dd) (hsb : ∀ a n, Instr.sameBits n (kv a) (kv a) = true) {r : Nat} {l : List (κ × Value)} {k : κ} {v : Value} (hx : ev s x = .map (some r)) (hy : ev s y = kv k) (hc : ev s c = v) (hm : MapT kv h r l) (ht : mpB P t = some (kt, et)) (hd : P.underlying kt = some dd) :
    OpUR P ⟨d, .insert t x y c, ty, pos, af, g⟩ s h (Put kv h r (aput l k v)) := fun E w at' => by
  obtain ⟨h', w', hp, at2, hr⟩ := run_mapUpdate (v := v) (k := k) K hsb hm ht hd at'
  exact ⟨h', w', hp, at2, by simp [execOp, hx, hy, hc, hr]⟩
theorem sbI {k : IntKind} (a : Int) (n : Nat) : Instr.sameBits n (.int k a) (.int k a) = true := by cases n <;> simp [Instr.sameBits]
theorem sbT (a : ByteArray) (n : Nat) : Instr.sameBits n (.string a) (.string a) = true := by
  have h : (a == a) = true := (bytes_beq a a).2 rfl
  cases n <;> simp [Instr.sameBits, h]

theorem delete {kv : κ → Value} {dd : TypeDesc} (K : KV kv dd) {u' : TypeId} {r : Nat} {l : List (κ × Value)} {k : κ} (hx : ev s x = .map (some r)) (hy : ev s y = kv k) (hm : MapT kv h r l) (ht : mpB P t = some (kt, et)) (hd : P.underlying kt = some dd) :
    OpA P ⟨d, .call ⟨.builtin .delete, #[x, y], #[t, u']⟩, ty, pos, af, g⟩ s h (fun v h' => v = .tuple #[] ∧ Put kv h r (adel l k) h') := fun E w at' => by
  have hn := hm.nodup
  obtain ⟨es, cl, hb, he, hs⟩ := hm
  have hwb : w.heap[r]? = some (.map es cl) := by rw [at'.heap]; exact hb
  rcases MapT.find K he hn k with ⟨h1, h2, h3⟩ | ⟨i, e, h1, h4, h5, h6, h2⟩
  · refine ⟨_, _, _, ⟨rfl, ?_⟩, at'.set r (.map es cl), ?_⟩
    · obtain ⟨c1, c2, c3⟩ := set_chg (o' := .map es cl) hb
      exact ⟨⟨_, _, c2, by rw [adel_none h3]; exact he, hs⟩, c1, c3⟩
    · simp [execOp, resolve, invoke, builtin, hx, hy, Builtin.delete_, run_und (mpB_iff ht), MapKept.run_getObj_map hwb, run_checkKey hd (K.key k), run_findKey hd h1, run_setObj_map _ hwb]
  · have hi : i < es.size := by have := (List.getElem?_eq_some_iff.1 h4).1; simpa using this
    refine ⟨_, _, _, ⟨rfl, ?_⟩, at'.set r (.map (es.eraseIdxIfInBounds i) cl), ?_⟩
    · obtain ⟨c1, c2, c3⟩ := set_chg (o' := .map (es.eraseIdxIfInBounds i) cl) hb
      refine ⟨⟨_, _, c2, ?_, stamped_erase hs i⟩, c1, c3⟩
      rw [adel_some hn h6]
      unfold Array.eraseIdxIfInBounds
      rw [dif_pos hi, Array.toList_eraseIdx, map_erase, he, map_erase]
    · simp [execOp, resolve, invoke, builtin, hx, hy, Builtin.delete_, run_und (mpB_iff ht), MapKept.run_getObj_map hwb, run_checkKey hd (K.key k), run_findKey hd h1, run_setObj_map _ hwb]
end V
end Go.HL

namespace Go.HL
open Go Go.MapKept
open Go.ChangeMaps (setBlock)

theorem filter_idx {α β : Type} [DecidableEq β] (f : α → β) : ∀ {l : List α} {i : Nat} {e : α}, (l.map f).Nodup → l[i]? = some e → l.filter (fun x => decide (f x ≠ f e)) = l.eraseIdx i
  | [], _, _, _, h => by simp at h
  | x :: l, 0, e, hn, h => by
    simp at h; subst h
    rw [List.map_cons, List.nodup_cons] at hn
    rw [List.filter_cons]
    simp only [ne_eq, not_true_eq_false, decide_false, Bool.false_eq_true, if_false, List.eraseIdx_cons_zero]
    rw [List.filter_eq_self]
    intro y hy
    simp only [decide_eq_true_eq]
    exact fun h => hn.1 (List.mem_map.2 ⟨y, hy, h⟩)
  | x :: l, i + 1, e, hn, h => by
    rw [List.map_cons, List.nodup_cons] at hn
    simp only [List.getElem?_cons_succ] at h
    have hne : f x ≠ f e := fun hh => hn.1 (List.mem_map.2 ⟨e, List.mem_of_getElem? h, hh.symm⟩)
    rw [List.filter_cons, if_pos (by simpa using hne), filter_idx f hn.2 h]; rfl

section
variable {κ : Type}
/-- A loop over a map: its iterator's block, the map's, the map's entries, and those that are still to come. -/
structure Iter (kv : κ → Value) (h : Heap) (r bm : Nat) (l todo : List (κ × Value)) : Prop where
  ex : ∃ (es : Array MapEntry) (clock since : Nat) (seen : Array Nat) (c0 : Nat), h[r]? = some (.mapIter (some bm) since seen c0) ∧ h[bm]? = some (.map es clock) ∧ es.toList.map (fun e => (e.key, e.val)) = l.map (fun p => (kv p.1, p.2)) ∧ Stamped es clock ∧
    (∀ x ∈ es.toList, x.born < since) ∧ since ≤ c0 ∧ since ≤ clock ∧ (leftOf es seen).toList.map (fun e => (e.key, e.val)) = todo.map (fun p => (kv p.1, p.2))
/-- What the iterator gave last. -/
structure Cur (kv : κ → Value) (h : Heap) (r bm : Nat) (p : κ × Value) : Prop where
  ex : ∃ (es : Array MapEntry) (clock since : Nat) (seen : Array Nat) (e : MapEntry), h[r]? = some (.mapIter (some bm) since (seen.push e.born) clock) ∧ h[bm]? = some (.map es clock) ∧ e ∈ es.toList ∧ (es.toList.map (·.born)).Nodup ∧ e.key = kv p.1 ∧ e.val = p.2

theorem Iter.map {kv : κ → Value} {h : Heap} {r bm : Nat} {l todo : List (κ × Value)} (x : Iter kv h r bm l todo) : MapT kv h bm l :=
  let ⟨es, cl, _, _, _, _, h2, h3, h4, _⟩ := x.ex; ⟨es, cl, h2, h3, h4⟩
theorem Iter.ne {kv : κ → Value} {h : Heap} {r bm : Nat} {l todo : List (κ × Value)} (x : Iter kv h r bm l todo) : r ≠ bm := fun e => by
  obtain ⟨es, cl, si, se, c0, h1, h2, _⟩ := x.ex
  rw [e, h2] at h1; injection h1 with h1; cases h1
theorem Iter.it {kv : κ → Value} {h : Heap} {r bm : Nat} {l todo : List (κ × Value)} (x : Iter kv h r bm l todo) : ∃ si se c0, h[r]? = some (.mapIter (some bm) si se c0) :=
  let ⟨_, _, si, se, c0, h1, _⟩ := x.ex; ⟨si, se, c0, h1⟩
theorem Iter.lt {kv : κ → Value} {h : Heap} {r bm : Nat} {l todo : List (κ × Value)} (x : Iter kv h r bm l todo) : r < h.size :=
  let ⟨_, _, _, h1⟩ := x.it; block_lt h1
theorem Iter.chg {kv : κ → Value} {F : Nat → Prop} {h h' : Heap} (c : Chg F h h') {r bm : Nat} {l todo : List (κ × Value)} (x : Iter kv h r bm l todo) (h1 : ¬ F r) (h2 : ¬ F bm) : Iter kv h' r bm l todo :=
  let ⟨es, cl, si, se, c0, a, b, k⟩ := x.ex; ⟨es, cl, si, se, c0, c.block a h1, c.block b h2, k⟩
theorem Cur.chg {kv : κ → Value} {F : Nat → Prop} {h h' : Heap} (c : Chg F h h') {r bm : Nat} {p : κ × Value} (x : Cur kv h r bm p) (h1 : ¬ F r) (h2 : ¬ F bm) : Cur kv h' r bm p :=
  let ⟨es, cl, si, se, e, a, b, k⟩ := x.ex; ⟨es, cl, si, se, e, c.block a h1, c.block b h2, k⟩

/-- What a step of the loop gives. -/
structure MStep (kv : κ → Value) (h : Heap) (r bm : Nat) (l todo : List (κ × Value)) (i : Nat) (p : κ × Value) (h' : Heap) : Prop where
  at' : todo[i]? = some p
  iter : Iter kv h' r bm l (todo.eraseIdx i)
  cur : Cur kv h' r bm p
  chg : Chg (fun b => b = r) h h'
  size : h'.size = h.size
end
namespace V
variable {κ : Type} {P : Program} {s : Slots} {h : Heap} {d : Option Tmp} {ty : TypeId} {pos : String} {af : Array Edge} {g : Option (Nat × Bool)} {x : Operand} {t kt et : TypeId}

theorem range {kv : κ → Value} {r : Nat} {l : List (κ × Value)} (hx : ev s x = .map (some r)) (hm : MapT kv h r l) (ht : mpB P t = some (kt, et)) :
    OpA P ⟨d, .range t x, ty, pos, af, g⟩ s h (fun v h' => v = .pointer (some ⟨h.size, 0, none⟩) ∧ Iter kv h' h.size r l l ∧ Ext h h' ∧ h'.size = h.size + 1) := fun E w at' => by
  obtain ⟨es, cl, hb, he, hs⟩ := hm
  have hwb : w.heap[r]? = some (.map es cl) := by rw [at'.heap]; exact hb
  refine ⟨_, _, _, ⟨rfl, ?_, Ext.push _ _, by simp⟩, at'.alloc (.mapIter (some r) cl #[] cl), ?_⟩
  · refine ⟨⟨es, cl, cl, #[], cl, push_same _ _, push_other hb, he, hs, hs.1, Nat.le_refl _, Nat.le_refl _, ?_⟩⟩
    have : leftOf es #[] = es := by unfold leftOf; simp
    rw [this]; exact he
  · simp [execOp, hx, Instr.range, run_und (mpB_iff ht), MapKept.run_getObj_map hwb, at'.heap]

theorem next {kv : κ → Value} {r bm : Nat} {l todo : List (κ × Value)} (hx : ev s x = .pointer (some ⟨r, 0, none⟩)) (hi : Iter kv h r bm l todo) :
    OpA P ⟨d, .next x false, ty, pos, af, g⟩ s h (fun v h' => ∃ vs b, v = .tuple vs ∧ vs[0]? = some (.bool b) ∧ ((b = false ∧ todo = [] ∧ h' = h) ∨ (b = true ∧ ∃ i p, MStep kv h r bm l todo i p h'))) := fun E w at' => by
  obtain ⟨es, cl, si, se, c0, h1, h2, he, hs, ho, hsc, hcl, ht⟩ := hi.ex
  have w1 : w.heap[r]? = some (.mapIter (some bm) si se c0) := by rw [at'.heap]; exact h1
  have w2 : w.heap[bm]? = some (.map es cl) := by rw [at'.heap]; exact h2
  rcases run_next_at (P := P) w ty r bm si c0 se es cl w1 w2 ho hsc with ⟨h0, hr⟩ | ⟨e, hem, w', hw', hr⟩
  · refine ⟨_, h, w, ⟨#[.bool false], false, rfl, rfl, .inl ⟨rfl, ?_, rfl⟩⟩, at', by simp [execOp, hx, hr]⟩
    have : (leftOf es se).toList = [] := by rw [Array.eq_empty_of_size_eq_zero h0]
    rw [this] at ht
    cases todo with
    | nil => rfl
    | cons a b => simp at ht
  · obtain ⟨i, hi'⟩ := List.mem_iff_getElem?.1 hem
    obtain ⟨p, hp, hk, hv⟩ := ents_at ht hi'
    have hei : e ∈ es.toList := by unfold leftOf at hem; simp at hem; simpa using hem.1
    have hw2 : At E h w' := by rcases hw' with rfl | rfl; exact at'; exact ⟨at'.heap, at'.os, at'.tape, at'.output⟩
    refine ⟨_, _, _, ⟨#[.bool true, e.key, e.val], true, rfl, rfl, .inr ⟨rfl, i, p, hp, ?_, ?_, (set_chg (o' := .mapIter (some bm) si (se.push e.born) cl) h1).1, (set_chg h1).2.2⟩⟩, hw2.set r (.mapIter (some bm) si (se.push e.born) cl), by simp [execOp, hx, hr]; rfl⟩
    · refine ⟨⟨es, cl, si, se.push e.born, cl, (set_chg h1).2.1, (set_chg h1).1.block h2 (fun e => hi.ne e.symm), he, hs, ho, hcl, hcl, ?_⟩⟩
      have hn : ((leftOf es se).toList.map (·.born)).Nodup := by
        unfold leftOf
        rw [Array.toList_filter]
        exact hs.2.1.sublist ((List.filter_sublist).map _)
      have hl : (leftOf es (se.push e.born)).toList = (leftOf es se).toList.eraseIdx i := by
        rw [← filter_idx (·.born) hn hi']
        unfold leftOf
        rw [Array.toList_filter, Array.toList_filter, List.filter_filter]
        apply List.filter_congr
        intro x _
        simp [Bool.and_comm]
      rw [hl, map_erase, ht, map_erase]
    · exact ⟨⟨es, cl, si, se, e, (set_chg h1).2.1, (set_chg h1).1.block h2 (fun e => hi.ne e.symm), hei, hs.2.1, hk, hv⟩⟩
theorem entry {kv : κ → Value} {r bm : Nat} {p : κ × Value} (hx : ev s x = .pointer (some ⟨r, 0, none⟩)) (hc : Cur kv h r bm p) :
    OpV P ⟨d, .entry x, ty, pos, af, g⟩ s h (.tuple #[kv p.1, p.2]) := fun w hw => by
  obtain ⟨es, cl, si, se, e, h1, h2, h3, h4, h5, h6⟩ := hc.ex
  have := run_entry_at (P := P) w r bm si se es cl e (by rw [hw]; exact h1) (by rw [hw]; exact h2) h3 h4
  rw [← h5, ← h6]
  simp [execOp, hx, this]
end V
end Go.HL

namespace Go.HL
open Go

theorem run_items {P : Program} {e : TypeId} {k : IntKind} (he : P.underlying e = some (.int k)) (ha : agB P e = some false) (d : Nat) (l m : List Int) (w : World) : ∀ is : List Nat, (∀ i ∈ is, i < l.length ∧ i < m.length) →
    (Op.eqItems (d + 1) e 1 (l.map (Value.int k)).toArray (m.map (Value.int k)).toArray is).run P w = .ok (is.all fun i => decide (l[i]? = m[i]?)) w
  | [], _ => by simp [Op.eqItems]
  | i :: is, h => by
    obtain ⟨h1, h2⟩ := h i List.mem_cons_self
    have p1 : (part e (l.map (Value.int k)).toArray (i * 1)).run P w = .ok (.int k l[i]) w := by simp [part, run_agB ha, h1]
    have p2 : (part e (m.map (Value.int k)).toArray (i * 1)).run P w = .ok (.int k m[i]) w := by simp [part, run_agB ha, h2]
    have p3 : (Op.equalIn (d + 1) e (.int k l[i]) (.int k m[i])).run P w = .ok (l[i] == m[i]) w := by simp [Op.equalIn, run_und he]
    simp only [Op.eqItems, Sem.run_bind, p1, p2, p3, Result.andThen_ok]
    have ih := run_items he ha d l m w is fun j hj => h j (List.mem_cons_of_mem _ hj)
    by_cases hq : l[i] = m[i]
    · simp only [hq, beq_self_eq_true, Bool.not_true, Bool.false_eq_true, if_false, ih]
      simp [h1, h2, hq]
    · have : (l[i] == m[i]) = false := by simpa using hq
      simp [this, h1, h2, hq]
theorem all_eq {l m : List Int} {n : Nat} (hl : l.length = n) (hm : m.length = n) : ((List.range n).all fun i => decide (l[i]? = m[i]?)) = decide (l = m) := by
  by_cases h : l = m
  · subst h; simp
  · rw [decide_eq_false h]
    rw [List.all_eq_false]
    have : ∃ i, i < n ∧ ¬ l[i]? = m[i]? := by
      refine Classical.byContradiction fun hn => h (List.ext_getElem? fun i => ?_)
      by_cases hi : i < n
      · exact Classical.byContradiction fun hne => hn ⟨i, hi, hne⟩
      · rw [List.getElem?_eq_none (by omega), List.getElem?_eq_none (by omega)]
    obtain ⟨i, hi, hne⟩ := this
    exact ⟨i, by simpa using hi, by simpa using hne⟩
/-- An array of ints, in a block of its own. -/
def Arr (h : Heap) (t : TypeId) (b : Nat) (l : List Int) : Prop := h[b]? = some (.cells (l.map (Value.int .i64)).toArray t (0, 0))
theorem Arr.cell {h : Heap} {t : TypeId} {b : Nat} {l : List Int} (r : Arr h t b l) {q : Nat} (hq : q < l.length) : HL.cell h b (0 + q) = some (.int .i64 l[q]) := by
  rw [cell_of r]; simp [hq]
theorem Arr.cells {h : Heap} {t : TypeId} {b : Nat} {l : List Int} (r : Arr h t b l) : ∀ j v, (l.map (Value.int .i64))[j]? = some v → HL.cell h b (0 + j) = some v := cells0 r
theorem Arr.chg {F : Nat → Prop} {h h' : Heap} (c : Chg F h h') {t : TypeId} {b : Nat} {l : List Int} (r : Arr h t b l) (hf : ¬ F b) : Arr h' t b l := c.block r hf
theorem Arr.ext {h h' : Heap} (c : Ext h h') {t : TypeId} {b : Nat} {l : List Int} (r : Arr h t b l) : Arr h' t b l := c.block r fun f => f
theorem Arr.lt {h : Heap} {t : TypeId} {b : Nat} {l : List Int} (r : Arr h t b l) : b < h.size := block_lt r
structure ArrPut (h : Heap) (t : TypeId) (b : Nat) (l : List Int) (h' : Heap) : Prop where
  arr : Arr h' t b l
  chg : Chg (fun x => x = b) h h'
  size : h'.size = h.size
namespace V
variable {P : Program} {s : Slots} {h : Heap} {d : Option Tmp} {ty : TypeId} {pos : String} {af : Array Edge} {g : Option (Nat × Bool)} {x y : Operand} {t u : TypeId}
/-- The place of an array's cell, where a cell is one element. -/
theorem indexA {b o n : Nat} {e : TypeId} {kk : IntKind} {i : Int} (hx : ev s x = .pointer (some ⟨b, o, none⟩)) (hy : ev s y = .int kk i) (ht : arB P t = some (n, e)) (hk : szB P e = some 1) (hi : 0 ≤ i ∧ i < n) :
    OpV P ⟨d, .indexAddr t x y, ty, pos, af, g⟩ s h (.pointer (some ⟨b, o + i.toNat, none⟩)) := fun w _ => by
  have hadd : (⟨b, o, none⟩ : Addr).add (i.toNat * 1) = ⟨b, o + i.toNat, none⟩ := by unfold Addr.add; split <;> simp_all
  simp [execOp, hx, hy, Instr.indexAt, asIntOf, Instr.sureAddr, run_und (arB_iff ht), run_szB hk, hi]
  simpa using hadd
theorem arEql {n : Nat} {e : TypeId} {k : IntKind} {l m : List Int} {r : Bool} (hx : ev s x = .agg (l.map (Value.int k)).toArray) (hy : ev s y = .agg (m.map (Value.int k)).toArray) (ht : arB P t = some (n, e)) (he : inB P e = some k) (ha : agB P e = some false) (hc : szB P e = some 1) (hc' : P.cellsOf e = 1)
    (hg : P.eqGuardType P.depth t = false) (hl : l.length = n) (hm : m.length = n) (hr : decide (l = m) = r) : OpV P ⟨d, .binOp .eql t x y u, ty, pos, af, g⟩ s h (.bool r) := fun w _ => by
  subst hr
  have hguard : (eqGuard .eql t x y (.agg (l.map (Value.int k)).toArray) (.agg (m.map (Value.int k)).toArray)).run P w = .ok () w := by
    unfold eqGuard
    simp [hg]
  obtain ⟨i, hi, _⟩ := szB_iff hc
  have heq : (Op.equal t (.agg (l.map (Value.int k)).toArray) (.agg (m.map (Value.int k)).toArray)).run P w = .ok (decide (l = m)) w := by
    have h0 : (Op.equalIn (9998 + 2) t (.agg (l.map (Value.int k)).toArray) (.agg (m.map (Value.int k)).toArray)).run P w = .ok (decide (l = m)) w := by
      rw [run_equalIn_array w (9998 + 1) _ _ (arB_iff ht) hi, hc', run_items (inB_iff he) ha 9998 l m w _ (fun j hj => by simp at hj; omega), all_eq hl hm]
    exact h0
  simp [execOp, hx, hy, hguard, binOp, heq]
theorem storeArr {b q : Nat} {t' : TypeId} {l : List Int} {v : Int} (hx : ev s x = .pointer (some ⟨b, 0 + q, none⟩)) (hy : ev s y = .int .i64 v) (ht : szB P t = some 1) (ha : Arr h t' b l) (hq : q < l.length) :
    OpUR P ⟨d, .store t x y, ty, pos, af, g⟩ s h (ArrPut h t' b (l.set q v)) := fun E w at' => by
  obtain ⟨w', at2, hr⟩ := V.store (P := P) (s := s) (d := d) (ty := ty) (pos := pos) (af := af) (g := g) hx hy ht rfl ha (by simp; omega) (by simp) rfl E w at'
  refine ⟨_, w', ⟨?_, hput_chg _ _ _, hput_size _ _ _⟩, at2, hr⟩
  have := hput_same (cs' := (l.map (Value.int .i64)).toArray.setIfInBounds (0 + q) (.int .i64 v)) ha
  unfold Arr
  rw [this]
  simp [List.map_set]
end V
end Go.HL
