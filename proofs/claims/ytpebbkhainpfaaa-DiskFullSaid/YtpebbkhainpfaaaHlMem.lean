/- Slices with their capacity, append, copy and new blocks. Conditions: those that each fact names. -/
import Derived.Test.YtpebbkhainpfaaaHlData
import Derived.ArgAppend
namespace Go.HL
open Go

/-! ### Blocks that are written -/
def hput (h : Heap) (b : Nat) (cs : Array Value) : Heap := h.modify b fun
  | .cells _ e fz => .cells cs e fz
  | x => x

theorem hput_size (h : Heap) (b : Nat) (cs : Array Value) : (hput h b cs).size = h.size := by simp [hput]
theorem hput_same {h : Heap} {b : Nat} {cs cs' : Array Value} {e : TypeId} {fz : Nat × Nat} (hb : h[b]? = some (.cells cs e fz)) : (hput h b cs')[b]? = some (.cells cs' e fz) := by
  simp [hput, Array.getElem?_modify, hb]
theorem hput_other {h : Heap} {b b' : Nat} {cs : Array Value} (hb : b' ≠ b) : (hput h b cs)[b']? = h[b']? := by
  simp [hput, Array.getElem?_modify, Ne.symm hb]
theorem hput_chg (h : Heap) (b : Nat) (cs : Array Value) : Chg (fun x => x = b) h (hput h b cs) :=
  ⟨by rw [hput_size]; exact Nat.le_refl _, fun b' _ hf => hput_other hf⟩
theorem push_same (h : Heap) (o : Obj) : (h.push o)[h.size]? = some o := by simp
theorem push_other {h : Heap} {o : Obj} {b : Nat} {x : Obj} (hb : h[b]? = some x) : (h.push o)[b]? = some x := by
  have := (Array.getElem?_eq_some_iff.1 hb).1
  rw [Array.getElem?_push, if_neg (by omega)]; exact hb
theorem block_lt {h : Heap} {b : Nat} {x : Obj} (hb : h[b]? = some x) : b < h.size := (Array.getElem?_eq_some_iff.1 hb).1
theorem Chg.block {F : Nat → Prop} {h h' : Heap} (x : Chg F h h') {b : Nat} {o : Obj} (hb : h[b]? = some o) (hf : ¬ F b) : h'[b]? = some o := (x.same b (block_lt hb) hf).trans hb
theorem hput_other' {h : Heap} {b b' : Nat} {cs : Array Value} {o : Obj} (hb : h[b']? = some o) (hne : b' ≠ b) : (hput h b cs)[b']? = some o := (hput_other hne).trans hb

theorem At.push {E : Env} {h : Heap} {w : World} (a : At E h w) (o : Obj) : At E (h.push o) { w with heap := w.heap.push o } := ⟨by simp [a.heap], a.os, a.tape, a.output⟩
theorem At.alloc {E : Env} {h : Heap} {w : World} (a : At E h w) (o : Obj) : At E (h.push o) (w.alloc o) := a.push o
theorem At.drew {E : Env} {h : Heap} {w : World} (a : At E h w) : At E h w.drew := ⟨a.heap, a.os, a.tape, a.output⟩
theorem At.setRow {E : Env} {h : Heap} {w : World} (a : At E h w) (b : Nat) (cs : Array Value) : At E (hput h b cs) (w.setRow b cs) := ⟨by rw [← a.heap]; rfl, a.os, a.tape, a.output⟩

def spl (cs : List Value) (o : Nat) (vs : List Value) : List Value := cs.take o ++ vs ++ cs.drop (o + vs.length)
theorem spl_length {cs vs : List Value} {o : Nat} (h : o + vs.length ≤ cs.length) : (spl cs o vs).length = cs.length := by simp [spl]; omega
theorem spl_lt {cs vs : List Value} {o j : Nat} (hj : j < o) (h : o + vs.length ≤ cs.length) : (spl cs o vs)[j]? = cs[j]? := by
  unfold spl
  rw [List.append_assoc, List.getElem?_append_left (by simp; omega), List.getElem?_take, if_pos hj]
theorem spl_mid {cs vs : List Value} {o j : Nat} (hj : j < vs.length) (h : o + vs.length ≤ cs.length) : (spl cs o vs)[o + j]? = vs[j]? := by
  unfold spl
  rw [List.append_assoc, List.getElem?_append_right (by simp; omega), List.getElem?_append_left (by simp; omega)]
  congr 1; simp; omega
theorem spl_gt {cs vs : List Value} {o j : Nat} (hj : o + vs.length ≤ j) (h : o + vs.length ≤ cs.length) : (spl cs o vs)[j]? = cs[j]? := by
  unfold spl
  rw [List.getElem?_append_right (by simp; omega), List.getElem?_drop]
  congr 1; simp; omega

theorem setCells_row (b : Nat) (e : TypeId) (fz : Nat × Nat) : ∀ (vs : List Value) (o : Nat) (w : World) (cs : Array Value), w.heap[b]? = some (.cells cs e fz) → o + vs.length ≤ cs.size →
    w.setCells b o vs = w.setRow b (spl cs.toList o vs).toArray
  | [], o, w, cs, hb, _ => by
    simp only [World.setCells, spl, List.append_nil, List.length_nil, Nat.add_zero, List.take_append_drop, Array.toArray_toList]
    exact (setRow_self w b cs e fz hb).symm
  | v :: vs, o, w, cs, hb, hl => by
    simp only [List.length_cons] at hl
    have hb' : (w.setCell ⟨b, o, none⟩ v).heap[b]? = some (.cells (cs.setIfInBounds o v) e fz) := by
      simp [World.setCell, Array.getElem?_modify, hb]
    rw [World.setCells, setCells_row b e fz vs (o + 1) _ _ hb' (by simp; omega)]
    unfold World.setRow World.setCell
    simp only [World.mk.injEq, and_true]
    apply Array.ext_getElem?
    intro i
    simp only [Array.getElem?_modify]
    by_cases hi : b = i
    · subst hi
      simp only [if_true, hb, Option.map_some]
      congr 2
      simp only [spl, Array.toList_setIfInBounds, List.length_cons]
      congr 1
      have hol : o < cs.toList.length := by simp; omega
      rw [List.set_eq_take_append_cons_drop, if_pos hol]
      rw [List.take_append, List.drop_append]
      have e1 : List.take (o + 1) (cs.toList.take o) = cs.toList.take o := by rw [List.take_take]; congr 1; omega
      have e2 : o + 1 - (cs.toList.take o).length = 1 := by simp; omega
      have e3 : List.drop (o + 1 + vs.length) (cs.toList.take o) = [] := by rw [List.drop_eq_nil_iff]; simp; omega
      have e4 : o + 1 + vs.length - (cs.toList.take o).length = vs.length + 1 := by simp; omega
      rw [e1, e2, e3, e4]
      simp
      congr 1
      omega
    · simp [hi]

/-! ### Slices with their capacity: what may be written and appended to -/
def fzOk (fz : Nat × Nat) (n : Nat) : Prop := fz.1 ≤ fz.2 ∧ ∀ j, j < n → ¬ (fz.1 ≤ j ∧ j < fz.2)
theorem fzOk_zero (n : Nat) : fzOk (0, 0) n := ⟨Nat.le_refl _, fun j _ h => by omega⟩

def Cap (h : Heap) (k : Nat) (e : TypeId) (v : Value) (xs : List Value) : Prop :=
  ∃ a n c, v = .slice a n c ∧ n ≤ c ∧ c ≤ 9223372036854775807 ∧ xs.length = n * k ∧
    ((a = none ∧ c = 0) ∨ ∃ b o cs fz, a = some ⟨b, o, none⟩ ∧ h[b]? = some (.cells cs e fz) ∧ o + c * k ≤ cs.size ∧ fzOk fz cs.size ∧ (cs.toList.drop o).take (n * k) = xs)

def blkC (v : Value) (b : Nat) : Prop := ∃ o n c, v = .slice (some ⟨b, o, none⟩) n c

theorem Cap.nil (h : Heap) (k : Nat) (e : TypeId) : Cap h k e (.slice none 0 0) [] := ⟨none, 0, 0, rfl, Nat.le_refl _, by omega, by simp, .inl ⟨rfl, rfl⟩⟩
theorem Cap.sl {h : Heap} {k : Nat} {e : TypeId} {v : Value} {xs : List Value} (c : Cap h k e v xs) : Sl h k v xs := by
  obtain ⟨a, n, c, rfl, hn, hc, hl, hr⟩ := c
  refine ⟨a, n, c, rfl, hn, hc, hl, fun hp => ?_⟩
  rcases hr with ⟨rfl, rfl⟩ | ⟨b, o, cs, fz, rfl, hb, hs, hf, hx⟩
  · omega
  · refine ⟨b, o, rfl, fun i x hi => ?_⟩
    rw [cell_of hb, ← Array.getElem?_toList]
    rw [← hx, List.getElem?_take] at hi
    split at hi
    · rwa [List.getElem?_drop] at hi
    · cases hi
theorem Cap.chg {F : Nat → Prop} {h h' : Heap} (x : Chg F h h') {k : Nat} {e : TypeId} {v : Value} {xs : List Value} (c : Cap h k e v xs) (hf : ∀ b, blkC v b → ¬ F b) : Cap h' k e v xs := by
  obtain ⟨a, n, c, rfl, hn, hc, hl, hr⟩ := c
  refine ⟨a, n, c, rfl, hn, hc, hl, ?_⟩
  rcases hr with hr | ⟨b, o, cs, fz, rfl, hb, hs, hfz, hx⟩
  · exact .inl hr
  · exact .inr ⟨b, o, cs, fz, rfl, x.block hb (hf b ⟨o, n, c, rfl⟩), hs, hfz, hx⟩
theorem Cap.ext {h h' : Heap} (x : Ext h h') {k : Nat} {e : TypeId} {v : Value} {xs : List Value} (c : Cap h k e v xs) : Cap h' k e v xs := c.chg x fun _ _ f => f
/-- A new block that a slice covers. -/
theorem Cap.new {h : Heap} {k : Nat} {e : TypeId} {n : Nat} {cs : Array Value} {b : Nat} (hb : h[b]? = some (.cells cs e (0, 0))) (hs : cs.size = n * k) (hn : n ≤ 9223372036854775807) :
    Cap h k e (.slice (some ⟨b, 0, none⟩) n n) cs.toList :=
  ⟨_, n, n, rfl, Nat.le_refl _, hn, by simpa using hs, .inr ⟨b, 0, cs, (0, 0), rfl, hb, by omega, fzOk_zero _, by rw [List.drop_zero]; exact List.take_of_length_le (by simp [hs])⟩⟩
theorem Cap.le {h : Heap} {k : Nat} {e : TypeId} {a : Option Addr} {n c : Nat} {xs : List Value} (r : Cap h k e (.slice a n c) xs) : n ≤ c := by
  obtain ⟨a', n', c', hv, hn, _⟩ := r
  injection hv with h1 h2 h3; subst h1 h2 h3; exact hn
theorem Cap.bd {h : Heap} {k : Nat} {e : TypeId} {a : Option Addr} {n c : Nat} {xs : List Value} (r : Cap h k e (.slice a n c) xs) : c ≤ 9223372036854775807 := by
  obtain ⟨a', n', c', hv, _, hn, _⟩ := r
  injection hv with h1 h2 h3; subst h1 h2 h3; exact hn
theorem Cap.blk {h : Heap} {k : Nat} {e : TypeId} {v : Value} {xs : List Value} (c : Cap h k e v xs) {b : Nat} (hb : blkC v b) : ∃ cs fz, h[b]? = some (.cells cs e fz) := by
  obtain ⟨a, n, c, rfl, _, _, _, hr⟩ := c
  obtain ⟨o', n', c', hv⟩ := hb
  rcases hr with ⟨rfl, _⟩ | ⟨b', o, cs, fz, rfl, hb', _⟩
  · cases hv
  · injection hv with h1; injection h1 with h1; injection h1 with h1; subst h1; exact ⟨cs, fz, hb'⟩
theorem Cap.lt {h : Heap} {k : Nat} {e : TypeId} {v : Value} {xs : List Value} (c : Cap h k e v xs) {b : Nat} (hb : blkC v b) : b < h.size := by
  obtain ⟨a, n, c, rfl, _, _, _, hr⟩ := c
  obtain ⟨o', n', c', hv⟩ := hb
  rcases hr with ⟨rfl, _⟩ | ⟨b', o, cs, fz, rfl, hb', _⟩
  · cases hv
  · injection hv with h1; injection h1 with h1; injection h1 with h1; subst h1; exact block_lt hb'

/-- Blocks of cells keep their types, marks and sizes. -/
def Shape (h h' : Heap) : Prop := ∀ (b : Nat) (cs : Array Value) (e : TypeId) (fz : Nat × Nat), h[b]? = some (.cells cs e fz) → ∃ cs', h'[b]? = some (.cells cs' e fz) ∧ cs'.size = cs.size
theorem Shape.refl (h : Heap) : Shape h h := fun _ cs _ _ hb => ⟨cs, hb, rfl⟩
theorem Shape.trans {a b c : Heap} (x : Shape a b) (y : Shape b c) : Shape a c := fun k cs e fz hb => by
  obtain ⟨cs1, h1, s1⟩ := x k cs e fz hb
  obtain ⟨cs2, h2, s2⟩ := y k cs1 e fz h1
  exact ⟨cs2, h2, s2.trans s1⟩
theorem Shape.ext {h h' : Heap} (x : Ext h h') : Shape h h' := fun _ cs _ _ hb => ⟨cs, x.block hb (fun f => f), rfl⟩
theorem Shape.put {h : Heap} {b : Nat} {cs cs' : Array Value} {e : TypeId} {fz : Nat × Nat} (hb : h[b]? = some (.cells cs e fz)) (hs : cs'.size = cs.size) : Shape h (hput h b cs') := fun k ck ek fk hk => by
  by_cases e : k = b
  · subst e; rw [hb] at hk; injection hk with hk; injection hk with h1 h2 h3; subst h1 h2 h3
    exact ⟨cs', hput_same hb, hs⟩
  · exact ⟨ck, (hput_other e).trans hk, rfl⟩
/-- A slice whose cells are as they were, in blocks of the same shape. -/
theorem Cap.re {h h' : Heap} (x : Shape h h') {k : Nat} {e : TypeId} {a : Option Addr} {n c : Nat} {xs : List Value} (r : Cap h k e (.slice a n c) xs) (hc : ∀ b o j v, a = some ⟨b, o, none⟩ → j < n * k → cell h b (o + j) = some v → cell h' b (o + j) = some v) : Cap h' k e (.slice a n c) xs := by
  obtain ⟨a', n', c', hv, hn, hcm, hl, hr⟩ := r
  injection hv with h1 h2 h3; subst h1 h2 h3
  refine ⟨_, _, _, rfl, hn, hcm, hl, ?_⟩
  rcases hr with hr | ⟨b, o, cs, fz, rfl, hb, hs, hf, hx⟩
  · exact .inl hr
  · obtain ⟨cs', hb', hs'⟩ := x _ _ _ _ hb
    refine .inr ⟨b, o, cs', fz, rfl, hb', by omega, by rw [hs']; exact hf, ?_⟩
    apply List.ext_getElem?
    intro j
    by_cases hj : j < n * k
    · have hnk : n * k ≤ c * k := Nat.mul_le_mul_right _ hn
      have h1 : cell h b (o + j) = some (cs[o + j]'(by omega)) := by rw [cell_of hb]; simp
      have h2 := hc b o j _ rfl hj h1
      rw [cell_of hb'] at h2
      rw [← hx]
      rw [List.getElem?_take, if_pos hj, List.getElem?_take, if_pos hj, List.getElem?_drop, List.getElem?_drop, Array.getElem?_toList, Array.getElem?_toList, h2]
      simp
    · rw [List.getElem?_take, if_neg hj, List.getElem?_eq_none (by omega)]

/-- What an append leaves. -/
structure Appended (h : Heap) (k : Nat) (e : TypeId) (v : Value) (ys : List Value) (v' : Value) (h' : Heap) : Prop where
  cap : Cap h' k e v' ys
  chg : Chg (blkC v) h h'
  kept : ∀ b off x, cell h b off = some x → (∀ o n c, v = .slice (some ⟨b, o, none⟩) n c → off < o + n * k) → cell h' b off = some x
  place : ∀ b, blkC v' b → blkC v b ∨ h.size ≤ b
  shape : Shape h h'
  inplace : ∀ a n c q, v = .slice a n c → ys.length = q * k → q ≤ c → v' = .slice a q c
  grown : ∀ a n c q, v = .slice a n c → ys.length = q * k → c < q → ∀ b, blkC v' b → h.size ≤ b

theorem cell_kept_of_chg {F : Nat → Prop} {h h' : Heap} (x : Chg F h h') {b off : Nat} {v : Value} (hc : cell h b off = some v) (hf : ¬ F b) : cell h' b off = some v := x.cell hc hf

theorem frozen?_eq {w : World} {b j : Nat} {cs : Array Value} {e : TypeId} {fz : Nat × Nat} (hb : w.heap[b]? = some (.cells cs e fz)) (hf : fzOk fz cs.size) (hj : j < cs.size) : w.frozen? ⟨b, j, none⟩ = false := by
  obtain ⟨lo, hi⟩ := fz
  simp only [World.frozen?, hb]
  have := hf.2 j hj
  simp at this ⊢
  exact this

theorem run_append {P : Program} {t e ty : TypeId} {k bytes : Nat} {z : Value} (ht : elB P t = some e) (hk : szB P e = some k) (hby : byB P e = some bytes) (hz : zrB P e = some z) (hk0 : 0 < k) (hb0 : 0 < bytes) (hzk : z.cells.size = k)
    {h : Heap} {v nv : Value} {xs news : List Value} (hv : Cap h k e v xs) (hn : Sl h k nv news) (h1 : ∀ u ∈ news, u.oneCell' = true) (hfit : (xs.length + news.length) * bytes ≤ 140737488355328)
    {E : Env} {w : World} (at' : At E h w) :
    ∃ v' h' w', Appended h k e v (xs ++ news) v' h' ∧ At E h' w' ∧ (Builtin.append_ #[t, t] ty #[v, nv]).run P w = .ok v' w' := by
  obtain ⟨i, hi, hik⟩ := szB_iff hk
  have hib : i.bytes = bytes := by
    obtain ⟨i', hi', e'⟩ := byB_iff hby
    rw [hi] at hi'; injection hi' with hi'; subst hi'; exact e'
  have hiz : i.zero = some z := by
    obtain ⟨i', hi', e'⟩ := zrB_iff hz
    rw [hi] at hi'; injection hi' with hi'; subst hi'; exact e'
  have hut := elB_iff ht
  obtain ⟨a, n, c, rfl, hnc, hc, hl, hr⟩ := hv
  obtain ⟨a', m, c', rfl, hmc, hc', hl', hr'⟩ := hn
  have hnm : (n + m) * bytes ≤ 140737488355328 := by
    refine Nat.le_trans (Nat.mul_le_mul_right _ ?_) hfit
    rw [hl, hl', ← Nat.add_mul]
    exact Nat.le_mul_of_pos_right _ hk0
  have h63 : n + m ≤ 140737488355328 := Nat.le_trans (Nat.le_mul_of_pos_right _ hb0) hnm
  have hmax : n + m ≤ maxLen := by simp only [maxLen]; omega
  by_cases hm0 : m = 0
  · -- nothing is appended
    subst hm0
    have hnn : news = [] := List.eq_nil_of_length_eq_zero (by simpa using hl')
    subst hnn
    refine ⟨.slice a n c, h, w, ⟨by rw [List.append_nil]; exact ⟨a, n, c, rfl, hnc, hc, hl, hr⟩, Chg.refl _ _, fun _ _ _ hx _ => hx, fun b hb => .inl hb, Shape.refl _, ?_, ?_⟩, at', ?_⟩
    · intro a1 n1 c1 q hv hq _
      injection hv with h1 h2 h3; subst h1 h2 h3
      rw [List.append_nil, hl] at hq
      rw [Nat.eq_of_mul_eq_mul_right hk0 hq]
    · intro a1 n1 c1 q hv hq hc1
      injection hv with h1 h2 h3; subst h1 h2 h3
      rw [List.append_nil, hl] at hq
      have := Nat.eq_of_mul_eq_mul_right hk0 hq
      omega
    have hf : (Builtin.firstCells i.size 0 (.slice a' 0 c')).run P w = .ok #[] w := by
      cases a' <;> simp [Builtin.firstCells, loadCells, loadCellsFrom]
    cases a with
    | none => simp [Builtin.append_, run_underlying hut, sizeOf, typeInfo, hi, Builtin.lenOf, hnc, hf]
    | some ad => simp [Builtin.append_, run_underlying hut, sizeOf, typeInfo, hi, Builtin.lenOf, hnc, hf, storeCells]
  obtain ⟨b', o', rfl, hcell⟩ := hr' (by omega)
  have hnews : ∀ j u, news[j]? = some u → w.cell? ((⟨b', o', none⟩ : Addr).add j) = some u := fun j u hj => by
    rw [Addr.add_lit, cell?_eq, at'.heap]; exact hcell j u hj
  have hlm : news.length = m * i.size := by rw [hl', hik]
  rcases hr with ⟨rfl, rfl⟩ | ⟨b, o, cs, fz, rfl, hb, hs, hf, hx⟩
  · have hn0 : n = 0 := by omega
    subst hn0
    have hx0 : xs = [] := List.eq_nil_of_length_eq_zero (by simpa using hl)
    subst hx0
    have hrun := run_append_nil (P := P) w t ty e i z hut hi hiz ⟨b', o', none⟩ m c' news hlm hnews (by omega) (by omega) (by rw [hib]; simp only [Nat.zero_add] at hnm; omega)
    have hge := grownCap_ge w m 0 e
    have hcm := grownCap_le_maxLen w m 0 e (by simp only [maxLen]; omega)
    simp only [maxLen] at hcm
    refine ⟨_, _, _, ⟨?_, ?_, ?_, ?_, ?_, ?_, ?_⟩, (at'.drew).alloc _, hrun⟩
    · refine ⟨_, m, _, rfl, hge, hcm, by simpa using hl', .inr ⟨w.heap.size, 0, news.toArray ++ Builtin.zeroCells z.cells (grownCap w m 0 e - m), (0, 0), rfl, ?_, ?_, fzOk_zero _, ?_⟩⟩
      · rw [at'.heap]; exact push_same _ _
      · simp only [Array.size_append, List.size_toArray, size_zeroCells, hzk, hl', ← Nat.add_mul]; rw [Nat.zero_add]; apply Nat.le_of_eq; congr 1; omega
      · simp [← hl']
    · exact (Ext.push _ _).to
    · intro bb off x hx _
      exact (Ext.push h _).cell hx (fun f => f)
    · rintro bb ⟨oo, nn, cc, hv⟩
      right
      injection hv with h1; injection h1 with h1; injection h1 with h1
      rw [← h1, at'.heap]; exact Nat.le_refl _
    · exact Shape.ext (Ext.push _ _)
    · intro a1 n1 c1 q hv hq hqc
      injection hv with h1 h2 h3; subst h1 h2 h3
      have : m * k = q * k := by rw [← hq]; simp [hl']
      have := Nat.eq_of_mul_eq_mul_right hk0 this
      omega
    · rintro a1 n1 c1 q _ _ _ bb ⟨oo, nn, cc, hv⟩
      injection hv with h1; injection h1 with h1; injection h1 with h1
      rw [← h1, at'.heap]; exact Nat.le_refl _
  · by_cases hroom : n + m ≤ c
    · have hwb : w.heap[b]? = some (.cells cs e fz) := by rw [at'.heap]; exact hb
      have hfit2 : o + n * k + news.length ≤ cs.size := by
        rw [hl']
        have : (n + m) * k ≤ c * k := Nat.mul_le_mul_right _ hroom
        rw [Nat.add_mul] at this
        omega
      have hrun := run_append_room_cells (P := P) w t ty e i hut hi b o n c ⟨b', o', none⟩ m c' news hlm hnews h1 hroom
        (fun j hj => by rw [hik, cell?_eq, cell_of hwb]; simp; omega) (fun j hj => by rw [hik]; exact frozen?_eq hwb hf (by omega))
      rw [hik, setCells_row b e fz news (o + n * k) w cs hwb hfit2] at hrun
      refine ⟨_, _, _, ⟨?_, ?_, ?_, ?_, ?_, ?_, ?_⟩, at'.setRow _ _, hrun⟩
      · refine ⟨_, n + m, c, rfl, hroom, hc, by simp [hl, hl', Nat.add_mul], .inr ⟨b, o, (spl cs.toList (o + n * k) news).toArray, fz, rfl, hput_same hb, ?_, ?_, ?_⟩⟩
        · simp only [List.size_toArray]; rw [spl_length (by simpa using hfit2)]; simpa using hs
        · simp only [List.size_toArray]; rw [spl_length (by simpa using hfit2)]; simpa using hf
        · apply List.ext_getElem?
          intro j
          rw [List.getElem?_take]
          split
          · rename_i hj
            rw [List.getElem?_drop]
            by_cases hjn : j < n * k
            · rw [spl_lt (by omega) (by simpa using hfit2), List.getElem?_append_left (by omega), ← hx, List.getElem?_take, if_pos hjn, List.getElem?_drop]
            · have e1 : o + j = o + n * k + (j - n * k) := by omega
              rw [e1, spl_mid (by rw [hl']; rw [Nat.add_mul] at hj; omega) (by simpa using hfit2), List.getElem?_append_right (by omega), hl]
          · rename_i hj
            rw [List.getElem?_eq_none]
            simp [hl, hl']
            rw [Nat.add_mul] at hj; omega
      · exact (hput_chg h b _).mono fun x _ hxb => by subst hxb; exact ⟨o, n, c, rfl⟩
      · intro bb off x hx2 hlt
        by_cases hbb : bb = b
        · subst hbb
          rw [cell_of hb] at hx2
          rw [cell_of (hput_same hb)]
          have := hlt o n c rfl
          rw [← Array.getElem?_toList, spl_lt this (by simpa using hfit2), Array.getElem?_toList]
          exact hx2
        · rw [cell_block (hput_other hbb)]; exact hx2
      · rintro bb ⟨oo, nn, cc, hv⟩
        left
        injection hv with h1 h2 h3; injection h1 with h1; injection h1 with h1 h4
        subst h1
        exact ⟨o, n, c, rfl⟩
      · exact Shape.put hb (by simp only [List.size_toArray]; rw [spl_length (by simpa using hfit2)]; simp)
      · intro a1 n1 c1 q hv hq _
        injection hv with h1 h2 h3; subst h1 h2 h3
        have : (n + m) * k = q * k := by rw [← hq]; simp [hl, hl', Nat.add_mul]
        rw [Nat.eq_of_mul_eq_mul_right hk0 this]
      · intro a1 n1 c1 q hv hq hc1
        injection hv with h1 h2 h3; subst h1 h2 h3
        have : (n + m) * k = q * k := by rw [← hq]; simp [hl, hl', Nat.add_mul]
        have := Nat.eq_of_mul_eq_mul_right hk0 this
        omega
    · have holds : ∀ j u, xs[j]? = some u → w.cell? ((⟨b, o, none⟩ : Addr).add j) = some u := fun j u hj => by
        rw [Addr.add_lit, cell?_eq, at'.heap, cell_of hb, ← Array.getElem?_toList]
        rw [← hx, List.getElem?_take] at hj
        split at hj
        · rwa [List.getElem?_drop] at hj
        · cases hj
      have hrun := run_append_grow (P := P) w t ty e i z hut hi hiz ⟨b, o, none⟩ n c xs (by rw [hl, hik]) holds ⟨b', o', none⟩ m c' news hlm hnews (by omega) (by omega) (growslice_fits (by omega) (by rw [hib]; exact hnm))
      have hge := grownCap_ge w (n + m) c e
      have hcm := grownCap_le_maxLen w (n + m) c e hmax
      simp only [maxLen] at hcm
      refine ⟨_, _, _, ⟨?_, ?_, ?_, ?_, ?_, ?_, ?_⟩, (at'.drew).alloc _, hrun⟩
      · refine ⟨_, n + m, _, rfl, hge, hcm, by simp [hl, hl', Nat.add_mul], .inr ⟨w.heap.size, 0, xs.toArray ++ news.toArray ++ Builtin.zeroCells z.cells (grownCap w (n + m) c e - (n + m)), (0, 0), rfl, ?_, ?_, fzOk_zero _, ?_⟩⟩
        · rw [at'.heap]; exact push_same _ _
        · simp only [Array.size_append, List.size_toArray, size_zeroCells, hzk, hl', hl, ← Nat.add_mul]; rw [Nat.zero_add]; apply Nat.le_of_eq; congr 1; omega
        · simp only [List.drop_zero, Array.toList_append]
          have : (n + m) * k = (xs ++ news).length := by simp [hl, hl', Nat.add_mul]
          rw [this]
          exact List.take_left
      · exact (Ext.push _ _).to
      · intro bb off x hx _
        exact (Ext.push h _).cell hx (fun f => f)
      · rintro bb ⟨oo, nn, cc, hv⟩
        right
        injection hv with h1; injection h1 with h1; injection h1 with h1
        rw [← h1, at'.heap]; exact Nat.le_refl _
      · exact Shape.ext (Ext.push _ _)
      · intro a1 n1 c1 q hv hq hqc
        injection hv with h1 h2 h3; subst h1 h2 h3
        have : (n + m) * k = q * k := by rw [← hq]; simp [hl, hl', Nat.add_mul]
        have := Nat.eq_of_mul_eq_mul_right hk0 this
        omega
      · rintro a1 n1 c1 q _ _ _ bb ⟨oo, nn, cc, hv⟩
        injection hv with h1; injection h1 with h1; injection h1 with h1
        rw [← h1, at'.heap]; exact Nat.le_refl _
end Go.HL
namespace Go.HL
open Go
/-! ### Slices that a call makes and appends to -/
abbrev SV := Option Addr × Nat × Nat
@[reducible] def sv (x : SV) : Value := .slice x.1 x.2.1 x.2.2
theorem Cap.form {h : Heap} {k : Nat} {e : TypeId} {v : Value} {xs : List Value} (c : Cap h k e v xs) : ∃ x : SV, v = sv x := by
  obtain ⟨a, n, c, rfl, _⟩ := c; exact ⟨(a, n, c), rfl⟩
theorem Sl.form {h : Heap} {k : Nat} {v : Value} {xs : List Value} (c : Sl h k v xs) : ∃ x : SV, v = sv x := by
  obtain ⟨a, n, c, rfl, _⟩ := c; exact ⟨(a, n, c), rfl⟩

/-- A slice that was made behind h0, in a heap in which nothing of h0 has turned. -/
structure Own (h0 h : Heap) (k : Nat) (e : TypeId) (v : Value) (xs : List Value) : Prop where
  cap : Cap h k e v xs
  ext : Ext h0 h
  fresh : ∀ b, blkC v b → h0.size ≤ b

theorem Own.nil {h0 h : Heap} (x : Ext h0 h) (k : Nat) (e : TypeId) : Own h0 h k e (.slice none 0 0) [] :=
  ⟨Cap.nil _ _ _, x, fun b hb => by obtain ⟨o, n, c, hv⟩ := hb; cases hv⟩
theorem Own.push {h0 h h' : Heap} {k : Nat} {e : TypeId} {v : Value} {xs : List Value} (x : Own h0 h k e v xs) (hx : Ext h h') : Own h0 h' k e v xs := ⟨x.cap.ext hx, x.ext.trans hx, x.fresh⟩
theorem Own.app {h0 h h' : Heap} {k : Nat} {e : TypeId} {v v' : Value} {xs ys : List Value} (x : Own h0 h k e v xs) (a : Appended h k e v ys v' h') : Own h0 h' k e v' ys :=
  ⟨a.cap, x.ext.trans' a.chg (fun b hb hk => absurd (x.fresh b hk) (by omega)), fun b hb => by
    rcases a.place b hb with hb | hb
    · exact x.fresh b hb
    · exact Nat.le_trans x.ext.size hb⟩
/-- A slice over a whole new block. -/
theorem Own.new {h0 h : Heap} (x : Ext h0 h) {k : Nat} {e : TypeId} {n : Nat} {cs : Array Value} (hs : cs.size = n * k) (hn : n ≤ 9223372036854775807) :
    Own h0 (h.push (.cells cs e (0, 0))) k e (.slice (some ⟨h.size, 0, none⟩) n n) cs.toList :=
  ⟨Cap.new (push_same _ _) hs hn, x.trans (Ext.push _ _), fun b hb => by
    obtain ⟨o, n', c, hv⟩ := hb
    injection hv with h1; injection h1 with h1; injection h1 with h1
    rw [← h1]; exact x.size⟩
theorem Own.sl {h0 h : Heap} {k : Nat} {e : TypeId} {v : Value} {xs : List Value} (x : Own h0 h k e v xs) : Sl h k v xs := x.cap.sl
/-- What a literal of one element holds. -/
theorem sl_new {h : Heap} {k : Nat} {e : TypeId} {n : Nat} {cs : Array Value} (hs : cs.size = n * k) (hn : n ≤ 9223372036854775807) :
    Sl (h.push (.cells cs e (0, 0))) k (.slice (some ⟨h.size, 0, none⟩) n n) cs.toList := (Cap.new (push_same _ _) hs hn).sl
theorem Sl.bd {h : Heap} {k n c : Nat} {a : Option Addr} {xs : List Value} (r : Sl h k (.slice a n c) xs) : n ≤ 9223372036854775807 := by
  obtain ⟨a', n', c', hv, h4, h5, hr⟩ := r
  injection hv with h1 h2 h3; subst h1 h2 h3; omega
theorem Sl.cells {h : Heap} {k n c : Nat} {a : Option Addr} {xs : List Value} (r : Sl h k (.slice a n c) xs) : Row h k a n xs := by
  obtain ⟨a', n', c', hv, _, _, hr⟩ := r
  injection hv with h1 h2 h3; subst h1 h2 h3; exact hr

/-! ### Parts of slices -/
def cutA (a : Option Addr) (l m k : Nat) : Option Addr := if m = l then a else a.map (·.add (l * k))
theorem cutA_some {b o l m k : Nat} (h : m ≠ l) : cutA (some ⟨b, o, none⟩) l m k = some ⟨b, o + l * k, none⟩ := by
  unfold cutA; rw [if_neg h]; simp [Addr.add_lit]
theorem Row.cut {h : Heap} {k : Nat} {a : Option Addr} {n : Nat} {xs : List Value} (r : Row h k a n xs) {l q m : Nat} (hq : l + q ≤ n) (hm : n ≤ m) : Row h k (cutA a l m k) q ((xs.drop (l * k)).take (q * k)) := by
  have hlk : (l + q) * k ≤ n * k := Nat.mul_le_mul_right _ hq
  rw [Nat.add_mul] at hlk
  refine ⟨by simp [r.1]; omega, fun hp => ?_⟩
  obtain ⟨b, o, rfl, hc⟩ := r.2 (by omega)
  refine ⟨b, o + l * k, cutA_some (by omega), fun i x hi => ?_⟩
  rw [List.getElem?_take] at hi
  split at hi
  · rw [List.getElem?_drop] at hi
    rw [Nat.add_assoc]; exact hc _ _ hi
  · cases hi
theorem Sl.cut {h : Heap} {k : Nat} {a : Option Addr} {n c : Nat} {xs : List Value} (r : Sl h k (.slice a n c) xs) {l q : Nat} (hq : l + q ≤ n) : Sl h k (.slice (cutA a l c k) q (c - l)) ((xs.drop (l * k)).take (q * k)) := by
  obtain ⟨a', n', c', hv, hn, hcm, hr⟩ := r
  injection hv with h1 h2 h3; subst h1 h2 h3
  exact ⟨_, _, _, rfl, by omega, by omega, hr.cut hq hn⟩
theorem Cap.pre {h : Heap} {k : Nat} {e : TypeId} {a : Option Addr} {n c : Nat} {xs : List Value} (r : Cap h k e (.slice a n c) xs) {q : Nat} (hq : q ≤ n) : Cap h k e (.slice a q c) (xs.take (q * k)) := by
  obtain ⟨a', n', c', hv, hn, hcm, hl, hr⟩ := r
  injection hv with h1 h2 h3; subst h1 h2 h3
  have hqk : q * k ≤ n * k := Nat.mul_le_mul_right _ hq
  refine ⟨_, _, _, rfl, by omega, hcm, by rw [List.length_take, hl]; omega, ?_⟩
  rcases hr with hr | ⟨b, o, cs, fz, rfl, hb, hs, hf, hx⟩
  · exact .inl hr
  · refine .inr ⟨b, o, cs, fz, rfl, hb, hs, hf, ?_⟩
    rw [← hx, List.take_take]; congr 1; omega
/-- Any part of the capacity. -/
theorem Cap.sub {h : Heap} {k : Nat} {e : TypeId} {a : Option Addr} {n c : Nat} {xs : List Value} (r : Cap h k e (.slice a n c) xs) {l q : Nat} (hq : l + q ≤ c) (hlc : l < c) : ∃ zs, Cap h k e (.slice (cutA a l c k) q (c - l)) zs := by
  obtain ⟨a', n', c', hv, hn, hcm, hl, hr⟩ := r
  injection hv with h1 h2 h3; subst h1 h2 h3
  rcases hr with ⟨rfl, rfl⟩ | ⟨b, o, cs, fz, rfl, hb, hs, hf, hx⟩
  · omega
  · have h1 : (l + q) * k ≤ c * k := Nat.mul_le_mul_right _ hq
    have h2 : (l + (c - l)) * k = c * k := by congr 1; omega
    rw [Nat.add_mul] at h1 h2
    exact ⟨(cs.toList.drop (o + l * k)).take (q * k), _, _, _, rfl, by omega, by omega, by simp; omega, .inr ⟨b, o + l * k, cs, fz, cutA_some (by omega), hb, by omega, hf, rfl⟩⟩

/-- Cells that were stored at a slice's head. -/
structure Stored (h : Heap) (k : Nat) (e : TypeId) (v : Value) (ys : List Value) (h' : Heap) : Prop where
  cap : Cap h' k e v ys
  chg : Chg (blkC v) h h'
  kept : ∀ b off x, cell h b off = some x → (∀ o n c, v = .slice (some ⟨b, o, none⟩) n c → off < o ∨ o + n * k ≤ off) → cell h' b off = some x
  shape : Shape h h'
  size : h'.size = h.size

theorem run_storeSl {P : Program} {h : Heap} {k : Nat} {e : TypeId} {b o n c : Nat} {xs vs : List Value} (r : Cap h k e (.slice (some ⟨b, o, none⟩) n c) xs) (hl : vs.length ≤ n * k) (h1 : ∀ u ∈ vs, u.oneCell' = true) {E : Env} {w : World} (at' : At E h w) :
    ∃ h' w', Stored h k e (.slice (some ⟨b, o, none⟩) n c) (vs ++ xs.drop vs.length) h' ∧ At E h' w' ∧ (storeCells ⟨b, o, none⟩ vs).run P w = .ok () w' := by
  obtain ⟨a', n', c', hv, hn, hcm, hxl, hr⟩ := r
  injection hv with g1 g2 g3; subst g1 g2 g3
  rcases hr with ⟨hbad, _⟩ | ⟨b', o', cs, fz, hab, hb, hs, hf, hx⟩
  · cases hbad
  injection hab with hab; injection hab with g1 g2; subst g1 g2
  have hwb : w.heap[b]? = some (.cells cs e fz) := by rw [at'.heap]; exact hb
  have hnk : n * k ≤ c * k := Nat.mul_le_mul_right _ hn
  have hfit : o + vs.length ≤ cs.toList.length := by simp; omega
  have hst := run_storeCells_cells (P := P) b o vs 0 w (fun j hj => by rw [cell?_eq, cell_of hwb]; simp; omega) (fun j hj => frozen?_eq hwb hf (by omega)) h1
  simp only [Nat.add_zero] at hst
  rw [setCells_row b e fz vs o w cs hwb (by omega)] at hst
  refine ⟨_, _, ⟨?_, ?_, ?_, ?_, hput_size _ _ _⟩, at'.setRow _ _, hst⟩
  · refine ⟨_, _, _, rfl, hn, hcm, by simp [hxl]; omega, .inr ⟨b, o, (spl cs.toList o vs).toArray, fz, rfl, hput_same hb, ?_, ?_, ?_⟩⟩
    · simp only [List.size_toArray]; rw [spl_length hfit]; simpa using hs
    · simp only [List.size_toArray]; rw [spl_length hfit]; simpa using hf
    · apply List.ext_getElem?
      intro j
      rw [List.getElem?_take]
      split
      · rename_i hj
        rw [List.getElem?_drop]
        by_cases hjv : j < vs.length
        · rw [spl_mid hjv hfit, List.getElem?_append_left hjv]
        · rw [spl_gt (by omega) hfit, List.getElem?_append_right (by omega), List.getElem?_drop, ← hx, List.getElem?_take, if_pos (by omega), List.getElem?_drop]
          congr 1; omega
      · rename_i hj
        rw [List.getElem?_eq_none]; simp [hxl]; omega
  · exact (hput_chg h b _).mono fun x _ hxb => by subst hxb; exact ⟨o, n, c, rfl⟩
  · intro bb off x hx2 hlt
    by_cases hbb : bb = b
    · subst hbb
      rw [cell_of hb] at hx2
      rw [cell_of (hput_same hb)]
      have := hlt o n c rfl
      rw [← Array.getElem?_toList]
      rcases this with h3 | h3
      · rw [spl_lt h3 hfit, Array.getElem?_toList]; exact hx2
      · rw [spl_gt (by omega) hfit, Array.getElem?_toList]; exact hx2
    · rw [cell_block (hput_other hbb)]; exact hx2
  · exact Shape.put hb (by simp only [List.size_toArray]; rw [spl_length hfit]; simp)
end Go.HL
