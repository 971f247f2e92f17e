/- The operations that make or turn memory, as rules of the logic. Conditions: those that each rule names. -/
import Derived.Test.YtpebbkhainpfaaaHlMem
namespace Go.HL
open Go
namespace V
variable {P : Program} {s : Slots} {h : Heap} {d : Option Tmp} {ty : TypeId} {pos : String} {af : Array Edge} {g : Option (Nat × Bool)} {x y c : Operand} {t u : TypeId}

theorem append {e : TypeId} {k bytes : Nat} {z v nv : Value} {xs news : List Value} (hx : ev s x = v) (hy : ev s y = nv) (ht : elB P t = some e) (hk : szB P e = some (k + 1)) (hby : byB P e = some (bytes + 1)) (hz : zrB P e = some z) (hzk : z.cells.size = k + 1)
    (hv : Cap h (k + 1) e v xs) (hn : Sl h (k + 1) nv news) (h1 : ∀ u ∈ news, u.oneCell' = true) (hfit : (xs.length + news.length) * (bytes + 1) ≤ 140737488355328) :
    OpA P ⟨d, .call ⟨.builtin .append, #[x, y], #[t, t]⟩, ty, pos, af, g⟩ s h (fun v' h' => Appended h (k + 1) e v (xs ++ news) v' h') := fun E w at' => by
  obtain ⟨v', h', w', ha, at2, hr⟩ := run_append (ty := ty) ht hk hby hz (by omega) (by omega) hzk hv hn h1 hfit at'
  refine ⟨v', h', w', ha, at2, ?_⟩
  simp [execOp, resolve, invoke, builtin, hx, hy, hr]

theorem alloc {z : Value} {cs : Array Value} (hz : zrB P t = some z) (hc : z.cells = cs) : OpE P ⟨d, .alloc t, ty, pos, af, g⟩ s h (.pointer (some ⟨h.size, 0, none⟩)) (h.push (.cells cs t (0, 0))) := fun E w at' => by
  refine ⟨_, at'.alloc (.cells cs t (0, 0)), ?_⟩
  simp [execOp, Instr.alloc, run_zrB hz, newVar, newRow, hc, at'.heap]
theorem box {v : Value} {cs : Array Value} (hx : ev s x = v) (hc : v.cells = cs) : OpE P ⟨d, .box t x, ty, pos, af, g⟩ s h (.pointer (some ⟨h.size, 0, none⟩)) (h.push (.cells cs t (0, 0))) := fun E w at' => by
  refine ⟨_, at'.alloc (.cells cs t (0, 0)), ?_⟩
  simp [execOp, Instr.box, newVar, newRow, hc, at'.heap, hx]
theorem boxI {k : IntKind} {n : Int} (hx : ev s x = .int k n) : OpE P ⟨d, .box t x, ty, pos, af, g⟩ s h (.pointer (some ⟨h.size, 0, none⟩)) (h.push (.cells #[.int k n] t (0, 0))) := box hx rfl
theorem boxB {b : Bool} (hx : ev s x = .bool b) : OpE P ⟨d, .box t x, ty, pos, af, g⟩ s h (.pointer (some ⟨h.size, 0, none⟩)) (h.push (.cells #[.bool b] t (0, 0))) := box hx rfl
theorem boxS {a : Option Addr} {n m : Nat} (hx : ev s x = .slice a n m) : OpE P ⟨d, .box t x, ty, pos, af, g⟩ s h (.pointer (some ⟨h.size, 0, none⟩)) (h.push (.cells #[.slice a n m] t (0, 0))) := box hx rfl
theorem boxP {a : Option Addr} (hx : ev s x = .pointer a) : OpE P ⟨d, .box t x, ty, pos, af, g⟩ s h (.pointer (some ⟨h.size, 0, none⟩)) (h.push (.cells #[.pointer a] t (0, 0))) := box hx rfl
theorem boxT {b : ByteArray} (hx : ev s x = .string b) : OpE P ⟨d, .box t x, ty, pos, af, g⟩ s h (.pointer (some ⟨h.size, 0, none⟩)) (h.push (.cells #[.string b] t (0, 0))) := box hx rfl
theorem boxA {cs : Array Value} (hx : ev s x = .agg cs) : OpE P ⟨d, .box t x, ty, pos, af, g⟩ s h (.pointer (some ⟨h.size, 0, none⟩)) (h.push (.cells cs t (0, 0))) := box hx rfl
theorem makeMap : OpE P ⟨d, .makeMap t none, ty, pos, af, g⟩ s h (.map (some h.size)) (h.push (.map #[] 0)) := fun E w at' => by
  refine ⟨_, at'.alloc (.map #[] 0), ?_⟩
  simp [execOp, Instr.makeMap, at'.heap]

/-- A slice literal of elements of k cells. -/
theorem buildSliceF {n k : Nat} {e : TypeId} {z : Value} {l : List (Nat × Operand)} {cs : Array Value} (ht : elB P t = some e) (hk : szB P e = some k) (hz : zrB P e = some z) (hnk : Nat.ble (n * k) 16777216 = true)
    (hf : Instr.fill (fun i => some (i * k, k)) ((Array.range (n * k)).map (z.cells[· % z.cells.size]!)) (l.map fun p => (p.1, ev s p.2)) = some cs) :
    OpE P ⟨d, .buildSlice t n l.toArray, ty, pos, af, g⟩ s h (.slice (some ⟨h.size, 0, none⟩) n n) (h.push (.cells cs e (0, 0))) := fun E w at' => by
  refine ⟨_, at'.alloc (.cells cs e (0, 0)), ?_⟩
  have hnk' := Nat.le_of_ble_eq_true hnk
  have h0 : ¬ 16777216 < n * k := by omega
  by_cases hz0 : n * k = 0
  · have r0 : Array.range 0 = #[] := rfl
    simp only [hz0, r0, Array.map_empty] at hf
    simp [execOp, Instr.buildSlice, run_und (elB_iff ht), run_szB hk, hz0, r0, hf, newRow, at'.heap]
  · simp [execOp, Instr.buildSlice, run_und (elB_iff ht), run_szB hk, h0, hz0, run_zrB hz, hf, newRow, at'.heap]

def idx : Nat → List Operand → List (Nat × Operand)
  | _, [] => []
  | i, x :: l => (i, x) :: idx (i + 1) l
theorem fold_set (o : Nat) : ∀ (vs : List Value) (j : Nat) (cs : Array Value), o + j + vs.length ≤ cs.size →
    ((vs.zipIdx j).foldl (fun cs (c, j) => cs.setIfInBounds (o + j) c) cs).toList = spl cs.toList (o + j) vs
  | [], j, cs, _ => by simp [spl]
  | v :: vs, j, cs, hl => by
    simp only [List.length_cons] at hl
    simp only [List.zipIdx_cons, List.foldl_cons]
    rw [fold_set o vs (j + 1) _ (by simp; omega)]
    apply List.ext_getElem?
    intro i
    have hl2 : o + (j + 1) + vs.length ≤ (cs.setIfInBounds (o + j) v).toList.length := by simp; omega
    have hl3 : o + j + (v :: vs).length ≤ cs.toList.length := by simp; omega
    by_cases h1 : i < o + j
    · rw [spl_lt (by omega) hl2, spl_lt h1 hl3]
      simp [show ¬ (o + j = i) by omega]
    · by_cases h2 : i = o + j
      · subst h2
        rw [spl_lt (by omega) hl2]
        have := spl_mid (cs := cs.toList) (vs := v :: vs) (o := o + j) (j := 0) (by simp) hl3
        simp at this
        rw [this]
        simp [show o + j < cs.size by omega]
      · by_cases h3 : i < o + j + 1 + vs.length
        · have e1 : i = o + (j + 1) + (i - (o + j + 1)) := by omega
          have e2 : i = o + j + (i - (o + j)) := by omega
          rw [e1, spl_mid (by omega) hl2]
          rw [show o + (j + 1) + (i - (o + j + 1)) = o + j + (i - (o + j)) by omega, spl_mid (by simp; omega) hl3]
          rw [show i - (o + j) = (i - (o + j + 1)) + 1 by omega]
          rfl
        · rw [spl_gt (by omega) hl2, spl_gt (by simp; omega) hl3]
          simp [show ¬ (o + j = i) by omega]
theorem fill_idx {k : Nat} : ∀ (xs : List Operand) (i : Nat) (cs : Array Value), (∀ x ∈ xs, (ev s x).cells.size = k) → cs.size = (i + xs.length) * k →
    Instr.fill (fun i => some (i * k, k)) cs ((idx i xs).map fun p => (p.1, ev s p.2)) = some (cs.toList.take (i * k) ++ xs.flatMap fun x => (ev s x).cells.toList).toArray
  | [], i, cs, _, hs => by
    simp only [idx, List.map_nil, Instr.fill, List.flatMap_nil, List.append_nil, List.length_nil, Nat.add_zero] at hs ⊢
    rw [List.take_of_length_le (by simp [hs])]
  | x :: xs, i, cs, hx, hs => by
    have h0 := hx x List.mem_cons_self
    simp only [idx, List.map_cons, Instr.fill]
    have hle : i * k + k ≤ cs.size := by rw [hs]; simp [Nat.add_mul]
    have c1 : ((ev s x).cells.size ≠ k || i * k + (ev s x).cells.size > cs.size) = false := by simp [h0]; omega
    have hfold := fold_set (i * k) (ev s x).cells.toList 0 cs (by simp [h0]; omega)
    simp only [Nat.add_zero] at hfold
    have hsz : ((ev s x).cells.zipIdx.foldl (fun cs (c, j) => cs.setIfInBounds (i * k + j) c) cs) = (spl cs.toList (i * k) (ev s x).cells.toList).toArray := by
      rw [← hfold, Array.toArray_toList, ← Array.foldl_toList, Array.toList_zipIdx]
    simp only [c1, Bool.false_eq_true, if_false]
    rw [hsz, fill_idx xs (i + 1) _ (fun y hy => hx y (List.mem_cons_of_mem _ hy)) (by simp only [List.size_toArray]; rw [spl_length (by simp [h0]; omega)]; simp [hs]; congr 1; omega)]
    congr 2
    simp only [List.flatMap_cons]
    rw [← List.append_assoc]
    congr 1
    unfold spl
    have e1 : (i + 1) * k = (cs.toList.take (i * k) ++ (ev s x).cells.toList).length := by simp [h0, Nat.add_mul]; omega
    rw [e1, List.take_left]
def AllSz (s : Slots) (k : Nat) : List Operand → Prop
  | [] => True
  | x :: xs => (ev s x).cells.size = k ∧ AllSz s k xs
theorem AllSz.all {k : Nat} : ∀ {xs : List Operand}, AllSz s k xs → ∀ x ∈ xs, (ev s x).cells.size = k
  | x :: xs, h, y, hy => by
    rcases List.mem_cons.1 hy with rfl | hy
    · exact h.1
    · exact AllSz.all h.2 y hy
theorem buildSlice (xs : List Operand) {n k : Nat} {e : TypeId} {z : Value} {l : List (Nat × Operand)} {cs : Array Value} (ht : elB P t = some e) (hk : szB P e = some k) (hz : zrB P e = some z) (hl : l = idx 0 xs) (hn : n = xs.length) (hnk : Nat.ble (n * k) 16777216 = true)
    (hx : AllSz s k xs) (hcs : (xs.flatMap fun x => (ev s x).cells.toList) = cs.toList) :
    OpE P ⟨d, .buildSlice t n l.toArray, ty, pos, af, g⟩ s h (.slice (some ⟨h.size, 0, none⟩) n n) (h.push (.cells cs e (0, 0))) := by
  refine buildSliceF ht hk hz hnk ?_
  subst hl hn
  rw [fill_idx xs 0 _ hx.all (by simp), hcs]
  simp

/-- A struct's literal: the fields' places, as pairs of an offset and a number of cells. -/
def plB (P : Program) (t : TypeId) : Option (List (Nat × Nat)) := match P.underlying t with
  | some (.struct fs) => fs.toList.mapM fun f => (P.info? f.type).map fun i => (f.offset, i.size)
  | _ => none
theorem run_places {P : Program} {w : World} : ∀ {l : List Field} {ps : List (Nat × Nat)}, l.mapM (fun f => (P.info? f.type).map fun i => (f.offset, i.size)) = some ps →
    (l.mapM fun (f : Field) => (do pure (f.offset, ← sizeOf f.type) : Sem (Nat × Nat))).run P w = .ok ps w
  | [], ps, h => by simp at h; subst h; simp
  | f :: l, ps, h => by
    simp only [List.mapM_cons, Option.bind_eq_bind, Option.bind_eq_some_iff] at h
    obtain ⟨p, hp, qs, hq, hps⟩ := h
    simp at hps
    subst hps
    have ih := run_places (w := w) hq
    cases hi : P.info? f.type with
    | none => simp [hi] at hp
    | some i =>
      simp [hi] at hp
      subst hp
      simp [List.mapM_cons, sizeOf, typeInfo, hi]
      simp [sizeOf, typeInfo] at ih
      simp [ih]
theorem build {l : List (Nat × Operand)} {ps : List (Nat × Nat)} {z : Value} {cs : Array Value} (hz : zrB P t = some z) (hp : plB P t = some ps) (hf : Instr.fill (fun i => ps[i]?) z.cells (l.map fun p => (p.1, ev s p.2)) = some cs) :
    OpV P ⟨d, .build t l.toArray, ty, pos, af, g⟩ s h (.agg cs) := fun w _ => by
  unfold plB at hp
  cases hu : P.underlying t with
  | none => simp [hu] at hp
  | some dd =>
    cases dd <;> simp only [hu] at hp <;> try (cases hp; done)
    rename_i fs
    have := run_places (w := w) hp
    have hm : (fs.mapM fun (f : Field) => (do pure (f.offset, ← sizeOf f.type) : Sem (Nat × Nat))).run P w = .ok ps.toArray w := by
      rw [← Array.toArray_toList (xs := fs), List.mapM_toArray]
      simp at this ⊢
      simp [this]
    simp [execOp, Instr.build, run_zrB hz, run_und hu]
    simp at hm
    simp [hm, hf]

/-- A store into a block that is known: one cell. -/
theorem store {b o : Nat} {v : Value} {cs cs' : Array Value} {e : TypeId} {fz : Nat × Nat} (hx : ev s x = .pointer (some ⟨b, o, none⟩)) (hy : ev s y = v) (ht : szB P t = some 1) (h1 : v.oneCell' = true)
    (hb : h[b]? = some (.cells cs e fz)) (ho : o < cs.size) (hf : ¬ (fz.1 ≤ o ∧ o < fz.2)) (hc : cs.setIfInBounds o v = cs') : OpU P ⟨d, .store t x y, ty, pos, af, g⟩ s h (hput h b cs') := fun E w at' => by
  subst hc
  refine ⟨_, at'.setRow b (cs.setIfInBounds o v), ?_⟩
  have hvc : v.cells = #[v] := by cases v <;> first | rfl | (simp [Value.oneCell'] at h1)
  have hwb : w.heap[b]? = some (.cells cs e fz) := by rw [at'.heap]; exact hb
  have hcell : w.cell? ⟨b, o, none⟩ = some cs[o] := by rw [cell?_eq, cell_of hwb]; simp [ho]
  have hfr : w.frozen? ⟨b, o, none⟩ = false := by
    obtain ⟨lo, hi⟩ := fz
    simp only [World.frozen?, hwb]
    simp at hf ⊢
    exact hf
  have hset : w.setCell ⟨b, o, none⟩ v = w.setRow b (cs.setIfInBounds o v) := by
    unfold World.setCell World.setRow
    simp only [World.mk.injEq, and_true]
    apply Array.ext_getElem?
    intro i
    simp only [Array.getElem?_modify]
    by_cases hi : b = i
    · subst hi; simp [hwb]
    · simp [hi]
  have hst := run_store P w ⟨b, o, none⟩ v .plain h1
  simp only [hcell, hfr] at hst
  simp [execOp, hx, hy, Instr.storeAt, Instr.sureAddr, storeVar, hvc, run_szB ht, storeCells, Addr.add_zero', hst, hset]

/-- A store of a struct or an array over a part of a block. -/
theorem storeA {b o : Nat} {vs : List Value} {cs cs' : Array Value} {e : TypeId} {fz : Nat × Nat} (hx : ev s x = .pointer (some ⟨b, o, none⟩)) (hy : ev s y = .agg vs.toArray) (ht : szB P t = some vs.length) (h1 : ∀ v ∈ vs, v.oneCell' = true)
    (hb : h[b]? = some (.cells cs e fz)) (ho : o + vs.length ≤ cs.size) (hf : fzOk fz cs.size) (hc : (spl cs.toList o vs).toArray = cs') : OpU P ⟨d, .store t x y, ty, pos, af, g⟩ s h (hput h b cs') := fun E w at' => by
  subst hc
  refine ⟨_, at'.setRow b _, ?_⟩
  have hwb : w.heap[b]? = some (.cells cs e fz) := by rw [at'.heap]; exact hb
  have hst := run_storeCells_cells (P := P) b o vs 0 w (fun j hj => by rw [cell?_eq, cell_of hwb]; simp; omega) (fun j hj => frozen?_eq hwb hf (by omega)) h1
  simp only [Nat.add_zero] at hst
  rw [setCells_row b e fz vs o w cs hwb ho] at hst
  simp [execOp, hx, hy, Instr.storeAt, Instr.sureAddr, storeVar, Value.cells, run_szB ht, hst]

/-- make([]T, n) and make([]T, n, m). -/
theorem makeSlice {n m k bytes : Nat} {e : TypeId} {z : Value} (hx : ev s x = .int .i64 n) (hy : ev s y = .int .i64 m) (ht : elB P t = some e) (hk : szB P e = some k) (hb : byB P e = some bytes) (hz : zrB P e = some z) (hnm : n ≤ m) (hfit : m * bytes ≤ 281474976710656) (hm : m ≤ 9223372036854775807) :
    OpE P ⟨d, .makeSlice t x y, ty, pos, af, g⟩ s h (.slice (some ⟨h.size, 0, none⟩) n m) (h.push (.cells ((Array.range (m * k)).map (z.cells[· % z.cells.size]!)) e (0, 0))) := fun E w at' => by
  refine ⟨_, at'.alloc _, ?_⟩
  obtain ⟨i, hi, hik⟩ := szB_iff hk
  have hib : i.bytes = bytes := by
    obtain ⟨i', hi', e'⟩ := byB_iff hb
    rw [hi] at hi'; injection hi' with hi'; subst hi'; exact e'
  have w1 : IntKind.i64.wrap (n : Int) = n := IntWalk.i64_in _ (by omega)
  have w2 : IntKind.i64.wrap (m : Int) = m := IntWalk.i64_in _ (by omega)
  have b1 : ¬ ((281474976710656 : Int) < (bytes : Int) * (m : Int)) := by
    have : ((m * bytes : Nat) : Int) ≤ 281474976710656 := by omega
    rw [Nat.mul_comm] at this
    rw [← Int.natCast_mul]; omega
  have b2 : ¬ ((m : Int) < n) := by omega
  have b3 : ¬ ((m : Int) < 0) := by omega
  have b4 : ¬ ((n : Int) < 0) := by omega
  by_cases h0 : m * k = 0
  · have r0 : Array.range 0 = #[] := rfl
    simp [r0, execOp, hx, hy, Instr.makeSlice, run_und (elB_iff ht), asInt, asIntOf, typeInfo, hi, hib, w1, w2, b1, b2, b3, b4, run_szB hk, h0, newRow, at'.heap]
  · simp [execOp, hx, hy, Instr.makeSlice, run_und (elB_iff ht), asInt, asIntOf, typeInfo, hi, hib, w1, w2, b1, b2, b3, b4, run_szB hk, h0, run_zrB hz, newRow, at'.heap]

/-- s[lo:hi], s[lo:], s[:hi], s[lo:hi:max] of a slice: the value as the model has it. -/
theorem slice_lh {a : Option Addr} {n m l r k : Nat} {e : TypeId} {lo hi : Operand} {k1 k2 : IntKind} (hx : ev s x = .slice a n m) (hlo : ev s lo = .int k1 l) (hhi : ev s hi = .int k2 r) (ht : elB P t = some e) (hk : szB P e = some k) (hlr : l ≤ r) (hrm : r ≤ m) :
    OpV P ⟨d, .slice t x (some lo) (some hi) none, ty, pos, af, g⟩ s h (.slice (cutA a l m k) (r - l) (m - l)) := fun w _ => by
  simp [execOp, hx, hlo, hhi, Instr.sliceAt, Instr.slice, run_und (elB_iff ht), Instr.sliceBounds, Instr.sliceBound, asIntOf, run_szB hk, hlr, hrm, cutA]
theorem slice_l {a : Option Addr} {n m l k : Nat} {e : TypeId} {lo : Operand} {k1 : IntKind} (hx : ev s x = .slice a n m) (hlo : ev s lo = .int k1 l) (ht : elB P t = some e) (hk : szB P e = some k) (hln : l ≤ n) :
    OpV P ⟨d, .slice t x (some lo) none none, ty, pos, af, g⟩ s h (.slice (cutA a l m k) (n - l) (m - l)) := fun w _ => by
  simp [execOp, hx, hlo, Instr.sliceAt, Instr.slice, run_und (elB_iff ht), Instr.sliceBounds, Instr.sliceBound, asIntOf, run_szB hk, hln, cutA]
theorem slice_h {a : Option Addr} {n m r k : Nat} {e : TypeId} {hi : Operand} {k2 : IntKind} (hx : ev s x = .slice a n m) (hhi : ev s hi = .int k2 r) (ht : elB P t = some e) (hk : szB P e = some k) (hrm : r ≤ m) :
    OpV P ⟨d, .slice t x none (some hi) none, ty, pos, af, g⟩ s h (.slice a r m) := fun w _ => by
  have : (a.map fun x => x.add 0) = a := by cases a <;> simp [Addr.add_zero']
  simp [execOp, hx, hhi, Instr.sliceAt, Instr.slice, run_und (elB_iff ht), Instr.sliceBounds, Instr.sliceBound, asIntOf, run_szB hk, hrm, this]
theorem slice_hm {a : Option Addr} {n m r q k : Nat} {e : TypeId} {hi mx : Operand} {k2 k3 : IntKind} (hx : ev s x = .slice a n m) (hhi : ev s hi = .int k2 r) (hmx : ev s mx = .int k3 q) (ht : elB P t = some e) (hk : szB P e = some k) (hrq : r ≤ q) (hqm : q ≤ m) :
    OpV P ⟨d, .slice t x none (some hi) (some mx), ty, pos, af, g⟩ s h (.slice a r q) := fun w _ => by
  have : (a.map fun x => x.add 0) = a := by cases a <;> simp [Addr.add_zero']
  simp [execOp, hx, hhi, hmx, Instr.sliceAt, Instr.slice, run_und (elB_iff ht), Instr.sliceBounds, Instr.sliceBound, asIntOf, run_szB hk, hrq, hqm, this]
theorem slice_lhm {a : Option Addr} {n m l r q k : Nat} {e : TypeId} {lo hi mx : Operand} {k1 k2 k3 : IntKind} (hx : ev s x = .slice a n m) (hlo : ev s lo = .int k1 l) (hhi : ev s hi = .int k2 r) (hmx : ev s mx = .int k3 q) (ht : elB P t = some e) (hk : szB P e = some k) (hlr : l ≤ r) (hrq : r ≤ q) (hqm : q ≤ m) :
    OpV P ⟨d, .slice t x (some lo) (some hi) (some mx), ty, pos, af, g⟩ s h (.slice (cutA a l q k) (r - l) (q - l)) := fun w _ => by
  simp [execOp, hx, hlo, hhi, hmx, Instr.sliceAt, Instr.slice, run_und (elB_iff ht), Instr.sliceBounds, Instr.sliceBound, asIntOf, run_szB hk, hlr, hrq, hqm, cutA]

theorem zeroCells_len (z : Array Value) (n : Nat) : (Builtin.zeroCells z n).toList.length = n * z.size := by simp [Builtin.zeroCells]
/-- clear(s) of a slice that is not empty. -/
theorem clear {b o n c k : Nat} {e : TypeId} {z : Value} {xs : List Value} (hx : ev s x = .slice (some ⟨b, o, none⟩) (n + 1) c) (ht : elB P t = some e) (hz : zrB P e = some z) (hzk : z.cells.size = k) (h1 : ∀ u ∈ (Builtin.zeroCells z.cells (n + 1)).toList, u.oneCell' = true)
    (hc : Cap h k e (.slice (some ⟨b, o, none⟩) (n + 1) c) xs) :
    OpA P ⟨d, .call ⟨.builtin .clear, #[x], #[t]⟩, ty, pos, af, g⟩ s h (fun v h' => v = .tuple #[] ∧ ∃ ys, Stored h k e (.slice (some ⟨b, o, none⟩) (n + 1) c) ys h') := fun E w at' => by
  obtain ⟨h', w', hst, at2, hr⟩ := run_storeSl (P := P) hc (vs := (Builtin.zeroCells z.cells (n + 1)).toList) (by rw [zeroCells_len, hzk]; exact Nat.le_refl _) h1 at'
  refine ⟨_, h', w', ⟨rfl, _, hst⟩, at2, ?_⟩
  simp [execOp, resolve, invoke, builtin, hx, Builtin.clear_, run_und (elB_iff ht), run_zrB hz, hr]
/-- copy(d, s) into a slice that is not empty: as many elements as both have. -/
theorem copy {b o n c k m c' : Nat} {a' : Option Addr} {e : TypeId} {t' : TypeId} {xs ys : List Value} (hx : ev s x = .slice (some ⟨b, o, none⟩) n c) (hy : ev s y = .slice a' m c') (ht : elB P t = some e) (hk : szB P e = some k)
    (hc : Cap h k e (.slice (some ⟨b, o, none⟩) n c) xs) (hn : Sl h k (.slice a' m c') ys) (h1 : ∀ u ∈ ys, u.oneCell' = true) (hmn : m ≤ n) :
    OpA P ⟨d, .call ⟨.builtin .copy, #[x, y], #[t, t']⟩, ty, pos, af, g⟩ s h (fun v h' => v = .int .i64 m ∧ Stored h k e (.slice (some ⟨b, o, none⟩) n c) (ys ++ xs.drop ys.length) h') := fun E w at' => by
  have hr0 := hn.cells
  have hmk : m * k ≤ n * k := Nat.mul_le_mul_right _ hmn
  obtain ⟨h', w', hst, at2, hr⟩ := run_storeSl (P := P) hc (vs := ys) (by rw [hr0.1]; exact hmk) h1 at'
  refine ⟨_, h', w', ⟨rfl, hst⟩, at2, ?_⟩
  have hmin : Nat.min m n = m := Nat.min_eq_left hmn
  have hf : (Builtin.firstCells k m (.slice a' m c')).run P w = .ok ys.toArray w := by
    by_cases hm0 : m = 0
    · subst hm0
      have : ys = [] := List.eq_nil_of_length_eq_zero (by simpa using hr0.1)
      subst this
      cases a' <;> simp [Builtin.firstCells, loadCells, loadCellsFrom]
    · obtain ⟨b', o', rfl, hcell⟩ := hr0.2 (by omega)
      exact run_firstCells_some w k m ⟨b', o', none⟩ m c' ys hr0.1 (fun j v hj => by rw [Addr.add_lit, cell?_eq, at'.heap]; exact hcell j v hj)
  simp [execOp, resolve, invoke, builtin, hx, hy, Builtin.copy_, run_und (elB_iff ht), Builtin.lenOf, hmin, run_szB hk, hf, hr, goInt]

theorem eqGP {op : BinOp} {a b : Option Addr} {w : World} : (eqGuard op t x y (.pointer a) (.pointer b)).run P w = .ok () w := by
  unfold eqGuard
  cases op <;> simp
theorem eqGS {op : BinOp} {a b : Option Addr} {n m n' m' : Nat} {w : World} : (eqGuard op t x y (.slice a n m) (.slice b n' m')).run P w = .ok () w := by
  unfold eqGuard
  cases op <;> simp
theorem eqGB {op : BinOp} {a b : Bool} {w : World} : (eqGuard op t x y (.bool a) (.bool b)).run P w = .ok () w := by
  unfold eqGuard
  cases op <;> simp
theorem eqGT {op : BinOp} {a b : ByteArray} {w : World} : (eqGuard op t x y (.string a) (.string b)).run P w = .ok () w := by
  unfold eqGuard
  cases op <;> simp

theorem equal_ptr {a : Option Addr} {e : TypeId} (ht : ptB P t = some e) (w : World) : (Op.equal t (.pointer a) (.pointer none)).run P w = .ok a.isNone w := by
  have : ∀ dd, (Op.equalIn (dd + 1) t (.pointer a) (.pointer none)).run P w = .ok a.isNone w := fun dd => by
    cases a <;> simp [Op.equalIn, run_und (ptB_iff ht)]
  exact this 9999
theorem equal_sl {a : Option Addr} {n m : Nat} {e : TypeId} (ht : elB P t = some e) (w : World) : (Op.equal t (.slice a n m) (.slice none 0 0)).run P w = .ok a.isNone w := by
  have : ∀ dd, (Op.equalIn (dd + 1) t (.slice a n m) (.slice none 0 0)).run P w = .ok a.isNone w := fun dd => by
    cases a <;> simp [Op.equalIn, run_und (elB_iff ht)]
  exact this 9999
theorem equal_bo {a b : Bool} (ht : boB P t = true) (w : World) : (Op.equal t (.bool a) (.bool b)).run P w = .ok (a == b) w := run_equal_bool w t a b (boB_iff ht)

theorem ptrEqNil {a : Option Addr} {e : TypeId} (hx : ev s x = .pointer a) (hy : ev s y = .pointer none) (ht : ptB P t = some e) : OpV P ⟨d, .binOp .eql t x y u, ty, pos, af, g⟩ s h (.bool a.isNone) := fun w _ => by
  simp [execOp, hx, hy, eqGP, binOp, equal_ptr ht]
theorem ptrNeNil {a : Option Addr} {e : TypeId} (hx : ev s x = .pointer a) (hy : ev s y = .pointer none) (ht : ptB P t = some e) : OpV P ⟨d, .binOp .neq t x y u, ty, pos, af, g⟩ s h (.bool (!a.isNone)) := fun w _ => by
  simp [execOp, hx, hy, eqGP, binOp, equal_ptr ht]
theorem slEqNil {a : Option Addr} {n m : Nat} {e : TypeId} (hx : ev s x = .slice a n m) (hy : ev s y = .slice none 0 0) (ht : elB P t = some e) : OpV P ⟨d, .binOp .eql t x y u, ty, pos, af, g⟩ s h (.bool a.isNone) := fun w _ => by
  simp [execOp, hx, hy, eqGS, binOp, equal_sl ht]
theorem slNeNil {a : Option Addr} {n m : Nat} {e : TypeId} (hx : ev s x = .slice a n m) (hy : ev s y = .slice none 0 0) (ht : elB P t = some e) : OpV P ⟨d, .binOp .neq t x y u, ty, pos, af, g⟩ s h (.bool (!a.isNone)) := fun w _ => by
  simp [execOp, hx, hy, eqGS, binOp, equal_sl ht]
theorem boEql {a b r : Bool} (hx : ev s x = .bool a) (hy : ev s y = .bool b) (ht : boB P t = true) (hr : (a == b) = r) : OpV P ⟨d, .binOp .eql t x y u, ty, pos, af, g⟩ s h (.bool r) := fun w _ => by
  subst hr
  simp [execOp, hx, hy, eqGB, binOp, equal_bo ht]
theorem boNeq {a b r : Bool} (hx : ev s x = .bool a) (hy : ev s y = .bool b) (ht : boB P t = true) (hr : (a != b) = r) : OpV P ⟨d, .binOp .neq t x y u, ty, pos, af, g⟩ s h (.bool r) := fun w _ => by
  subst hr
  simp [execOp, hx, hy, eqGB, binOp, equal_bo ht, bne]
theorem stEql {a b : ByteArray} {r : Bool} (hx : ev s x = .string a) (hy : ev s y = .string b) (hr : (a.toList == b.toList) = r) : OpV P ⟨d, .binOp .eql t x y u, ty, pos, af, g⟩ s h (.bool r) := fun w _ => by
  subst hr
  simp [execOp, hx, hy, eqGT, binOp, Op.stringOp]
theorem stNeq {a b : ByteArray} {r : Bool} (hx : ev s x = .string a) (hy : ev s y = .string b) (hr : (!(a.toList == b.toList)) = r) : OpV P ⟨d, .binOp .neq t x y u, ty, pos, af, g⟩ s h (.bool r) := fun w _ => by
  subst hr
  simp [execOp, hx, hy, eqGT, binOp, Op.stringOp]

/-- Between kinds of integers. -/
theorem convI {k k' : IntKind} {a : Int} (hx : ev s x = .int k a) (hu : inB P u = some k') (ht : inB P t = some k) : OpV P ⟨d, .convert t u x, ty, pos, af, g⟩ s h (.int k' (k'.wrap a)) := fun w _ => by
  simp [execOp, hx, convert, run_und (inB_iff hu), run_und (inB_iff ht), Conv.intToInt]
theorem convE {k k' : IntKind} {a b : Int} (hx : ev s x = .int k a) (hu : inB P u = some k') (ht : inB P t = some k) (hb : k'.wrap a = b) : OpV P ⟨d, .convert t u x, ty, pos, af, g⟩ s h (.int k' b) := hb ▸ convI hx hu ht
/-- A field of a struct that is a value: one cell; several. -/
theorem field1 {cs : Array Value} {f off : Nat} {ft : TypeId} {v : Value} (hx : ev s x = .agg cs) (hf : fdB P t f = some (off, ft, 1)) (ha : agB P ft = some false) (hv : cs[off]? = some v) : OpV P ⟨d, .field t x f, ty, pos, af, g⟩ s h v := fun w _ => by
  obtain ⟨fs, fd, i, h1, h2, rfl, rfl, h3, h4⟩ := fdB_iff hf
  simp [execOp, hx, Instr.field, run_und h1, h2, asAgg, part, run_agB ha, hv]
end V
end Go.HL
