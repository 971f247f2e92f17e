/- append(b, make([]byte, k)...): as many noughts behind. Conditions: those that each rule names. -/
import Derived.Test.YtpebbkhainpfaaaHlMore
import Derived.Lib.AppendZerosOnto
namespace Go.HL
open Go
theorem zeroCells_eq (v : Value) (n : Nat) (hv : v.cells = #[v]) : (Builtin.zeroCells v.cells n).toList = List.replicate n v := by
  apply List.ext_getElem?
  intro i
  rw [hv]
  simp [Builtin.zeroCells]
  by_cases hi : i < n
  · simp [hi, List.getElem?_replicate, Nat.mod_one]
  · simp [hi, List.getElem?_replicate]
theorem run_appendZ {P : Program} {t tn e ty : TypeId} {kn kq : IntKind} (ht : elB P t = some e) (htn : inB P tn = some kn) (hk : szB P e = some 1) (hby : byB P e = some 1) (hz : zrB P e = some (.int .u8 0))
    {h : Heap} {v : Value} {xs : List Value} {m : Nat} (hv : Cap h 1 e v xs) (hfit : xs.length + m ≤ 140737488355328) {E : Env} {w : World} (at' : At E h w) :
    ∃ v' h' w', (Cap h' 1 e v' (xs ++ List.replicate m (.int .u8 0)) ∧ Chg (blkC v) h h' ∧ ∀ b, blkC v' b → blkC v b ∨ h.size ≤ b) ∧ At E h' w' ∧ (Builtin.append_ #[t, tn] ty #[v, .int kq m]).run P w = .ok v' w' := by
  obtain ⟨i, hi, hik⟩ := szB_iff hk
  have hib : i.bytes = 1 := by
    obtain ⟨i', hi', e'⟩ := byB_iff hby
    rw [hi] at hi'; injection hi' with hi'; subst hi'; exact e'
  have hiz : i.zero = some (.int .u8 0) := by
    obtain ⟨i', hi', e'⟩ := zrB_iff hz
    rw [hi] at hi'; injection hi' with hi'; subst hi'; exact e'
  have hut := elB_iff ht
  have hutn := inB_iff htn
  obtain ⟨a, n, c, rfl, hnc, hc, hl, hr⟩ := hv
  have hl : xs.length = n := by simpa using hl
  by_cases hm0 : m = 0
  · subst hm0
    refine ⟨.slice a n c, h, w, ⟨by simpa using ⟨a, n, c, rfl, hnc, hc, by simpa using hl, hr⟩, Chg.refl _ _, fun b hb => .inl hb⟩, at', ?_⟩
    cases a with
    | none => simp [Builtin.append_, run_underlying hut, run_underlying hutn, sizeOf, typeInfo, hi, asInt, asIntOf, IntKind.wrap_i64, hnc, hib]
    | some ad => simp [Builtin.append_, run_underlying hut, run_underlying hutn, sizeOf, typeInfo, hi, asInt, asIntOf, IntKind.wrap_i64, hnc, hib, storeCells]
  have hw : IntKind.i64.wrap (m : Int) = m := by rw [IntKind.wrap_i64]; omega
  have hneg : ¬ ((m : Int) < 0) := by omega
  have h48i : ¬ (281474976710656 < (m : Int)) := by omega
  have grow : c < n + m → (Builtin.firstCells i.size n (.slice a n c)).run P w.drew = .ok xs.toArray w.drew → ∃ v' h' w', (Cap h' 1 e v' (xs ++ List.replicate m (.int .u8 0)) ∧ Chg (blkC (.slice a n c)) h h' ∧ ∀ b, blkC v' b → blkC (.slice a n c) b ∨ h.size ≤ b) ∧ At E h' w' ∧ (Builtin.append_ #[t, tn] ty #[.slice a n c, .int kq m]).run P w = .ok v' w' := by
    intro hg hold
    have hrun := Lib.run_append_grow_zeros (P := P) w t tn ty e i (.int .u8 0) kq kn hut hutn hi hiz a n c xs hold m (by omega) (by omega) hg (by omega) (by rw [hib]; omega) (growslice_fits (by omega) (by rw [hib]; omega))
    have hge := grownCap_ge w (n + m) c e
    have hcm := grownCap_le_maxLen w (n + m) c e (by simp only [maxLen]; omega)
    simp only [maxLen] at hcm
    refine ⟨_, _, _, ⟨⟨_, n + m, _, rfl, hge, hcm, by simp [hl], .inr ⟨w.heap.size, 0, _, (0, 0), rfl, by rw [at'.heap]; exact push_same _ _, ?_, fzOk_zero _, ?_⟩⟩, (Ext.push _ _).to, ?_⟩, (at'.drew).alloc _, hrun⟩
    · simp only [Array.size_append, List.size_toArray, size_zeroCells, hl]
      simp [Value.cells]; omega
    · simp only [List.drop_zero, Array.toList_append, Nat.mul_one]
      rw [zeroCells_eq _ m rfl]
      have : n + m = (xs ++ List.replicate m (Value.int .u8 0)).length := by simp [hl]
      rw [this]
      exact List.take_left
    · rintro bb ⟨oo, nn, cc, hv⟩
      right
      injection hv with h1; injection h1 with h1; injection h1 with h1
      rw [← h1, at'.heap]; exact Nat.le_refl _
  rcases hr with ⟨rfl, rfl⟩ | ⟨b, o, cs, fz, rfl, hb, hs, hf, hx⟩
  · have hn0 : n = 0 := by omega
    subst hn0
    have hx0 : xs = [] := List.eq_nil_of_length_eq_zero hl
    subst hx0
    exact grow (by omega) (by rw [hik]; exact run_firstCells_none _ _ _ _ _)
  · by_cases hroom : n + m ≤ c
    · have hwb : w.heap[b]? = some (.cells cs e fz) := by rw [at'.heap]; exact hb
      have hst := run_storeCells_cells (P := P) b (o + n) (List.replicate m (.int .u8 0)) 0 w (fun j hj => by rw [cell?_eq, cell_of hwb]; simp at hj ⊢; omega) (fun j hj => frozen?_eq hwb hf (by simp at hj; omega)) (fun u hu => by rw [List.eq_of_mem_replicate hu]; rfl)
      rw [Nat.add_zero, setCells_row b e fz _ (o + n) w cs hwb (by simp; omega)] at hst
      have hz2 : (Builtin.zeroCells (Value.int .u8 0).cells m).toList = List.replicate m (.int .u8 0) := zeroCells_eq _ m rfl
      refine ⟨.slice (some ⟨b, o, none⟩) (n + m) c, _, _, ⟨⟨_, n + m, c, rfl, hroom, hc, by simp [hl], .inr ⟨b, o, (spl cs.toList (o + n) (List.replicate m (.int .u8 0))).toArray, fz, rfl, hput_same hb, ?_, ?_, ?_⟩⟩, ?_, ?_⟩, at'.setRow _ _, ?_⟩
      · simp only [List.size_toArray]; rw [spl_length (by simp; omega)]; simpa using hs
      · simp only [List.size_toArray]; rw [spl_length (by simp; omega)]; simpa using hf
      · apply List.ext_getElem?
        intro j
        rw [List.getElem?_take]
        split
        · rename_i hj
          rw [List.getElem?_drop]
          by_cases hjn : j < n
          · rw [spl_lt (by omega) (by simp; omega), List.getElem?_append_left (by omega), ← hx, List.getElem?_take, if_pos (by omega), List.getElem?_drop]
          · have e1 : o + j = o + n + (j - n) := by omega
            rw [e1, spl_mid (by simp; omega) (by simp; omega), List.getElem?_append_right (by omega), hl]
        · rename_i hj
          rw [List.getElem?_eq_none]
          simp [hl]; omega
      · exact (hput_chg h b _).mono fun x _ hxb => by subst hxb; exact ⟨o, n, c, rfl⟩
      · rintro bb ⟨oo, nn, cc, hv⟩
        left
        injection hv with h1 h2 h3; injection h1 with h1; injection h1 with h1 h4
        subst h1
        exact ⟨o, n, c, rfl⟩
      · have hns : ¬ (m * i.size = 0) := by rw [hik]; omega
        simp [Builtin.append_, run_underlying hut, run_underlying hutn, sizeOf, typeInfo, zeroValue, hi, hiz, asInt, asIntOf, hw, hneg, hns, hib, h48i, hroom, hz2, Addr.add_lit, hik, hst, hm0]
    · have holds : ∀ j u, xs[j]? = some u → w.cell? ((⟨b, o, none⟩ : Addr).add j) = some u := fun j u hj => by
        rw [Addr.add_lit, cell?_eq, at'.heap, cell_of hb, ← Array.getElem?_toList]
        rw [← hx, List.getElem?_take] at hj
        split at hj
        · rwa [List.getElem?_drop] at hj
        · cases hj
      exact grow (by omega) (run_firstCells_some (P := P) w.drew i.size n ⟨b, o, none⟩ n c xs (by rw [hl, hik]; simp) (by simpa using holds))
theorem bv_zeros {l : List UInt8} {m : Nat} : l.map bv ++ List.replicate m (.int .u8 0) = (l ++ List.replicate m 0).map bv := by simp [bv]
section
variable {P : Program} {s : Slots} {h : Heap} {d : Option Tmp} {ty : TypeId} {pos : String} {af : Array Edge} {g : Option (Nat × Bool)} {x y : Operand} {t u : TypeId}
theorem OpV.maxn {a b : Nat} (hx : ev s x = .int .i64 (a : Int) := by exact rfl) (hy : ev s y = .int .i64 (b : Int) := by exact rfl) : OpV P ⟨d, .call ⟨.builtin .max, #[x, y], #[t, u]⟩, ty, pos, af, g⟩ s h (.int .i64 ((max a b : Nat) : Int)) := by
  have : ((max a b : Nat) : Int) = max (a : Int) (b : Int) := by omega
  rw [this]; exact OpV.max2 hx hy
/-- A function value is made. -/
theorem OpV.mkf {f : FuncId} {xs : Array Operand} {vs : List Value} (hx : xs.toList.map (ev s) = vs := by exact rfl) : OpV P ⟨d, .makeFunc (.func f) #[] xs, ty, pos, af, g⟩ s h (.func (.func f) #[] vs.toArray) := fun w _ => by
  have e : xs.map (ev s) = vs.toArray := by rw [← hx]; apply Array.ext'; simp
  simp [execOp, Instr.makeFunc, e]
end
/-- append(b, make([]byte, m)...). -/
theorem OpA.apz {P : Program} {s : Slots} {h0 h : Heap} {D : Nat → Prop} {M R : List Itm} {d : Option Tmp} {ty : TypeId} {pos : String} {af : Array Edge} {g : Option (Nat × Bool)} {x y : Operand} {t tn e : TypeId} {kn kq : IntKind} {a : Option Addr} {n c : Nat} {l : List UInt8} {z : Int} (m : Nat)
    (ht : elB P t = some e) (htn : inB P tn = some kn) (hk : szB P e = some 1) (hby : byB P e = some 1) (hz : zrB P e = some (.int .u8 0)) (ok : Hp h0 D (capI 1 e (a, n, c) (l.map bv) :: M) R h) (hm : z = m) (hfit : l.length + m ≤ 140737488355328)
    (hx : ev s x = .slice a n c := by exact rfl) (hy : ev s y = .int kq z := by exact rfl) :
    OpA P ⟨d, .call ⟨.builtin .append, #[x, y], #[t, tn]⟩, ty, pos, af, g⟩ s h (fun v' h' => ∃ a' c', v' = .slice a' (l ++ List.replicate m 0).length c' ∧ Hp h0 D (capI 1 e (a', (l ++ List.replicate m 0).length, c') ((l ++ List.replicate m 0).map bv) :: M) R h') := fun E w at' => by
  obtain ⟨v', h', w', ⟨q1, q2, q3⟩, at2, hr⟩ := run_appendZ (ty := ty) (kq := kq) ht htn hk hby hz ok.m0 (m := m) (by simpa using hfit) at'
  refine ⟨v', h', w', ?_, at2, by subst hm; simp [execOp, resolve, invoke, builtin, hx, hy, hr]⟩
  rw [bv_zeros] at q1
  obtain ⟨x', rfl⟩ := q1.form
  obtain ⟨a', n', c'⟩ := x'
  have hn : n' = (l ++ List.replicate m (0 : UInt8)).length := by
    have := q1.sl.cells.1
    simp only [List.length_map, Nat.mul_one] at this; exact this.symm
  subst hn
  exact ⟨a', c', rfl, ok.upd q2 (fun _ x => x) _ q1 fun j hj => (q3 j hj).elim .inl fun h1 => .inr ⟨h1, q1.lt hj⟩⟩
/-- copy(s[i:], src), where all of the source has room, whatever s is. -/
theorem OpA.cpyA {P : Program} {s : Slots} {h0 h : Heap} {D : Nat → Prop} {M R : List Itm} {d : Option Tmp} {ty : TypeId} {pos : String} {af : Array Edge} {g : Option (Nat × Bool)} {x y : Operand} {t t' e : TypeId} {a : Option Addr} {n c k : Nat} {a' : Option Addr} {m c' : Nat} {xs ys : List Value} (i : Nat)
    (ht : elB P t = some e) (hk : szB P e = some k) (ok : Hp h0 D (capI k e (a, n, c) xs :: M) R h) (hn : Sl h k (.slice a' m c') ys) (h1 : ∀ u ∈ ys, u.oneCell' = true)
    (hx : ev s x = .slice (cutA a i c k) (n - i) (c - i)) (hy : ev s y = .slice a' m c' := by exact rfl) (him : i + m ≤ n := by omega) :
    OpA P ⟨d, .call ⟨.builtin .copy, #[x, y], #[t, t']⟩, ty, pos, af, g⟩ s h (fun v h' => v = .int .i64 (m : Int) ∧ Hp h0 D (capI k e (a, n, c) (spl xs (i * k) ys) :: M) R h' ∧ Chg (blkC (sv (a, n, c))) h h') := by
  have hc : Cap h k e (.slice a n c) xs := ok.m0
  obtain ⟨a1, n1, c1, hv, hnc, _, hl, hr⟩ := id hc
  injection hv with e1 e2 e3; subst e1 e2 e3
  rcases hr with ⟨rfl, rfl⟩ | ⟨b, o, cs, fz, rfl, _⟩
  · have hm0 : m = 0 := by omega
    have hi0 : i = 0 := by omega
    have hn0 : n = 0 := by omega
    subst hm0 hi0 hn0
    have hr0 := hn.cells
    have hys : ys = [] := List.eq_nil_of_length_eq_zero (by simpa using hr0.1)
    subst hys
    have hxs : xs = [] := List.eq_nil_of_length_eq_zero (by simpa using hl)
    subst hxs
    refine fun E w at' => ⟨_, h, w, ⟨rfl, by simpa [spl] using ok, Chg.refl _ _⟩, at', ?_⟩
    have hf : (Builtin.firstCells k 0 (.slice a' 0 c')).run P w = .ok #[] w := by cases a' <;> simp [Builtin.firstCells, loadCells, loadCellsFrom]
    have hx' : ev s x = .slice none 0 0 := by rw [hx]; simp [cutA]
    simp [execOp, resolve, invoke, builtin, hx', hy, Builtin.copy_, run_und (elB_iff ht), Builtin.lenOf, run_szB hk, hf, goInt, storeCells]
  · exact OpA.mk (OpA.cpy (t' := t') i ht hk ok hn h1 hx hy him) fun v h' q => ⟨q.1, q.2.1, q.2.2.mono fun x _ hx => ⟨o, n, c, by rw [show x = b from hx]⟩⟩
end Go.HL
