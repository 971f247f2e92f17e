/- Stores into slices and the operations on maps, as rules of the logic. Conditions: those that each rule names. -/
import Derived.Test.YtpebbkhainpfaaaHlEff
import Derived.MapKept
import Derived.Maps.RangeRun
namespace Go.HL
open Go Go.MapKept

/-- No value, and a heap out of a class. -/
def OpUR (P : Program) (o : Oper) (s : Slots) (h : Heap) (R : Heap → Prop) : Prop :=
  ∀ E w, At E h w → ∃ h' w', R h' ∧ At E h' w' ∧ (execOp (ev s) o).run P w = .ok .skip w'
theorem HO.ur {P : Program} {n : Nat} {ops : Array Oper} {l : List Oper} {o : Oper} {K : Slots → Heap → Prop} {s : Slots} {h : Heap} {R : Heap → Prop} (hv : OpUR P o s h R) (hw : wants ops o s = true) (hd : o.dst = none)
    (hk : ∀ h', R h' → HO P n ops l K s h') : HO P n ops (o :: l) K s h :=
  HO.step hw fun E a w r at' => by
    obtain ⟨h', w', hR, at2, hr⟩ := hv E w at'
    unfold Oper.wp
    rw [r.eval', hr]
    simp only [Oper.upon, hd, Act.put]
    exact hk h' hR E _ w' r at2
theorem Up.ur {P : Program} {n : Nat} {ops : Array Oper} {o : Oper} {bar : Nat} {S : Bool → Heap → Prop} {K : Slots → Heap → Prop} {fuel : Nat} {listed : Array Bool} {s : Slots} {h : Heap} {i : Nat} {R : Heap → Prop} (hi : ops[i]? = some o) (hw : wants ops o s = true) (hd : o.dst = none)
    (hv : OpUR P o s h R) {fl : Bool} (hfl : (listed.setIfInBounds i true).getD bar false = fl) (hk : ∀ h', R h' → S fl h' ∧ HA P n ops bar S K fuel (listed.setIfInBounds i true) s h') : Up P n ops bar S K fuel listed i s h :=
  Up.step hi hw fun E a w r at' => by
    obtain ⟨h', w', hR, at2, hr⟩ := hv E w at'
    unfold Oper.wp
    rw [r.eval', hr]
    simp only [Oper.upon, hd, Act.put, hfl]
    obtain ⟨k1, k2⟩ := hk h' hR
    exact ⟨by rw [at2.heap]; exact k1, k2 E _ w' r at2⟩

/-- One cell of a slice, stored anew. -/
structure Set1 (h : Heap) (k : Nat) (e : TypeId) (b o n c q : Nat) (xs : List Value) (u : Value) (h' : Heap) : Prop where
  cap : Cap h' k e (.slice (some ⟨b, o, none⟩) n c) (xs.set q u)
  chg : Chg (fun x => x = b) h h'
  kept : ∀ b' off x, cell h b' off = some x → ¬ (b' = b ∧ off = o + q) → cell h' b' off = some x
  shape : Shape h h'
  size : h'.size = h.size
theorem V.storeC {P : Program} {s : Slots} {h : Heap} {d : Option Tmp} {ty : TypeId} {pos : String} {af : Array Edge} {g : Option (Nat × Bool)} {x y : Operand} {t e : TypeId} {b o n c k q : Nat} {xs : List Value} {u : Value}
    (hx : ev s x = .pointer (some ⟨b, o + q, none⟩)) (hy : ev s y = u) (ht : szB P t = some 1) (h1 : u.oneCell' = true) (hc : Cap h k e (.slice (some ⟨b, o, none⟩) n c) xs) (hq : q < n * k) :
    OpUR P ⟨d, .store t x y, ty, pos, af, g⟩ s h (Set1 h k e b o n c q xs u) := fun E w at' => by
  have hc0 := hc
  obtain ⟨a', n', c', hv, hn, hcm, hxl, hr⟩ := hc
  injection hv with g1 g2 g3; subst g1 g2 g3
  rcases hr with ⟨hbad, _⟩ | ⟨b', o', cs, fz, hab, hb, hs, hf, hxx⟩
  · cases hbad
  injection hab with hab; injection hab with g1 g2; subst g1 g2
  have hnk : n * k ≤ c * k := Nat.mul_le_mul_right _ hn
  obtain ⟨w', at2, hr⟩ := V.store (P := P) (s := s) (d := d) (ty := ty) (pos := pos) (af := af) (g := g) hx hy ht h1 hb (by omega) (hf.2 _ (by omega)) rfl E w at'
  refine ⟨_, w', ⟨?_, hput_chg _ _ _, ?_, Shape.put hb (by simp), hput_size _ _ _⟩, at2, hr⟩
  · refine ⟨_, _, _, rfl, hn, hcm, by simp [hxl], .inr ⟨b, o, _, fz, rfl, hput_same hb, by simpa using hs, by simpa using hf, ?_⟩⟩
    apply List.ext_getElem?
    intro j
    simp only [Array.toList_setIfInBounds, List.getElem?_take, List.getElem?_drop, List.getElem?_set]
    have hx' : j < n * k → xs[j]? = cs.toList[o + j]? := fun hj => by rw [← hxx, List.getElem?_take, if_pos hj, List.getElem?_drop]
    by_cases hj : j < n * k
    · rw [if_pos hj]
      by_cases hjq : q = j
      · subst hjq
        have l1 : o + q < cs.toList.length := by simp; omega
        have l2 : q < xs.length := by omega
        rw [if_pos rfl, if_pos l1, if_pos rfl, if_pos l2]
      · rw [if_neg (by omega), if_neg hjq, hx' hj]
    · rw [if_neg hj, if_neg (by omega), List.getElem?_eq_none (by omega)]
  · intro bb off x hx2 hne
    by_cases hbb : bb = b
    · subst hbb
      rw [cell_of hb] at hx2
      rw [cell_of (hput_same hb), Array.getElem?_setIfInBounds]
      rw [if_neg (fun e => hne ⟨rfl, e.symm⟩)]; exact hx2
    · rw [cell_block (hput_other hbb)]; exact hx2

namespace V
variable {P : Program} {s : Slots} {h : Heap} {d : Option Tmp} {ty : TypeId} {pos : String} {af : Array Edge} {g : Option (Nat × Bool)} {x y : Operand} {t : TypeId}
theorem storeI {b o : Nat} {kk : IntKind} {u : Int} {cs cs' : Array Value} {e : TypeId} {fz : Nat × Nat} (hx : ev s x = .pointer (some ⟨b, o, none⟩)) (hy : ev s y = .int kk u) (ht : szB P t = some 1)
    (hb : h[b]? = some (.cells cs e fz)) (ho : o < cs.size) (hf : ¬ (fz.1 ≤ o ∧ o < fz.2)) (hc : cs.setIfInBounds o (.int kk u) = cs') : OpU P ⟨d, .store t x y, ty, pos, af, g⟩ s h (hput h b cs') := store hx hy ht rfl hb ho hf hc
theorem storeCI {e : TypeId} {b o n c k q : Nat} {xs : List Value} {kk : IntKind} {u : Int} (hx : ev s x = .pointer (some ⟨b, o + q, none⟩)) (hy : ev s y = .int kk u) (ht : szB P t = some 1) (hc : Cap h k e (.slice (some ⟨b, o, none⟩) n c) xs) (hq : q < n * k) :
    OpUR P ⟨d, .store t x y, ty, pos, af, g⟩ s h (Set1 h k e b o n c q xs (.int kk u)) := storeC hx hy ht rfl hc hq
theorem storeB {b o : Nat} {u : Bool} {cs cs' : Array Value} {e : TypeId} {fz : Nat × Nat} (hx : ev s x = .pointer (some ⟨b, o, none⟩)) (hy : ev s y = .bool u) (ht : szB P t = some 1)
    (hb : h[b]? = some (.cells cs e fz)) (ho : o < cs.size) (hf : ¬ (fz.1 ≤ o ∧ o < fz.2)) (hc : cs.setIfInBounds o (.bool u) = cs') : OpU P ⟨d, .store t x y, ty, pos, af, g⟩ s h (hput h b cs') := store hx hy ht rfl hb ho hf hc
theorem storeCB {e : TypeId} {b o n c k q : Nat} {xs : List Value} {u : Bool} (hx : ev s x = .pointer (some ⟨b, o + q, none⟩)) (hy : ev s y = .bool u) (ht : szB P t = some 1) (hc : Cap h k e (.slice (some ⟨b, o, none⟩) n c) xs) (hq : q < n * k) :
    OpUR P ⟨d, .store t x y, ty, pos, af, g⟩ s h (Set1 h k e b o n c q xs (.bool u)) := storeC hx hy ht rfl hc hq
theorem storeS {b o : Nat} {ua : Option Addr} {un um : Nat} {cs cs' : Array Value} {e : TypeId} {fz : Nat × Nat} (hx : ev s x = .pointer (some ⟨b, o, none⟩)) (hy : ev s y = .slice ua un um) (ht : szB P t = some 1)
    (hb : h[b]? = some (.cells cs e fz)) (ho : o < cs.size) (hf : ¬ (fz.1 ≤ o ∧ o < fz.2)) (hc : cs.setIfInBounds o (.slice ua un um) = cs') : OpU P ⟨d, .store t x y, ty, pos, af, g⟩ s h (hput h b cs') := store hx hy ht rfl hb ho hf hc
theorem storeCS {e : TypeId} {b o n c k q : Nat} {xs : List Value} {ua : Option Addr} {un um : Nat} (hx : ev s x = .pointer (some ⟨b, o + q, none⟩)) (hy : ev s y = .slice ua un um) (ht : szB P t = some 1) (hc : Cap h k e (.slice (some ⟨b, o, none⟩) n c) xs) (hq : q < n * k) :
    OpUR P ⟨d, .store t x y, ty, pos, af, g⟩ s h (Set1 h k e b o n c q xs (.slice ua un um)) := storeC hx hy ht rfl hc hq
theorem storeP {b o : Nat} {ua : Option Addr} {cs cs' : Array Value} {e : TypeId} {fz : Nat × Nat} (hx : ev s x = .pointer (some ⟨b, o, none⟩)) (hy : ev s y = .pointer ua) (ht : szB P t = some 1)
    (hb : h[b]? = some (.cells cs e fz)) (ho : o < cs.size) (hf : ¬ (fz.1 ≤ o ∧ o < fz.2)) (hc : cs.setIfInBounds o (.pointer ua) = cs') : OpU P ⟨d, .store t x y, ty, pos, af, g⟩ s h (hput h b cs') := store hx hy ht rfl hb ho hf hc
theorem storeCP {e : TypeId} {b o n c k q : Nat} {xs : List Value} {ua : Option Addr} (hx : ev s x = .pointer (some ⟨b, o + q, none⟩)) (hy : ev s y = .pointer ua) (ht : szB P t = some 1) (hc : Cap h k e (.slice (some ⟨b, o, none⟩) n c) xs) (hq : q < n * k) :
    OpUR P ⟨d, .store t x y, ty, pos, af, g⟩ s h (Set1 h k e b o n c q xs (.pointer ua)) := storeC hx hy ht rfl hc hq
theorem storeM {b o : Nat} {ur : Option Nat} {cs cs' : Array Value} {e : TypeId} {fz : Nat × Nat} (hx : ev s x = .pointer (some ⟨b, o, none⟩)) (hy : ev s y = .map ur) (ht : szB P t = some 1)
    (hb : h[b]? = some (.cells cs e fz)) (ho : o < cs.size) (hf : ¬ (fz.1 ≤ o ∧ o < fz.2)) (hc : cs.setIfInBounds o (.map ur) = cs') : OpU P ⟨d, .store t x y, ty, pos, af, g⟩ s h (hput h b cs') := store hx hy ht rfl hb ho hf hc
theorem storeCM {e : TypeId} {b o n c k q : Nat} {xs : List Value} {ur : Option Nat} (hx : ev s x = .pointer (some ⟨b, o + q, none⟩)) (hy : ev s y = .map ur) (ht : szB P t = some 1) (hc : Cap h k e (.slice (some ⟨b, o, none⟩) n c) xs) (hq : q < n * k) :
    OpUR P ⟨d, .store t x y, ty, pos, af, g⟩ s h (Set1 h k e b o n c q xs (.map ur)) := storeC hx hy ht rfl hc hq
theorem storeT {b o : Nat} {ut : ByteArray} {cs cs' : Array Value} {e : TypeId} {fz : Nat × Nat} (hx : ev s x = .pointer (some ⟨b, o, none⟩)) (hy : ev s y = .string ut) (ht : szB P t = some 1)
    (hb : h[b]? = some (.cells cs e fz)) (ho : o < cs.size) (hf : ¬ (fz.1 ≤ o ∧ o < fz.2)) (hc : cs.setIfInBounds o (.string ut) = cs') : OpU P ⟨d, .store t x y, ty, pos, af, g⟩ s h (hput h b cs') := store hx hy ht rfl hb ho hf hc
theorem storeCT {e : TypeId} {b o n c k q : Nat} {xs : List Value} {ut : ByteArray} (hx : ev s x = .pointer (some ⟨b, o + q, none⟩)) (hy : ev s y = .string ut) (ht : szB P t = some 1) (hc : Cap h k e (.slice (some ⟨b, o, none⟩) n c) xs) (hq : q < n * k) :
    OpUR P ⟨d, .store t x y, ty, pos, af, g⟩ s h (Set1 h k e b o n c q xs (.string ut)) := storeC hx hy ht rfl hc hq
end V

/-- Keys of a plain type. -/
structure KV {κ : Type} (kv : κ → Value) (d : TypeDesc) : Prop where
  inj : ∀ a b, kv a = kv b → a = b
  key : ∀ a, IsKey d (kv a)
theorem KV.int (k : IntKind) : KV (Value.int k) (.int k) := ⟨fun a b h => by injection h, fun _ => rfl⟩
theorem KV.string : KV Value.string .string := ⟨fun a b h => by injection h, fun _ => trivial⟩

section
variable {κ : Type}
def MapT (kv : κ → Value) (h : Heap) (r : Nat) (l : List (κ × Value)) : Prop :=
  ∃ es clock, h[r]? = some (.map es clock) ∧ es.toList.map (fun e => (e.key, e.val)) = l.map (fun p => (kv p.1, p.2)) ∧ Stamped es clock

theorem MapT.chg {kv : κ → Value} {F : Nat → Prop} {h h' : Heap} (x : Chg F h h') {r : Nat} {l : List (κ × Value)} (m : MapT kv h r l) (hf : ¬ F r) : MapT kv h' r l :=
  let ⟨es, c, hb, he, hs⟩ := m; ⟨es, c, x.block hb hf, he, hs⟩
theorem MapT.ext {kv : κ → Value} {h h' : Heap} (x : Ext h h') {r : Nat} {l : List (κ × Value)} (m : MapT kv h r l) : MapT kv h' r l := m.chg x fun f => f
theorem MapT.lt {kv : κ → Value} {h : Heap} {r : Nat} {l : List (κ × Value)} (m : MapT kv h r l) : r < h.size := let ⟨_, _, hb, _⟩ := m; block_lt hb
theorem MapT.new {kv : κ → Value} {h : Heap} {r : Nat} (hb : h[r]? = some (.map #[] 0)) : MapT kv h r ([] : List (κ × Value)) := ⟨#[], 0, hb, rfl, stamped_empty 0⟩

theorem ents_keys {kv : κ → Value} {es : Array MapEntry} {l : List (κ × Value)} (he : es.toList.map (fun e => (e.key, e.val)) = l.map (fun p => (kv p.1, p.2))) : es.toList.map (·.key) = l.map fun p => kv p.1 := by
  have := congrArg (List.map Prod.fst) he
  rw [List.map_map, List.map_map] at this
  exact this
theorem ents_at {kv : κ → Value} {es : Array MapEntry} {l : List (κ × Value)} (he : es.toList.map (fun e => (e.key, e.val)) = l.map (fun p => (kv p.1, p.2))) {i : Nat} {e : MapEntry} (hi : es.toList[i]? = some e) : ∃ p, l[i]? = some p ∧ e.key = kv p.1 ∧ e.val = p.2 := by
  have h1 := congrArg (fun x => x[i]?) he
  simp only [List.getElem?_map, hi, Option.map_some] at h1
  cases hl : l[i]? with
  | none => simp [hl] at h1
  | some p => simp [hl] at h1; exact ⟨p, rfl, h1.1, h1.2⟩
theorem ents_at' {kv : κ → Value} {es : Array MapEntry} {l : List (κ × Value)} (he : es.toList.map (fun e => (e.key, e.val)) = l.map (fun p => (kv p.1, p.2))) {i : Nat} {p : κ × Value} (hi : l[i]? = some p) : ∃ e, es.toList[i]? = some e ∧ e.key = kv p.1 ∧ e.val = p.2 := by
  have h1 := congrArg (fun x => x[i]?) he
  simp only [List.getElem?_map, hi, Option.map_some] at h1
  cases hl : es.toList[i]? with
  | none => simp [hl] at h1
  | some e => simp [hl] at h1; exact ⟨e, rfl, h1.1, h1.2⟩
end

section
variable {κ : Type}
theorem MapT.nodup {kv : κ → Value} {h : Heap} {r : Nat} {l : List (κ × Value)} (m : MapT kv h r l) : (l.map (·.1)).Nodup := by
  obtain ⟨es, c, _, he, hs⟩ := m
  have := hs.2.2
  rw [ents_keys he] at this
  unfold List.Nodup at this ⊢
  rw [List.pairwise_map] at this ⊢
  exact this.imp fun hne e => hne (by rw [e])

end

section
variable {κ : Type} [DecidableEq κ]
def aget (l : List (κ × Value)) (k : κ) : Option Value := (l.find? fun p => p.1 = k).map (·.2)
def aput : List (κ × Value) → κ → Value → List (κ × Value)
  | [], k, v => [(k, v)]
  | p :: l, k, v => if p.1 = k then (k, v) :: l else p :: aput l k v
def adel (l : List (κ × Value)) (k : κ) : List (κ × Value) := l.filter fun p => decide (p.1 ≠ k)

theorem aget_some {l : List (κ × Value)} {k : κ} {i : Nat} {v : Value} (hn : (l.map (·.1)).Nodup) (hi : l[i]? = some (k, v)) : aget l k = some v := by
  induction l generalizing i with
  | nil => simp at hi
  | cons p l ih =>
    unfold aget
    rw [List.map_cons, List.nodup_cons] at hn
    cases i with
    | zero => simp at hi; subst hi; simp
    | succ i =>
      simp only [List.getElem?_cons_succ] at hi
      have hne : p.1 ≠ k := fun e => hn.1 (List.mem_map.2 ⟨(k, v), List.mem_of_getElem? hi, e.symm⟩)
      have := ih hn.2 hi
      unfold aget at this
      simp [hne, this]
theorem aget_none {l : List (κ × Value)} {k : κ} (h : ∀ p ∈ l, p.1 ≠ k) : aget l k = none := by
  unfold aget
  rw [List.find?_eq_none.2 (fun p hp => by simpa using h p hp)]; rfl

/-- The key's place, or that it has none. -/
theorem MapT.find {kv : κ → Value} {d : TypeDesc} (K : KV kv d) {es : Array MapEntry} {l : List (κ × Value)} (he : es.toList.map (fun e => (e.key, e.val)) = l.map (fun p => (kv p.1, p.2))) (hn : (l.map (·.1)).Nodup) (k : κ) :
    (Instr.findNow d (kv k) es.toList 0 = some none ∧ aget l k = none ∧ ∀ p ∈ l, p.1 ≠ k) ∨ ∃ (i : Nat) (e : MapEntry), Instr.findNow d (kv k) es.toList 0 = some (some (i, e.val)) ∧ es.toList[i]? = some e ∧ e.key = kv k ∧ l[i]? = some (k, e.val) ∧ aget l k = some e.val := by
  have hk : ∀ x ∈ es.toList, IsKey d x.key := fun x hx => by
    obtain ⟨i, hi⟩ := List.mem_iff_getElem?.1 hx
    obtain ⟨p, _, h2, _⟩ := ents_at he hi
    rw [h2]; exact K.key _
  rcases findNow_spec (K.key k) es.toList 0 hk with ⟨h1, h2⟩ | ⟨j, e, h1, h2, h3⟩
  · left
    have : ∀ p ∈ l, p.1 ≠ k := fun p hp hpk => by
      obtain ⟨i, hi⟩ := List.mem_iff_getElem?.1 hp
      obtain ⟨e, h4, h5, _⟩ := ents_at' he hi
      exact h2 e (List.mem_of_getElem? h4) (by rw [h5, hpk])
    exact ⟨h1, aget_none this, this⟩
  · right
    obtain ⟨p, h4, h5, h6⟩ := ents_at he h2
    have : p.1 = k := K.inj _ _ (by rw [← h5, h3])
    have hp : l[j]? = some (k, e.val) := by rw [h4, ← this, h6]
    exact ⟨j, e, by simpa using h1, h2, h3, hp, aget_some hn hp⟩

theorem aput_none {l : List (κ × Value)} {k : κ} {v : Value} (h : ∀ p ∈ l, p.1 ≠ k) : aput l k v = l ++ [(k, v)] := by
  induction l with
  | nil => rfl
  | cons p l ih => simp [aput, h p List.mem_cons_self, ih (fun q hq => h q (List.mem_cons_of_mem _ hq))]
theorem aput_some {l : List (κ × Value)} {k : κ} {v u : Value} {i : Nat} (hn : (l.map (·.1)).Nodup) (hi : l[i]? = some (k, u)) : aput l k v = l.set i (k, v) := by
  induction l generalizing i with
  | nil => simp at hi
  | cons p l ih =>
    rw [List.map_cons, List.nodup_cons] at hn
    cases i with
    | zero => simp at hi; subst hi; simp [aput]
    | succ i =>
      simp only [List.getElem?_cons_succ] at hi
      have hne : p.1 ≠ k := fun e => hn.1 (List.mem_map.2 ⟨(k, u), List.mem_of_getElem? hi, e.symm⟩)
      simp [aput, hne, ih hn.2 hi]
theorem adel_some {l : List (κ × Value)} {k : κ} {u : Value} {i : Nat} (hn : (l.map (·.1)).Nodup) (hi : l[i]? = some (k, u)) : adel l k = l.eraseIdx i := by
  induction l generalizing i with
  | nil => simp at hi
  | cons p l ih =>
    rw [List.map_cons, List.nodup_cons] at hn
    cases i with
    | zero =>
      simp at hi; subst hi
      simp only [adel, List.eraseIdx_cons_zero]
      rw [List.filter_cons]
      simp
      intro a b hab e
      subst e
      exact hn.1 (List.mem_map.2 ⟨(a, b), hab, rfl⟩)
    | succ i =>
      simp only [List.getElem?_cons_succ] at hi
      have hne : p.1 ≠ k := fun e => hn.1 (List.mem_map.2 ⟨(k, u), List.mem_of_getElem? hi, e.symm⟩)
      have := ih hn.2 hi
      unfold adel at this ⊢
      rw [List.filter_cons, if_pos (by simpa using hne), this]
      rfl
theorem adel_none {l : List (κ × Value)} {k : κ} (h : ∀ p ∈ l, p.1 ≠ k) : adel l k = l := by
  unfold adel
  rw [List.filter_eq_self]
  intro p hp; simpa using h p hp

end

section
theorem map_erase {α β : Type} (f : α → β) : ∀ (l : List α) (i : Nat), (l.eraseIdx i).map f = (l.map f).eraseIdx i
  | [], _ => rfl
  | _ :: _, 0 => rfl
  | x :: l, i + 1 => by simp [map_erase f l i]
/-- A map's block, put anew. -/
theorem set_chg {h : Heap} {r : Nat} {o o' : Obj} (hb : h[r]? = some o) : Chg (fun x => x = r) h (h.setIfInBounds r o') ∧ (h.setIfInBounds r o')[r]? = some o' ∧ (h.setIfInBounds r o').size = h.size :=
  ⟨⟨by simp, fun b _ hf => by simp [Ne.symm hf]⟩, by simp [block_lt hb], by simp⟩
theorem At.set {E : Env} {h : Heap} {w : World} (a : At E h w) (r : Nat) (o : Obj) : At E (h.setIfInBounds r o) { w with heap := w.heap.setIfInBounds r o } := ⟨by simp [a.heap], a.os, a.tape, a.output⟩
end

namespace V
variable {κ : Type} [DecidableEq κ] {P : Program} {s : Slots} {h : Heap} {d : Option Tmp} {ty : TypeId} {pos : String} {af : Array Edge} {g : Option (Nat × Bool)} {x y c : Operand} {t u kt et : TypeId}

theorem lookup {kv : κ → Value} {dd : TypeDesc} (K : KV kv dd) {r : Nat} {l : List (κ × Value)} {k : κ} {z : Value} (hx : ev s x = .map (some r)) (hy : ev s y = kv k) (hm : MapT kv h r l) (ht : mpB P t = some (kt, et)) (hd : P.underlying kt = some dd) (hz : zrB P et = some z) :
    OpV P ⟨d, .lookup t x y false, ty, pos, af, g⟩ s h ((aget l k).getD z) := fun w hw => by
  have hn := hm.nodup
  obtain ⟨es, cl, hb, he, _⟩ := hm
  have hwb : w.heap[r]? = some (.map es cl) := by rw [hw]; exact hb
  rcases MapT.find K he hn k with ⟨h1, h2, _⟩ | ⟨i, e, h1, _, _, _, h2⟩
  · simp [execOp, hx, hy, Instr.lookup, run_und (mpB_iff ht), MapKept.run_getObj_map hwb, run_checkKey hd (K.key k), run_findKey hd h1, run_zrB hz, h2]
  · simp [execOp, hx, hy, Instr.lookup, run_und (mpB_iff ht), MapKept.run_getObj_map hwb, run_checkKey hd (K.key k), run_findKey hd h1, h2]
theorem lookupE {kv : κ → Value} {dd : TypeDesc} (K : KV kv dd) {r : Nat} {l : List (κ × Value)} {k : κ} {z v : Value} (hx : ev s x = .map (some r)) (hy : ev s y = kv k) (hm : MapT kv h r l) (ht : mpB P t = some (kt, et)) (hd : P.underlying kt = some dd) (hz : zrB P et = some z) (he : (aget l k).getD z = v) :
    OpV P ⟨d, .lookup t x y false, ty, pos, af, g⟩ s h v := he ▸ lookup K hx hy hm ht hd hz
theorem lookupOk {kv : κ → Value} {dd : TypeDesc} (K : KV kv dd) {r : Nat} {l : List (κ × Value)} {k : κ} {z : Value} (hx : ev s x = .map (some r)) (hy : ev s y = kv k) (hm : MapT kv h r l) (ht : mpB P t = some (kt, et)) (hd : P.underlying kt = some dd) (hz : zrB P et = some z) :
    OpV P ⟨d, .lookup t x y true, ty, pos, af, g⟩ s h (.tuple #[(aget l k).getD z, .bool (aget l k).isSome]) := fun w hw => by
  have hn := hm.nodup
  obtain ⟨es, cl, hb, he, _⟩ := hm
  have hwb : w.heap[r]? = some (.map es cl) := by rw [hw]; exact hb
  rcases MapT.find K he hn k with ⟨h1, h2, _⟩ | ⟨i, e, h1, _, _, _, h2⟩
  · simp [execOp, hx, hy, Instr.lookup, run_und (mpB_iff ht), MapKept.run_getObj_map hwb, run_checkKey hd (K.key k), run_findKey hd h1, run_zrB hz, h2]
  · simp [execOp, hx, hy, Instr.lookup, run_und (mpB_iff ht), MapKept.run_getObj_map hwb, run_checkKey hd (K.key k), run_findKey hd h1, h2]

theorem lookupOkE {kv : κ → Value} {dd : TypeDesc} (K : KV kv dd) {r : Nat} {l : List (κ × Value)} {k : κ} {z v : Value} {b : Bool} (hx : ev s x = .map (some r)) (hy : ev s y = kv k) (hm : MapT kv h r l) (ht : mpB P t = some (kt, et)) (hd : P.underlying kt = some dd) (hz : zrB P et = some z) (he : (aget l k).getD z = v) (hb : (aget l k).isSome = b) :
    OpV P ⟨d, .lookup t x y true, ty, pos, af, g⟩ s h (.tuple #[v, .bool b]) := by subst he hb; exact lookupOk K hx hy hm ht hd hz

/-- What a store into a map leaves. -/
structure Put (kv : κ → Value) (h : Heap) (r : Nat) (l' : List (κ × Value)) (h' : Heap) : Prop where
  map : MapT kv h' r l'
  chg : Chg (fun x => x = r) h h'
  size : h'.size = h.size

theorem run_mapUpdate {kv : κ → Value} {dd : TypeDesc} (K : KV kv dd) (hsb : ∀ a n, Instr.sameBits n (kv a) (kv a) = true) {r : Nat} {l : List (κ × Value)} {k : κ} {v : Value} (hm : MapT kv h r l) (ht : mpB P t = some (kt, et)) (hd : P.underlying kt = some dd) {E : Env} {w : World} (at' : At E h w) :
    ∃ h' w', Put kv h r (aput l k v) h' ∧ At E h' w' ∧ (Instr.mapUpdate t (.map (some r)) (kv k) v).run P w = .ok () w' := by
  have hn := hm.nodup
  obtain ⟨es, cl, hb, he, hs⟩ := hm
  have hwb : w.heap[r]? = some (.map es cl) := by rw [at'.heap]; exact hb
  rcases MapT.find K he hn k with ⟨h1, h2, h3⟩ | ⟨i, e, h1, h4, h5, h6, h2⟩
  · refine ⟨_, _, ?_, at'.set r (.map (es.push { key := kv k, val := v, born := cl }) (cl + 1)), ?_⟩
    · obtain ⟨c1, c2, c3⟩ := set_chg (o' := .map (es.push { key := kv k, val := v, born := cl }) (cl + 1)) hb
      refine ⟨⟨_, _, c2, ?_, ?_⟩, c1, c3⟩
      · rw [aput_none h3]; simp [he]
      · refine stamped_push hs ?_
        intro x hx e
        obtain ⟨i, hi⟩ := List.mem_iff_getElem?.1 hx
        obtain ⟨p, q1, q2, _⟩ := ents_at he hi
        exact h3 p (List.mem_of_getElem? q1) (K.inj _ _ (by rw [← q2, e]))
    · simp [Instr.mapUpdate, run_und (mpB_iff ht), MapKept.run_getObj_map hwb, run_checkKey hd (K.key k), run_findKey hd h1, run_setObj_map _ hwb]
  · have hei : es[i]? = some e := by rw [← Array.getElem?_toList]; exact h4
    refine ⟨_, _, ?_, at'.set r (.map (es.modify i fun e => { e with key := kv k, val := v }) cl), ?_⟩
    · obtain ⟨c1, c2, c3⟩ := set_chg (o' := .map (es.modify i fun e => { e with key := kv k, val := v }) cl) hb
      refine ⟨⟨_, _, c2, ?_, ?_⟩, c1, c3⟩
      · rw [aput_some hn h6]
        apply List.ext_getElem?
        intro j
        simp only [List.getElem?_map, Array.getElem?_toList, Array.getElem?_modify]
        have hj := congrArg (fun x => x[j]?) he
        simp only [List.getElem?_map, Array.getElem?_toList] at hj
        by_cases hij : i = j
        · subst hij
          have hil : i < l.length := (List.getElem?_eq_some_iff.1 h6).1
          simp [hei, hil]
        · simp [hij, hj]
      · exact stamped_modify hs i _ (fun _ _ => rfl) (fun x hx hxe => by rw [hei] at hxe; injection hxe with hxe; subst hxe; exact h5.symm)
    · have hb2 : Instr.sameBits 10000 e.key (kv k) = true := by rw [h5]; exact hsb k _
      simp [Instr.mapUpdate, run_und (mpB_iff ht), MapKept.run_getObj_map hwb, run_checkKey hd (K.key k), run_findKey hd h1, hei, Instr.keyThatStays, hb2, run_setObj_map _ hwb]

theorem mapUpdate {kv : κ → Value} {dd : TypeDesc} (K : KV kv dd) (hsb : ∀ a n, Instr.sameBits n (kv a) (kv a) = true) {r : Nat} {l : List (κ × Value)} {k : κ} {v : Value} (hx : ev s x = .map (some r)) (hy : ev s y = kv k) (hc : ev s c = v) (hm : MapT kv h r l) (ht : mpB P t = some (kt, et)) (hd : P.underlying kt = some dd) :
    OpUR P ⟨d, .mapUpdate t x y c, ty, pos, af, g⟩ s h (Put kv h r (aput l k v)) := fun E w at' => by
  obtain ⟨h', w', hp, at2, hr⟩ := run_mapUpdate (v := v) (k := k) K hsb hm ht hd at'
  exact ⟨h', w', hp, at2, by simp [execOp, hx, hy, hc, hr]⟩
theorem insert {kv : κ → Value} {dd : TypeDesc} (K : KV kv dd) (hsb : ∀ a n, Instr.sameBits n (kv a) (kv a) = true) {r : Nat} {l : List (κ × Value)} {k : κ} {v : Value} (hx : ev s x = .map (some r)) (hy : ev s y = kv k) (hc : ev s c = v) (hm : MapT kv h r l) (ht : mpB P t = some (kt, et)) (hd : P.underlying kt = some dd) :
    OpUR P ⟨d, .insert t x y c, ty, pos, af, g⟩ s h (Put kv h r (aput l k v)) := fun E w at' => by
  obtain ⟨h', w', hp, at2, hr⟩ := run_mapUpdate (v := v) (k := k) K hsb hm ht hd at'
  exact ⟨h', w', hp, at2, by simp [execOp, hx, hy, hc, hr]⟩
theorem sbI {k : IntKind} (a : Int) (n : Nat) : Instr.sameBits n (.int k a) (.int k a) = true := by cases n <;> simp [Instr.sameBits]
theorem sbT (a : ByteArray) (n : Nat) : Instr.sameBits n (.string a) (.string a) = true := by
  have h : (a == a) = true := (bytes_beq a a).2 rfl
  cases n <;> simp [Instr.sameBits, h]

theorem delete {kv : κ → Value} {dd : TypeDesc} (K : KV kv dd) {u' : TypeId} {r : Nat} {l : List (κ × Value)} {k : κ} (hx : ev s x = .map (some r)) (hy : ev s y = kv k) (hm : MapT kv h r l) (ht : mpB P t = some (kt, et)) (hd : P.underlying kt = some dd) :
    OpA P ⟨d, .call ⟨.builtin .delete, #[x, y], #[t, u']⟩, ty, pos, af, g⟩ s h (fun v h' => v = .tuple #[] ∧ Put kv h r (adel l k) h') := fun E w at' => by
  have hn := hm.nodup
  obtain ⟨es, cl, hb, he, hs⟩ := hm
  have hwb : w.heap[r]? = some (.map es cl) := by rw [at'.heap]; exact hb
  rcases MapT.find K he hn k with ⟨h1, h2, h3⟩ | ⟨i, e, h1, h4, h5, h6, h2⟩
  · refine ⟨_, _, _, ⟨rfl, ?_⟩, at'.set r (.map es cl), ?_⟩
    · obtain ⟨c1, c2, c3⟩ := set_chg (o' := .map es cl) hb
      exact ⟨⟨_, _, c2, by rw [adel_none h3]; exact he, hs⟩, c1, c3⟩
    · simp [execOp, resolve, invoke, builtin, hx, hy, Builtin.delete_, run_und (mpB_iff ht), MapKept.run_getObj_map hwb, run_checkKey hd (K.key k), run_findKey hd h1, run_setObj_map _ hwb]
  · have hi : i < es.size := by have := (List.getElem?_eq_some_iff.1 h4).1; simpa using this
    refine ⟨_, _, _, ⟨rfl, ?_⟩, at'.set r (.map (es.eraseIdxIfInBounds i) cl), ?_⟩
    · obtain ⟨c1, c2, c3⟩ := set_chg (o' := .map (es.eraseIdxIfInBounds i) cl) hb
      refine ⟨⟨_, _, c2, ?_, stamped_erase hs i⟩, c1, c3⟩
      rw [adel_some hn h6]
      unfold Array.eraseIdxIfInBounds
      rw [dif_pos hi, Array.toList_eraseIdx, map_erase, he, map_erase]
    · simp [execOp, resolve, invoke, builtin, hx, hy, Builtin.delete_, run_und (mpB_iff ht), MapKept.run_getObj_map hwb, run_checkKey hd (K.key k), run_findKey hd h1, run_setObj_map _ hwb]
end V
end Go.HL
