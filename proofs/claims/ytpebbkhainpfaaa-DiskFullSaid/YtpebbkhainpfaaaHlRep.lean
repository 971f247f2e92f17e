/- What values in memory read as: one relation for each type of plain data. Conditions: those that each fact names. -/
import Derived.Test.YtpebbkhainpfaaaHlSep
namespace Go.HL
open Go

/-- Data of k cells: what the cells read as in a heap, for the sake of the blocks F alone. -/
class Rep (α : Type) where
  k : Nat
  rd : Heap → (Nat → Prop) → List Value → α → Prop
  kpos : 0 < k
  len : ∀ {h F cs a}, rd h F cs a → cs.length = k
  one : ∀ {h F cs a}, rd h F cs a → ∀ u ∈ cs, u.oneCell' = true
  st : ∀ {G h h' F cs a}, Chg G h h' → (∀ j, F j → ¬ G j) → rd h F cs a → rd h' F cs a
  mono : ∀ {h} {F F' : Nat → Prop} {cs a}, (∀ j, F j → F' j) → rd h F cs a → rd h F' cs a
  lt : ∀ {h F cs a}, rd h F cs a → rd h (fun j => F j ∧ j < h.size) cs a
/-- One cell that hangs on no block. -/
@[reducible] def Rep.flat {α : Type} (f : α → Value) (h1 : ∀ a, (f a).oneCell' = true) : Rep α where
  k := 1
  rd _ _ cs a := cs = [f a]
  kpos := by omega
  len := fun h => by rw [h]; rfl
  one := fun h u hu => by rw [h, List.mem_singleton] at hu; subst hu; exact h1 _
  st := fun _ _ h => h
  mono := fun _ h => h
  lt := fun h => h
instance : Rep UInt8 := Rep.flat bv fun _ => rfl
instance : Rep Int := Rep.flat iv fun _ => rfl
instance : Rep Bool := Rep.flat Value.bool fun _ => rfl
instance : Rep ByteArray := Rep.flat Value.string fun _ => rfl
def u64v (x : UInt64) : Value := .int .u64 x.toNat
def u32v (x : UInt32) : Value := .int .u32 x.toNat
instance : Rep UInt64 := Rep.flat u64v fun _ => rfl
instance : Rep UInt32 := Rep.flat u32v fun _ => rfl

variable {α : Type} [Rep α]
/-- A slice: its cells lie in a block of F, what its elements lead to in blocks of E. -/
structure RdL (h : Heap) (F E : Nat → Prop) (x : SV) (l : List α) : Prop where
  n : x.2.1 = l.length
  c : x.2.1 ≤ x.2.2
  m : x.2.2 ≤ 9223372036854775807
  at' : 0 < l.length → ∃ b o, x.1 = some ⟨b, o, none⟩ ∧ F b ∧ ∀ i (hi : i < l.length), ∃ cs, Rep.rd h E cs l[i] ∧ ∀ j v, cs[j]? = some v → cell h b (o + i * Rep.k α + j) = some v

section
variable {h h' : Heap} {F F' E E' G : Nat → Prop} {x : SV} {l : List α}
theorem RdL.st (c : Chg G h h') (hF : ∀ j, F j → ¬ G j) (hE : ∀ j, E j → ¬ G j) (r : RdL h F E x l) : RdL h' F E x l :=
  ⟨r.n, r.c, r.m, fun hp => by
    obtain ⟨b, o, e, hb, hc⟩ := r.at' hp
    refine ⟨b, o, e, hb, fun i hi => ?_⟩
    obtain ⟨cs, h1, h2⟩ := hc i hi
    exact ⟨cs, Rep.st c hE h1, fun j v hj => c.cell (h2 j v hj) (hF b hb)⟩⟩
theorem RdL.ext (c : Ext h h') (r : RdL h F E x l) : RdL h' F E x l := r.st c (fun _ _ f => f) (fun _ _ f => f)
theorem RdL.mono (hF : ∀ j, F j → F' j) (hE : ∀ j, E j → E' j) (r : RdL h F E x l) : RdL h F' E' x l :=
  ⟨r.n, r.c, r.m, fun hp => by
    obtain ⟨b, o, e, hb, hc⟩ := r.at' hp
    refine ⟨b, o, e, hF b hb, fun i hi => ?_⟩
    obtain ⟨cs, h1, h2⟩ := hc i hi
    exact ⟨cs, Rep.mono hE h1, h2⟩⟩
theorem RdL.lt (r : RdL h F E x l) : RdL h (fun j => F j ∧ j < h.size) (fun j => E j ∧ j < h.size) x l :=
  ⟨r.n, r.c, r.m, fun hp => by
    obtain ⟨b, o, e, hb, hc⟩ := r.at' hp
    obtain ⟨cs0, g1, g2⟩ := hc 0 hp
    have g3 := Rep.len g1
    have g4 := Rep.kpos (α := α)
    have hlt : b < h.size := cell_lt (g2 0 (cs0[0]'(by omega)) (by simp))
    refine ⟨b, o, e, ⟨hb, hlt⟩, fun i hi => ?_⟩
    obtain ⟨cs, h1, h2⟩ := hc i hi
    exact ⟨cs, Rep.lt h1, h2⟩⟩
theorem RdL.nil (h : Heap) (F E : Nat → Prop) : RdL h F E (none, 0, 0) ([] : List α) := ⟨rfl, Nat.le_refl _, by simp, fun h => absurd h (by simp)⟩
theorem RdL.pos {a : Option Addr} {n c : Nat} (r : RdL h F E (a, n, c) l) (hp : 0 < l.length) : ∃ b o, a = some ⟨b, o, none⟩ ∧ F b := let ⟨b, o, e, hb, _⟩ := r.at' hp; ⟨b, o, e, hb⟩
theorem RdL.el {b o n c : Nat} (r : RdL h F E (some ⟨b, o, none⟩, n, c) l) {i : Nat} (hi : i < l.length) : ∃ cs, Rep.rd h E cs l[i] ∧ ∀ j v, cs[j]? = some v → cell h b (o + i * Rep.k α + j) = some v := by
  obtain ⟨b', o', e, _, hc⟩ := r.at' (by omega)
  injection e with e; injection e with e1 e2; subst e1 e2
  exact hc i hi
theorem RdL.form (r : RdL h F E x l) : ∃ a c, x = (a, l.length, c) ∧ l.length ≤ c ∧ c ≤ 9223372036854775807 := by
  obtain ⟨a, n, c⟩ := x
  obtain ⟨h1, h2, h3, _⟩ := r
  simp only at h1 h2 h3
  subst h1
  exact ⟨a, c, rfl, h2, h3⟩
end
instance {α : Type} [Rep α] : Rep (List α) where
  k := 1
  rd h F cs l := ∃ x : SV, cs = [sv x] ∧ RdL h F F x l
  kpos := by omega
  len := fun ⟨_, h, _⟩ => by rw [h]; rfl
  one := fun ⟨_, h, _⟩ u hu => by rw [h, List.mem_singleton] at hu; subst hu; rfl
  st := fun c d ⟨x, e, r⟩ => ⟨x, e, r.st c d d⟩
  mono := fun d ⟨x, e, r⟩ => ⟨x, e, r.mono d d⟩
  lt := fun ⟨x, e, r⟩ => ⟨x, e, r.lt⟩

/-- A slice that is read, as an item. -/
@[reducible] def rdI (F E : Nat → Prop) (x : SV) (l : List α) : Itm := ⟨fun h => RdL h F E x l, fun j => F j ∨ E j, fun _ _ _ c d r => r.st c (fun j hj => d j (.inl hj)) (fun j hj => d j (.inr hj))⟩
/-- Cells that are read. -/
@[reducible] def celI (b o : Nat) (cs : List Value) : Itm := ⟨fun h => ∀ j v, cs[j]? = some v → cell h b (o + j) = some v, fun j => j = b, fun _ _ _ c d r j v hj => c.cell (r j v hj) (d b rfl)⟩
/-- Elements' cells: what they read as. -/
@[reducible] def elsI (E : Nat → Prop) (css : List (List Value)) (l : List α) : Itm := ⟨fun h => All2 (Rep.rd h E) css l, E, fun _ _ _ c d r => r.mono fun _ _ q => Rep.st c d q⟩

/-! ### Between readings -/
section
variable {h h' : Heap} {F E G : Nat → Prop} {x : SV}
theorem RdL.u8 {l : List UInt8} {b o n c : Nat} (r : RdL h F E (some ⟨b, o, none⟩, n, c) l) {i : Nat} (hi : i < l.length) : cell h b (o + i) = some (.int .u8 l[i].toNat) := by
  obtain ⟨cs, h1, h2⟩ := r.el hi
  have h3 : cs = [.int .u8 l[i].toNat] := h1
  subst h3
  have := h2 0 _ rfl
  simpa [Rep.k] using this
theorem RdL.i64 {l : List Int} {b o n c : Nat} (r : RdL h F E (some ⟨b, o, none⟩, n, c) l) {i : Nat} (hi : i < l.length) : cell h b (o + i) = some (.int .i64 l[i]) := by
  obtain ⟨cs, h1, h2⟩ := r.el hi
  have h3 : cs = [.int .i64 l[i]] := h1
  subst h3
  have := h2 0 _ rfl
  simpa [Rep.k] using this
theorem RdL.str {l : List ByteArray} {b o n c : Nat} (r : RdL h F E (some ⟨b, o, none⟩, n, c) l) {i : Nat} (hi : i < l.length) : cell h b (o + i) = some (.string l[i]) := by
  obtain ⟨cs, h1, h2⟩ := r.el hi
  have h3 : cs = [.string l[i]] := h1
  subst h3
  have := h2 0 _ rfl
  simpa [Rep.k] using this
/-- A row of slices: the slice at a place. -/
theorem RdL.row {β : Type} [Rep β] {l : List (List β)} {b o n c : Nat} (r : RdL h F E (some ⟨b, o, none⟩, n, c) l) {i : Nat} (hi : i < l.length) : ∃ (a : Option Addr) (c' : Nat), cell h b (o + i) = some (.slice a l[i].length c') ∧ RdL h E E (a, l[i].length, c') l[i] := by
  obtain ⟨cs, ⟨y, rfl, h1⟩, h2⟩ := r.el hi
  obtain ⟨a, c', rfl, _⟩ := h1.form
  have := h2 0 _ rfl
  exact ⟨a, c', by simpa [Rep.k] using this, h1⟩
/-- Slices of one cell an element. -/
theorem RdL.of_sl {α : Type} [Rep α] {f : α → Value} (hk : Rep.k α = 1) (hf : ∀ h E a, Rep.rd h E [f a] a) {l : List α} (r : Sl h 1 (sv x) (l.map f)) : RdL h (blk (sv x)) E x l := by
  obtain ⟨a, n, c⟩ := x
  obtain ⟨a', n', c', hv, h1, h2, h3⟩ := r
  have hv : Value.slice a n c = .slice a' n' c' := hv
  injection hv with e1 e2 e3; subst e1 e2 e3
  have hl : l.length = n := by have := h3.len; simpa using this
  refine ⟨hl.symm, h1, h2, fun hp => ?_⟩
  obtain ⟨b, o, rfl, hc⟩ := h3.pos (by omega)
  exact ⟨b, o, rfl, ⟨o, n, c, rfl, by omega⟩, fun i hi => ⟨[f l[i]], hf _ _ _, fun j v hj => by
    rw [hk]
    have hj0 : j = 0 := by have := (List.getElem?_eq_some_iff.1 hj).1; simpa using this
    subst hj0
    simp at hj
    subst hj
    simpa using hc i _ (map_at hi)⟩⟩
theorem RdL.to_sl {α : Type} [Rep α] {f : α → Value} (hk : Rep.k α = 1) (hf : ∀ h E cs a, Rep.rd h E cs a → cs = [f a]) {l : List α} (r : RdL h F E x l) : Sl h 1 (sv x) (l.map f) := by
  obtain ⟨a, n, c⟩ := x
  have hn : n = l.length := r.n
  refine ⟨a, n, c, rfl, r.c, r.m, ?_, fun hp => ?_⟩
  · simp; omega
  · obtain ⟨b, o, e, _, hc⟩ := r.at' (by omega)
    simp at e
    subst e
    refine ⟨b, o, rfl, fun i v hi => ?_⟩
    have hil : i < l.length := by have := (List.getElem?_eq_some_iff.1 hi).1; simpa using this
    obtain ⟨cs, h1, h2⟩ := hc i hil
    have := hf _ _ _ _ h1
    subst this
    rw [map_at hil] at hi
    injection hi with hi
    subst hi
    have := h2 0 _ rfl
    simpa [hk] using this
theorem RdL.ofBytes {l : List UInt8} (r : Bytes h (sv x) l) : RdL h (blk (sv x)) E x l := RdL.of_sl rfl (fun _ _ _ => rfl) r
theorem RdL.by {l : List UInt8} (r : RdL h F E x l) : Bytes h (sv x) l := RdL.to_sl rfl (fun _ _ _ _ h => h) r
theorem RdL.ofInts {l : List Int} (r : Ints h (sv x) l) : RdL h (blk (sv x)) E x l := RdL.of_sl rfl (fun _ _ _ => rfl) r
theorem RdL.ints {l : List Int} (r : RdL h F E x l) : Ints h (sv x) l := RdL.to_sl rfl (fun _ _ _ _ h => h) r
theorem blk_lt {k : Nat} {v : Value} {xs : List Value} (hk : 0 < k) (r : Sl h k v xs) : ∀ j, blk v j → j < h.size := fun j hj => by
  obtain ⟨o, n, c, rfl, hn⟩ := hj
  have h1 := r.cells
  obtain ⟨b, o', e, hc⟩ := h1.pos hn
  injection e with e; injection e with e1 e2; subst e1 e2
  have h2 : 0 < xs.length := by rw [h1.1]; exact Nat.mul_pos hn hk
  exact cell_lt (hc 0 xs[0] (by simp))
end

theorem flatten_len {k : Nat} : ∀ {css : List (List Value)}, (∀ cs ∈ css, cs.length = k) → css.flatten.length = css.length * k
  | [], _ => by simp
  | cs :: l, h => by
    have h1 := h cs List.mem_cons_self
    have h2 := flatten_len (k := k) (css := l) fun c hc => h c (List.mem_cons_of_mem _ hc)
    simp only [List.flatten_cons, List.length_append, List.length_cons, Nat.add_mul, h1, h2]; omega
theorem flatten_at {k : Nat} : ∀ {css : List (List Value)}, (∀ cs ∈ css, cs.length = k) → ∀ (i j : Nat) (hi : i < css.length), j < k → css.flatten[i * k + j]? = css[i][j]?
  | cs :: l, h, 0, j, _, hj => by
    have h1 := h cs List.mem_cons_self
    simp only [List.flatten_cons, Nat.zero_mul, Nat.zero_add]
    rw [List.getElem?_append_left (by omega)]; rfl
  | cs :: l, h, i + 1, j, hi, hj => by
    have h1 := h cs List.mem_cons_self
    have h2 := flatten_at (k := k) (css := l) (fun c hc => h c (List.mem_cons_of_mem _ hc)) i j (by simpa using hi) hj
    simp only [List.flatten_cons]
    rw [List.getElem?_append_right (by rw [h1, Nat.add_mul]; omega), h1]
    have : (i + 1) * k + j - k = i * k + j := by rw [Nat.add_mul]; omega
    rw [this, h2]; rfl
/-- A slice that was made, with what its elements read as. -/
theorem RdL.of_cap {h : Heap} {E : Nat → Prop} {e : TypeId} {x : SV} {css : List (List Value)} {l : List α} (c : Cap h (Rep.k α) e (sv x) css.flatten) (r : All2 (Rep.rd h E) css l) : RdL h (blkC (sv x)) E x l := by
  obtain ⟨a, n, c'⟩ := x
  have hk := Rep.kpos (α := α)
  have hlen : ∀ cs ∈ css, cs.length = Rep.k α := fun cs hcs => by
    obtain ⟨i, hi, rfl⟩ := List.mem_iff_getElem.1 hcs
    exact Rep.len (r.2 i hi (by have := r.1; omega))
  have hs : Sl h (Rep.k α) (.slice a n c') css.flatten := c.sl
  have hn : css.length = n := by
    have h1 := hs.cells.1
    rw [flatten_len hlen] at h1
    exact Nat.eq_of_mul_eq_mul_right hk h1
  refine ⟨by have := r.1; simp; omega, c.le, c.bd, fun hp => ?_⟩
  have hn0 : 0 < n := by have := r.1; omega
  obtain ⟨b, o, rfl, hc⟩ := hs.cells.pos hn0
  refine ⟨b, o, rfl, ⟨o, n, c', rfl⟩, fun i hi => ⟨css[i]'(by have := r.1; omega), r.2 i _ hi, fun j v hj => ?_⟩⟩
  have h1 : i < css.length := by have := r.1; omega
  have h2 : j < Rep.k α := by
    have h3 := (List.getElem?_eq_some_iff.1 hj).1
    rwa [hlen _ (List.getElem_mem h1)] at h3
  rw [Nat.add_assoc]
  exact hc _ _ (by rw [flatten_at hlen i j h1 h2]; exact hj)
theorem RdL.of_cap1 {f : α → Value} {h : Heap} {E : Nat → Prop} {e : TypeId} {x : SV} {l : List α} (hk : Rep.k α = 1) (hf : ∀ h E a, Rep.rd h E [f a] a) (c : Cap h 1 e (sv x) (l.map f)) : RdL h (blkC (sv x)) E x l :=
  (RdL.of_sl hk hf c.sl).mono (fun _ ⟨o, n, c, e, _⟩ => ⟨o, n, c, e⟩) (fun _ h => h)

/-! ### What calls leave -/
/-- A slice that is new, and all that it leads to. -/
def RetL (h : Heap) (l : List α) (v : Value) (h' : Heap) : Prop := ∃ x : SV, v = sv x ∧ Ext h h' ∧ RdL h' (Nw h h') (Nw h h') x l
section
variable {h0 h h' : Heap} {D : Nat → Prop} {M R : List Itm} {x : SV} {k : Nat} {e : TypeId} {xs : List Value} {l : List α}
theorem Hp.own {a : Option Addr} {n c : Nat} (ok : Hp h0 D M R h) (o : Own h h' k e (.slice a n c) xs) : Hp h0 D (capI k e (a, n, c) xs :: M) R h' := ok.newM o.ext _ o.cap fun j hj => ⟨o.fresh j hj, o.cap.lt hj⟩
theorem Hp.ret (ok : Hp h0 D M R h) (c : Ext h h') (r : RdL h' (Nw h h') (Nw h h') x l) : Hp h0 D M (rdI (Nw h h') (Nw h h') x l :: R) h' := ok.newR c _ r fun _ hj => hj.elim id id
theorem Hp.fresh {a : Itm} (ok : Hp h0 none_ (a :: M) R h) : ∀ j, a.F j → Nw h0 h j := fun j hj =>
  have h1 := (ok.m a (by simp)).2 j hj
  ⟨h1.2.elim (fun f => f.elim) id, h1.1⟩
theorem Hp.toOwn (ok : Hp h0 none_ (capI k e x xs :: M) R h) : Own h0 h k e (sv x) xs := ⟨ok.m0, ok.chg, fun j hj => (ok.fresh j hj).1⟩
/-- What was there is read as before. -/
theorem Hp.arg (ok : Hp h0 D [] R h) {F E : Nat → Prop} (r : RdL h F E x l) : Hp h0 D [] (rdI (fun j => F j ∧ j < h.size) (fun j => E j ∧ j < h.size) x l :: R) h := ok.old _ r.lt fun _ hj => hj.elim (·.2) (·.2)
/-- An element's part. -/
theorem Hp.bytes (ok : Hp h0 D [] R h) {l : List UInt8} (r : Bytes h (sv x) l) : Hp h0 D [] (rdI (blk (sv x)) none_ x l :: R) h := ok.old _ (RdL.ofBytes r) fun j hj => hj.elim (blk_lt (by omega) r j) fun f => f.elim
theorem Hp.frzB (ok : Hp h0 D (capI 1 e x xs :: M) R h) {l : List UInt8} (hx : xs = l.map bv) : Hp h0 D M (rdI (blkC (sv x)) none_ x l :: R) h :=
  (ok.re (rdI (blkC (sv x)) none_ x l) (RdL.of_cap1 rfl (fun _ _ _ => rfl) (by have := ok.m0; rw [hx] at this; exact this)) fun _ hj => hj.elim id fun f => f.elim).frz
theorem Hp.frzI (ok : Hp h0 D (capI 1 e x xs :: M) R h) {l : List Int} (hx : xs = l.map iv) : Hp h0 D M (rdI (blkC (sv x)) none_ x l :: R) h :=
  (ok.re (rdI (blkC (sv x)) none_ x l) (RdL.of_cap1 rfl (fun _ _ _ => rfl) (by have := ok.m0; rw [hx] at this; exact this)) fun _ hj => hj.elim id fun f => f.elim).frz
end
end Go.HL
namespace Go.HL
open Go
section
variable {h0 h h' : Heap} {D : Nat → Prop} {M R : List Itm} {x : SV} {k : Nat} {e : TypeId} {xs ys : List Value}
theorem Own.form3 {v : Value} (o : Own h h' k e v xs) : ∃ a n c, v = .slice a n c := let ⟨a, n, c, e, _⟩ := o.cap; ⟨a, n, c, e⟩
/-- What grows out of an item that is read, by new blocks alone. -/
theorem Hp.grow (ok : Hp h0 D M R h) (c : Ext h h') {r : Itm} (hr : r ∈ R) (it : Itm) (hp : it.p h') (hF : ∀ j, it.F j → r.F j ∨ Nw h h' j) : Hp h0 D M (it :: R) h' :=
  have o := ok.ext c
  ⟨o.chg, o.m, fun i hi => by
    rcases List.mem_cons.1 hi with rfl | hi
    · exact ⟨hp, fun j hj => (hF j hj).elim (fun h1 => (o.r r hr).2 j h1) (·.2)⟩
    · exact o.r i hi, o.mm, fun a ha b hb j hj hb2 => by
    rcases List.mem_cons.1 hb with rfl | hb
    · rcases hF j hb2 with h1 | h1
      · exact o.mr a ha r hr j hj h1
      · have := ((ok.m a ha).2 j hj).1
        have := h1.1
        omega
    · exact o.mr a ha b hb j hj hb2⟩
/-- An item that may turn, made of new blocks that the first item does not take, while that one turned. -/
theorem Hp.newBeside {a a' : Itm} {G : Nat → Prop} (ok : Hp h0 D (a :: M) R h) (c : Chg G h h') (hG : ∀ j, G j → a.F j) (hp : a'.p h') (hF : ∀ j, a'.F j → a.F j ∨ (h.size ≤ j ∧ j < h'.size)) (it : Itm) (hi : it.p h') (hN : ∀ j, it.F j → h.size ≤ j ∧ j < h'.size ∧ ¬ a'.F j) : Hp h0 D (it :: a' :: M) R h' := by
  have o := ok.upd c hG a' hp hF
  refine ⟨o.chg, fun i hm => ?_, o.r, List.pairwise_cons.2 ⟨fun b hb j hj hb2 => ?_, o.mm⟩, fun x hx b hb j hj hb2 => ?_⟩
  · rcases List.mem_cons.1 hm with rfl | hm
    · exact ⟨hi, fun j hj => ⟨(hN j hj).2.1, .inr (Nat.le_trans ok.chg.size (hN j hj).1)⟩⟩
    · exact o.m i hm
  · rcases List.mem_cons.1 hb with rfl | hb
    · exact (hN j hj).2.2 hb2
    · have := ((ok.m b (List.mem_cons_of_mem _ hb)).2 j hb2).1
      have := (hN j hj).1
      omega
  · rcases List.mem_cons.1 hx with rfl | hx
    · have := (ok.r b hb).2 j hb2
      have := (hN j hj).1
      omega
    · exact o.mr x hx b hb j hj hb2
theorem Cap.u8 {l : List UInt8} {b o n c : Nat} (r : Cap h 1 e (.slice (some ⟨b, o, none⟩) n c) (l.map bv)) {i : Nat} (hi : i < l.length) : cell h b (o + i) = some (.int .u8 l[i].toNat) := by
  obtain ⟨b', o', he, hc⟩ := r.sl.cells.pos (by have := r.sl.cells.1; simp at this; omega)
  injection he with he; injection he with e1 e2; subst e1 e2
  exact hc i _ (map_at hi)
theorem u8_succ (x : UInt8) : IntKind.wrap .u8 ((x.toNat : Int) + 1) = ((x + 1).toNat : Int) := by
  have h1 := x.toNat_lt
  by_cases h : x.toNat = 255
  · have : x = 255 := UInt8.toNat_inj.1 (by simpa using h)
    subst this; rfl
  · rw [IntWalk.u8_in _ (by omega), UInt8.toNat_add]
    simp; omega
theorem Hp.nilC (ok : Hp h0 D M R h) : Hp h0 D (capI k e (none, 0, 0) [] :: M) R h :=
  ok.newM (Ext.refl h) _ (Cap.nil _ _ _) fun j ⟨o, n, c, e⟩ => by cases e
theorem Hp.cx (ok : Hp h0 D (capI k e x xs :: M) R h) (q : xs = ys) : Hp h0 D (capI k e x ys :: M) R h := q ▸ ok
theorem Hp.cx1 {a : Itm} (ok : Hp h0 D (a :: capI k e x xs :: M) R h) (q : xs = ys) : Hp h0 D (a :: capI k e x ys :: M) R h := q ▸ ok
theorem Hp.cx2 {a b : Itm} (ok : Hp h0 D (a :: b :: capI k e x xs :: M) R h) (q : xs = ys) : Hp h0 D (a :: b :: capI k e x ys :: M) R h := q ▸ ok
theorem snocB {l : List UInt8} {x : UInt8} : l.map bv ++ [.int .u8 x.toNat] = (l ++ [x]).map bv := by simp [bv]
theorem snocI {l : List Int} {x : Int} : l.map iv ++ [.int .i64 x] = (l ++ [x]).map iv := by simp [iv]
theorem snocF {α : Type} {f : α → List Value} {l : List α} {x : α} : l.flatMap f ++ f x = (l ++ [x]).flatMap f := by simp
theorem bv_all {l : List UInt8} : ∀ u ∈ l.map bv, u.oneCell' = true := fun u hu => by
  obtain ⟨x, _, rfl⟩ := List.mem_map.1 hu; rfl
theorem iv_all {l : List Int} : ∀ u ∈ l.map iv, u.oneCell' = true := fun u hu => by
  obtain ⟨x, _, rfl⟩ := List.mem_map.1 hu; rfl
theorem load_ag {P : Program} {b : Nat} {t e : TypeId} {cs : List Value} (ha : agB P t = some true) (hb : h[b]? = some (.cells cs.toArray e (0, 0))) (hs : szB P t = some cs.length) : LoadIs P h t ⟨b, 0, none⟩ (.agg cs.toArray) := load_agg cs ha hs (cells0 hb)
theorem load_1 {P : Program} {b : Nat} {t e : TypeId} {v : Value} {l : List Value} (ha : agB P t = some false) (hb : h[b]? = some (.cells (v :: l).toArray e (0, 0))) : LoadIs P h t ⟨b, 0, none⟩ v := load_one ha (by rw [cell_of hb]; simp)
end
end Go.HL
namespace Go.HL
open Go
theorem sl_at {α : Type} {f : α → List Value} {h : Heap} {k b o n c : Nat} (hf : ∀ x, (f x).length = k) {l : List α} (r : Sl h k (.slice (some ⟨b, o, none⟩) n c) (l.flatMap f)) {i j : Nat} (hi : i < l.length) {v : Value} (hv : (f l[i])[j]? = some v) : cell h b (o + i * k + j) = some v := by
  have hl := r.cells.1
  rw [flat_len hf] at hl
  have hj : j < k := by have := (List.getElem?_eq_some_iff.1 hv).1; rwa [hf] at this
  have hn : 0 < n := by
    rcases Nat.eq_zero_or_pos n with e | e
    · subst e
      have : 0 < l.length * k := Nat.mul_pos (by omega) (by omega)
      omega
    · exact e
  obtain ⟨b', o', e, hc⟩ := r.cells.pos hn
  injection e with e; injection e with e1 e2; subst e1 e2
  exact cell_at hf hc hi hv
theorem sl_ats {α : Type} {f : α → List Value} {h : Heap} {k b o n c : Nat} (hf : ∀ x, (f x).length = k) {l : List α} (r : Sl h k (.slice (some ⟨b, o, none⟩) n c) (l.flatMap f)) {i : Nat} (hi : i < l.length) : ∀ j v, (f l[i])[j]? = some v → cell h b (o + i * k + j) = some v := fun _ _ hv => sl_at hf r hi hv
theorem Sl.pos {h : Heap} {k : Nat} {a : Option Addr} {n c : Nat} {xs : List Value} (r : Sl h k (.slice a n c) xs) (hn : 0 < n) : ∃ b o, a = some ⟨b, o, none⟩ ∧ blk (.slice a n c) b := by
  obtain ⟨b, o, rfl, _⟩ := r.cells.pos hn
  exact ⟨b, o, rfl, o, n, c, rfl, hn⟩
theorem Cap.pos {h : Heap} {k : Nat} {e : TypeId} {a : Option Addr} {n c : Nat} {xs : List Value} (r : Cap h k e (.slice a n c) xs) (hn : 0 < n) : ∃ b o, a = some ⟨b, o, none⟩ ∧ blkC (.slice a n c) b := by
  obtain ⟨b, o, rfl, _⟩ := r.sl.pos hn
  exact ⟨b, o, rfl, o, n, c, rfl⟩
theorem Sl.sz {α : Type} {f : α → List Value} {h : Heap} {k : Nat} {a : Option Addr} {n c : Nat} {l : List α} (r : Sl h k (.slice a n c) (l.flatMap f)) (hf : ∀ x, (f x).length = k) (hk : 0 < k) : l.length = n ∧ n ≤ c ∧ c ≤ 9223372036854775807 := by
  have hl := r.cells.1
  rw [flat_len hf] at hl
  obtain ⟨a', n', c', hv, h1, h2, _⟩ := r
  injection hv with e1 e2 e3; subst e1 e2 e3
  exact ⟨Nat.eq_of_mul_eq_mul_right hk hl, h1, h2⟩
theorem blk_toC {v : Value} {j : Nat} (h : blk v j) : blkC v j := let ⟨o, n, c, e, _⟩ := h; ⟨o, n, c, e⟩
theorem All2.inv {α β : Type} {R : α → β → Prop} {a : α} {b : β} {l : List α} {m : List β} (h : All2 R (a :: l) (b :: m)) : R a b ∧ All2 R l m :=
  ⟨h.2 0 (by simp) (by simp), by have := h.1; simpa using this, fun i h1 h2 => h.2 (i + 1) (by simpa using h1) (by simpa using h2)⟩
theorem All2.filter {α β : Type} {R : α → β → Prop} {f : α → Bool} {g : β → Bool} (hfg : ∀ a b, R a b → f a = g b) : ∀ {l : List α} {m : List β}, All2 R l m → All2 R (l.filter f) (m.filter g)
  | [], [], _ => All2.nil
  | [], _ :: _, h => by have := h.1; simp at this
  | _ :: _, [], h => by have := h.1; simp at this
  | a :: l, b :: m, h => by
    obtain ⟨h1, h2⟩ := h.inv
    have h3 := All2.filter hfg h2
    rw [List.filter_cons, List.filter_cons, hfg a b h1]
    cases g b
    · simpa using h3
    · simpa using All2.cons h1 h3
theorem All2.take {α β : Type} {R : α → β → Prop} {l : List α} {m : List β} (h : All2 R l m) (k : Nat) : All2 R (l.take k) (m.take k) :=
  ⟨by simp [h.1], fun i h1 h2 => by simp at h1 h2; simp only [List.getElem_take]; exact h.2 i _ _⟩
theorem All2.map {α β γ : Type} {R : α → β → Prop} {R' : γ → β → Prop} {f : α → γ} {l : List α} {m : List β} (h : All2 R l m) (hr : ∀ a b, R a b → R' (f a) b) : All2 R' (l.map f) m :=
  ⟨by simp [h.1], fun i h1 h2 => by simp at h1 ⊢; exact hr _ _ (h.2 i _ _)⟩
end Go.HL
