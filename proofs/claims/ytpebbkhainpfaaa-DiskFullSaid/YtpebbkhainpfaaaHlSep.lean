/- Memory as a list of separate items that may turn, and a list of items that are read alone. Conditions: those that each fact names. -/
import Derived.Test.YtpebbkhainpfaaaHlC
namespace Go.HL
open Go

/-- Something that holds of a heap for the sake of some blocks alone. -/
structure Itm where
  p : Heap → Prop
  F : Nat → Prop
  st : ∀ (G : Nat → Prop) (h h' : Heap), Chg G h h' → (∀ j, F j → ¬ G j) → p h → p h'

/-- A block of cells that is known whole. -/
@[reducible] def boxI (b : Nat) (t : TypeId) (cs : List Value) : Itm := ⟨fun h => h[b]? = some (.cells cs.toArray t (0, 0)), fun j => j = b, fun _ _ _ c d hp => c.block hp (d b rfl)⟩
/-- A slice that may be written and appended to. -/
@[reducible] def capI (k : Nat) (e : TypeId) (x : SV) (xs : List Value) : Itm := ⟨fun h => Cap h k e (sv x) xs, blkC (sv x), fun _ _ _ c d hp => hp.chg c d⟩
/-- A slice that is read. -/
@[reducible] def rowI (k : Nat) (x : SV) (xs : List Value) : Itm := ⟨fun h => Sl h k (sv x) xs, blk (sv x), fun _ _ _ c d hp => Sl.chg c hp d⟩
/-- A map. -/
@[reducible] def mapI {κ : Type} (kv : κ → Value) (r : Nat) (l : List (κ × Value)) : Itm := ⟨fun h => MapT kv h r l, fun j => j = r, fun _ _ _ c d hp => hp.chg c (d r rfl)⟩
/-- Anything else, of a footprint. -/
@[reducible] def anyI (F : Nat → Prop) (p : Heap → Prop) (st : ∀ (G : Nat → Prop) (h h' : Heap), Chg G h h' → (∀ j, F j → ¬ G j) → p h → p h') : Itm := ⟨p, F, st⟩

/-- The items: M may turn and are apart from each other and from R. Of what was there at h0, nothing but D has turned. -/
structure Hp (h0 : Heap) (D : Nat → Prop) (M R : List Itm) (h : Heap) : Prop where
  chg : Chg D h0 h
  m : ∀ i ∈ M, i.p h ∧ ∀ j, i.F j → j < h.size ∧ (D j ∨ h0.size ≤ j)
  r : ∀ i ∈ R, i.p h ∧ ∀ j, i.F j → j < h.size
  mm : M.Pairwise fun a b => ∀ j, a.F j → ¬ b.F j
  mr : ∀ a ∈ M, ∀ b ∈ R, ∀ j, a.F j → ¬ b.F j

/-- What a call made. -/
def Nw (h h' : Heap) (j : Nat) : Prop := h.size ≤ j ∧ j < h'.size
def Old (h : Heap) (j : Nat) : Prop := j < h.size

section
variable {h0 h h' : Heap} {D G : Nat → Prop} {M R : List Itm} {a b c d e f : Itm}
theorem Hp.nil (h : Heap) (D : Nat → Prop) : Hp h D [] [] h := ⟨Chg.refl _ _, by simp, by simp, .nil, by simp⟩
/-- What was there at the start, and is read alone. -/
theorem Hp.old (ok : Hp h0 D [] R h) (it : Itm) (hp : it.p h) (hF : ∀ j, it.F j → j < h.size) : Hp h0 D [] (it :: R) h :=
  ⟨ok.chg, by simp, fun i hi => by
    rcases List.mem_cons.1 hi with rfl | hi
    · exact ⟨hp, hF⟩
    · exact ok.r i hi, .nil, by simp⟩
/-- What was there at the start, and may turn. -/
theorem Hp.obj (ok : Hp h0 D M R h) (it : Itm) (hp : it.p h) (hF : ∀ j, it.F j → j < h.size ∧ D j) (hm : ∀ b ∈ M, ∀ j, it.F j → ¬ b.F j) (hr : ∀ b ∈ R, ∀ j, it.F j → ¬ b.F j) : Hp h0 D (it :: M) R h :=
  ⟨ok.chg, fun i hi => by
    rcases List.mem_cons.1 hi with rfl | hi
    · exact ⟨hp, fun j hj => ⟨(hF j hj).1, .inl (hF j hj).2⟩⟩
    · exact ok.m i hi, ok.r, List.pairwise_cons.2 ⟨hm, ok.mm⟩, fun a ha b hb => by
    rcases List.mem_cons.1 ha with rfl | ha
    · exact hr b hb
    · exact ok.mr a ha b hb⟩
theorem Hp.ext (ok : Hp h0 D M R h) (x : Ext h h') : Hp h0 D M R h' :=
  ⟨ok.chg.trans' x (fun _ _ f => f.elim), fun i hi => ⟨i.st _ _ _ x (fun _ _ f => f) (ok.m i hi).1, fun j hj => ⟨Nat.lt_of_lt_of_le ((ok.m i hi).2 j hj).1 x.size, ((ok.m i hi).2 j hj).2⟩⟩,
    fun i hi => ⟨i.st _ _ _ x (fun _ _ f => f) (ok.r i hi).1, fun j hj => Nat.lt_of_lt_of_le ((ok.r i hi).2 j hj) x.size⟩, ok.mm, ok.mr⟩
/-- A new item that may turn; one that is read alone. -/
theorem Hp.newM (ok : Hp h0 D M R h) (x : Ext h h') (it : Itm) (hp : it.p h') (hF : ∀ j, it.F j → h.size ≤ j ∧ j < h'.size) : Hp h0 D (it :: M) R h' :=
  have o := ok.ext x
  ⟨o.chg, fun i hi => by
    rcases List.mem_cons.1 hi with rfl | hi
    · exact ⟨hp, fun j hj => ⟨(hF j hj).2, .inr (Nat.le_trans ok.chg.size (hF j hj).1)⟩⟩
    · exact o.m i hi, o.r, List.pairwise_cons.2 ⟨fun b hb j hj hb2 => by
      have := ((ok.m b hb).2 j hb2).1
      have := (hF j hj).1
      omega, o.mm⟩, fun a ha b hb j hj hb2 => by
    rcases List.mem_cons.1 ha with rfl | ha
    · have := (ok.r b hb).2 j hb2
      have := (hF j hj).1
      omega
    · exact o.mr a ha b hb j hj hb2⟩
theorem Hp.newR (ok : Hp h0 D M R h) (x : Ext h h') (it : Itm) (hp : it.p h') (hF : ∀ j, it.F j → h.size ≤ j ∧ j < h'.size) : Hp h0 D M (it :: R) h' :=
  have o := ok.ext x
  ⟨o.chg, o.m, fun i hi => by
    rcases List.mem_cons.1 hi with rfl | hi
    · exact ⟨hp, fun j hj => (hF j hj).2⟩
    · exact o.r i hi, o.mm, fun a ha b hb j hj hb2 => by
    rcases List.mem_cons.1 hb with rfl | hb
    · have := ((ok.m a ha).2 j hj).1
      have := (hF j hb2).1
      omega
    · exact o.mr a ha b hb j hj hb2⟩
/-- The first item turns. -/
theorem Hp.upd (ok : Hp h0 D (a :: M) R h) (c : Chg G h h') (hG : ∀ j, G j → a.F j) (it : Itm) (hp : it.p h') (hF : ∀ j, it.F j → a.F j ∨ (h.size ≤ j ∧ j < h'.size)) : Hp h0 D (it :: M) R h' := by
  have hmm := List.pairwise_cons.1 ok.mm
  refine ⟨ok.chg.trans' c (fun j hj g => ?_), fun i hi => ?_, fun i hi => ?_, List.pairwise_cons.2 ⟨fun b hb j hj hb2 => ?_, hmm.2⟩, fun x hx b hb j hj hb2 => ?_⟩
  · rcases ((ok.m a List.mem_cons_self).2 j (hG j g)).2 with h1 | h1
    · exact h1
    · omega
  · rcases List.mem_cons.1 hi with rfl | hi
    · refine ⟨hp, fun j hj => ?_⟩
      rcases hF j hj with h1 | h1
      · have h2 := (ok.m a List.mem_cons_self).2 j h1
        exact ⟨Nat.lt_of_lt_of_le h2.1 c.size, h2.2⟩
      · exact ⟨h1.2, .inr (Nat.le_trans ok.chg.size h1.1)⟩
    · have h1 := ok.m i (List.mem_cons_of_mem _ hi)
      exact ⟨i.st _ _ _ c (fun j hj g => hmm.1 i hi j (hG j g) hj) h1.1, fun j hj => ⟨Nat.lt_of_lt_of_le (h1.2 j hj).1 c.size, (h1.2 j hj).2⟩⟩
  · have h1 := ok.r i hi
    exact ⟨i.st _ _ _ c (fun j hj g => ok.mr a List.mem_cons_self i hi j (hG j g) hj) h1.1, fun j hj => Nat.lt_of_lt_of_le (h1.2 j hj) c.size⟩
  · rcases hF j hj with h1 | h1
    · exact hmm.1 b hb j h1 hb2
    · have := ((ok.m b (List.mem_cons_of_mem _ hb)).2 j hb2).1
      omega
  · rcases List.mem_cons.1 hx with rfl | hx
    · rcases hF j hj with h1 | h1
      · exact ok.mr a List.mem_cons_self b hb j h1 hb2
      · have := (ok.r b hb).2 j hb2
        omega
    · exact ok.mr x (List.mem_cons_of_mem _ hx) b hb j hj hb2
/-- An item that says less, of the same blocks. -/
theorem Hp.re (ok : Hp h0 D (a :: M) R h) (it : Itm) (hp : it.p h) (hF : ∀ j, it.F j → a.F j) : Hp h0 D (it :: M) R h := ok.upd (G := none_) (Chg.refl _ _) (fun _ f => f.elim) it hp (fun j hj => .inl (hF j hj))
theorem Hp.perm {M' : List Itm} (ok : Hp h0 D M R h) (p : M'.Perm M) : Hp h0 D M' R h :=
  ⟨ok.chg, fun i hi => ok.m i (p.mem_iff.1 hi), ok.r, (p.pairwise_iff (fun hxy j h1 h2 => hxy j h2 h1)).2 ok.mm, fun a ha => ok.mr a (p.mem_iff.1 ha)⟩
theorem Hp.tM (ok : Hp h0 D (a :: M) R h) : Hp h0 D M R h :=
  ⟨ok.chg, fun i hi => ok.m i (List.mem_cons_of_mem _ hi), ok.r, (List.pairwise_cons.1 ok.mm).2, fun x hx => ok.mr x (List.mem_cons_of_mem _ hx)⟩
theorem Hp.tR (ok : Hp h0 D M (a :: R) h) : Hp h0 D M R h :=
  ⟨ok.chg, ok.m, fun i hi => ok.r i (List.mem_cons_of_mem _ hi), ok.mm, fun x hx b hb => ok.mr x hx b (List.mem_cons_of_mem _ hb)⟩
theorem Hp.sub {R' : List Itm} (ok : Hp h0 D M R h) (hs : ∀ i ∈ R', i ∈ R) : Hp h0 D M R' h := ⟨ok.chg, ok.m, fun i hi => ok.r i (hs i hi), ok.mm, fun x hx b hb => ok.mr x hx b (hs b hb)⟩
/-- The first items alone. -/
theorem Hp.k0 (ok : Hp h0 D M R h) : Hp h0 D [] R h := ⟨ok.chg, by simp, ok.r, .nil, by simp⟩
theorem Hp.keep {M' : List Itm} (ok : Hp h0 D M R h) (hs : M'.Sublist M) : Hp h0 D M' R h :=
  ⟨ok.chg, fun i hi => ok.m i (hs.subset hi), ok.r, ok.mm.sublist hs, fun x hx => ok.mr x (hs.subset hx)⟩
theorem Hp.k1 (ok : Hp h0 D (a :: M) R h) : Hp h0 D [a] R h := ok.keep (.cons_cons _ (List.nil_sublist _))
theorem Hp.k2 (ok : Hp h0 D (a :: b :: M) R h) : Hp h0 D [a, b] R h := ok.keep (.cons_cons _ (.cons_cons _ (List.nil_sublist _)))
theorem Hp.k3 (ok : Hp h0 D (a :: b :: c :: M) R h) : Hp h0 D [a, b, c] R h := ok.keep (.cons_cons _ (.cons_cons _ (.cons_cons _ (List.nil_sublist _))))
theorem Hp.k4 (ok : Hp h0 D (a :: b :: c :: d :: M) R h) : Hp h0 D [a, b, c, d] R h := ok.keep (.cons_cons _ (.cons_cons _ (.cons_cons _ (.cons_cons _ (List.nil_sublist _)))))
/-- The first item turns no more. -/
theorem Hp.frz (ok : Hp h0 D (a :: M) R h) : Hp h0 D M (a :: R) h :=
  ⟨ok.chg, fun i hi => ok.m i (List.mem_cons_of_mem _ hi), fun i hi => by
    rcases List.mem_cons.1 hi with rfl | hi
    · have := ok.m i List.mem_cons_self
      exact ⟨this.1, fun j hj => (this.2 j hj).1⟩
    · exact ok.r i hi, (List.pairwise_cons.1 ok.mm).2, fun x hx b hb j hj hb2 => by
    rcases List.mem_cons.1 hb with rfl | hb
    · exact (List.pairwise_cons.1 ok.mm).1 x hx j hb2 hj
    · exact ok.mr x (List.mem_cons_of_mem _ hx) b hb j hj hb2⟩
/-- What follows from an item that is read alone. -/
theorem Hp.der (ok : Hp h0 D M R h) {r : Itm} (hr : r ∈ R) (it : Itm) (hp : it.p h) (hF : ∀ j, it.F j → r.F j) : Hp h0 D M (it :: R) h :=
  ⟨ok.chg, ok.m, fun i hi => by
    rcases List.mem_cons.1 hi with rfl | hi
    · exact ⟨hp, fun j hj => (ok.r r hr).2 j (hF j hj)⟩
    · exact ok.r i hi, ok.mm, fun x hx b hb j hj hb2 => by
    rcases List.mem_cons.1 hb with rfl | hb
    · exact ok.mr x hx r hr j hj (hF j hb2)
    · exact ok.mr x hx b hb j hj hb2⟩
/-- An item without blocks. -/
theorem Hp.dE (ok : Hp h0 D M R h) (it : Itm) (hp : it.p h) (hF : ∀ j, ¬ it.F j) : Hp h0 D M (it :: R) h :=
  ⟨ok.chg, ok.m, fun i hi => by
    rcases List.mem_cons.1 hi with rfl | hi
    · exact ⟨hp, fun j hj => absurd hj (hF j)⟩
    · exact ok.r i hi, ok.mm, fun x hx b hb j hj hb2 => by
    rcases List.mem_cons.1 hb with rfl | hb
    · exact hF j hb2
    · exact ok.mr x hx b hb j hj hb2⟩
/-- Of two items that are read alone, one. -/
theorem Hp.or (ok : Hp h0 D M R h) {r r' : Itm} (hr : r ∈ R) (hr' : r' ∈ R) (it : Itm) (hp : it.p h) (hF : ∀ j, it.F j → r.F j ∨ r'.F j) : Hp h0 D M (it :: R) h :=
  ⟨ok.chg, ok.m, fun i hi => by
    rcases List.mem_cons.1 hi with rfl | hi
    · refine ⟨hp, fun j hj => ?_⟩
      rcases hF j hj with h1 | h1
      · exact (ok.r r hr).2 j h1
      · exact (ok.r r' hr').2 j h1
    · exact ok.r i hi, ok.mm, fun x hx b hb j hj hb2 => by
    rcases List.mem_cons.1 hb with rfl | hb
    · rcases hF j hb2 with h1 | h1
      · exact ok.mr x hx r hr j hj h1
      · exact ok.mr x hx r' hr' j hj h1
    · exact ok.mr x hx b hb j hj hb2⟩
/-- A new item that may turn, out of several that did: its blocks are theirs. -/
theorem Hp.fuse (ok : Hp h0 D (a :: b :: M) R h) (it : Itm) (hp : it.p h) (hF : ∀ j, it.F j → a.F j ∨ b.F j) : Hp h0 D (it :: M) R h := by
  have h1 := List.pairwise_cons.1 ok.mm
  have h2 := List.pairwise_cons.1 h1.2
  refine ⟨ok.chg, fun i hi => ?_, ok.r, List.pairwise_cons.2 ⟨fun x hx j hj hb2 => ?_, h2.2⟩, fun x hx y hy j hj hb2 => ?_⟩
  · rcases List.mem_cons.1 hi with rfl | hi
    · refine ⟨hp, fun j hj => ?_⟩
      rcases hF j hj with h3 | h3
      · exact (ok.m a List.mem_cons_self).2 j h3
      · exact (ok.m b (List.mem_cons_of_mem _ List.mem_cons_self)).2 j h3
    · exact ok.m i (List.mem_cons_of_mem _ (List.mem_cons_of_mem _ hi))
  · rcases hF j hj with h3 | h3
    · exact h1.1 x (List.mem_cons_of_mem _ hx) j h3 hb2
    · exact h2.1 x hx j h3 hb2
  · rcases List.mem_cons.1 hx with rfl | hx
    · rcases hF j hj with h3 | h3
      · exact ok.mr a List.mem_cons_self y hy j h3 hb2
      · exact ok.mr b (List.mem_cons_of_mem _ List.mem_cons_self) y hy j h3 hb2
    · exact ok.mr x (List.mem_cons_of_mem _ (List.mem_cons_of_mem _ hx)) y hy j hj hb2

theorem Hp.m0 (ok : Hp h0 D (a :: M) R h) : a.p h := (ok.m a (by simp)).1
theorem Hp.m1 (ok : Hp h0 D (a :: b :: M) R h) : b.p h := (ok.m b (by simp)).1
theorem Hp.m2 (ok : Hp h0 D (a :: b :: c :: M) R h) : c.p h := (ok.m c (by simp)).1
theorem Hp.m3 (ok : Hp h0 D (a :: b :: c :: d :: M) R h) : d.p h := (ok.m d (by simp)).1
theorem Hp.m4 (ok : Hp h0 D (a :: b :: c :: d :: e :: M) R h) : e.p h := (ok.m e (by simp)).1
theorem Hp.m5 (ok : Hp h0 D (a :: b :: c :: d :: e :: f :: M) R h) : f.p h := (ok.m f (by simp)).1
theorem Hp.n1 (ok : Hp h0 D (a :: b :: M) R h) : Hp h0 D (b :: a :: M) R h := ok.perm (.swap _ _ _)
theorem Hp.n2 (ok : Hp h0 D (a :: b :: c :: M) R h) : Hp h0 D (c :: a :: b :: M) R h := ok.perm (.trans (.swap _ _ _) (.cons _ (.swap _ _ _)))
theorem Hp.n3 (ok : Hp h0 D (a :: b :: c :: d :: M) R h) : Hp h0 D (d :: a :: b :: c :: M) R h := ok.perm (.trans (.swap _ _ _) (.cons _ (.trans (.swap _ _ _) (.cons _ (.swap _ _ _)))))
theorem Hp.n4 (ok : Hp h0 D (a :: b :: c :: d :: e :: M) R h) : Hp h0 D (e :: a :: b :: c :: d :: M) R h := ok.perm (.trans (.swap _ _ _) (.cons _ (.trans (.swap _ _ _) (.cons _ (.trans (.swap _ _ _) (.cons _ (.swap _ _ _)))))))
theorem Hp.n5 (ok : Hp h0 D (a :: b :: c :: d :: e :: f :: M) R h) : Hp h0 D (f :: a :: b :: c :: d :: e :: M) R h := ok.perm (.trans (.swap _ _ _) (.cons _ (.trans (.swap _ _ _) (.cons _ (.trans (.swap _ _ _) (.cons _ (.trans (.swap _ _ _) (.cons _ (.swap _ _ _)))))))))
end
section
variable {h0 h : Heap} {D : Nat → Prop} {M R : List Itm} {q0 q1 q2 q3 q4 q5 q6 q7 q8 q9 : Itm}
theorem Hp.r0 (ok : Hp h0 D M (q0 :: R) h) : q0.p h := (ok.r q0 (by simp)).1
theorem Hp.r1 (ok : Hp h0 D M (q0 :: q1 :: R) h) : q1.p h := (ok.r q1 (by simp)).1
theorem Hp.r2 (ok : Hp h0 D M (q0 :: q1 :: q2 :: R) h) : q2.p h := (ok.r q2 (by simp)).1
theorem Hp.r3 (ok : Hp h0 D M (q0 :: q1 :: q2 :: q3 :: R) h) : q3.p h := (ok.r q3 (by simp)).1
theorem Hp.r4 (ok : Hp h0 D M (q0 :: q1 :: q2 :: q3 :: q4 :: R) h) : q4.p h := (ok.r q4 (by simp)).1
theorem Hp.r5 (ok : Hp h0 D M (q0 :: q1 :: q2 :: q3 :: q4 :: q5 :: R) h) : q5.p h := (ok.r q5 (by simp)).1
theorem Hp.r6 (ok : Hp h0 D M (q0 :: q1 :: q2 :: q3 :: q4 :: q5 :: q6 :: R) h) : q6.p h := (ok.r q6 (by simp)).1
theorem Hp.r7 (ok : Hp h0 D M (q0 :: q1 :: q2 :: q3 :: q4 :: q5 :: q6 :: q7 :: R) h) : q7.p h := (ok.r q7 (by simp)).1
theorem Hp.r8 (ok : Hp h0 D M (q0 :: q1 :: q2 :: q3 :: q4 :: q5 :: q6 :: q7 :: q8 :: R) h) : q8.p h := (ok.r q8 (by simp)).1
theorem Hp.r9 (ok : Hp h0 D M (q0 :: q1 :: q2 :: q3 :: q4 :: q5 :: q6 :: q7 :: q8 :: q9 :: R) h) : q9.p h := (ok.r q9 (by simp)).1
theorem Hp.l0 (ok : Hp h0 D M (q0 :: R) h) : ∀ j, q0.F j → j < h.size := (ok.r q0 (by simp)).2
theorem Hp.l1 (ok : Hp h0 D M (q0 :: q1 :: R) h) : ∀ j, q1.F j → j < h.size := (ok.r q1 (by simp)).2
theorem Hp.l2 (ok : Hp h0 D M (q0 :: q1 :: q2 :: R) h) : ∀ j, q2.F j → j < h.size := (ok.r q2 (by simp)).2
theorem Hp.l3 (ok : Hp h0 D M (q0 :: q1 :: q2 :: q3 :: R) h) : ∀ j, q3.F j → j < h.size := (ok.r q3 (by simp)).2
theorem Hp.l4 (ok : Hp h0 D M (q0 :: q1 :: q2 :: q3 :: q4 :: R) h) : ∀ j, q4.F j → j < h.size := (ok.r q4 (by simp)).2
theorem Hp.l5 (ok : Hp h0 D M (q0 :: q1 :: q2 :: q3 :: q4 :: q5 :: R) h) : ∀ j, q5.F j → j < h.size := (ok.r q5 (by simp)).2
theorem Hp.l6 (ok : Hp h0 D M (q0 :: q1 :: q2 :: q3 :: q4 :: q5 :: q6 :: R) h) : ∀ j, q6.F j → j < h.size := (ok.r q6 (by simp)).2
theorem Hp.d0 (ok : Hp h0 D M (q0 :: R) h) (it : Itm) (hp : it.p h) (hF : ∀ j, it.F j → q0.F j := by exact fun _ x => x) : Hp h0 D M (it :: q0 :: R) h := ok.der (r := q0) (by simp) it hp hF
theorem Hp.d1 (ok : Hp h0 D M (q0 :: q1 :: R) h) (it : Itm) (hp : it.p h) (hF : ∀ j, it.F j → q1.F j := by exact fun _ x => x) : Hp h0 D M (it :: q0 :: q1 :: R) h := ok.der (r := q1) (by simp) it hp hF
theorem Hp.d2 (ok : Hp h0 D M (q0 :: q1 :: q2 :: R) h) (it : Itm) (hp : it.p h) (hF : ∀ j, it.F j → q2.F j := by exact fun _ x => x) : Hp h0 D M (it :: q0 :: q1 :: q2 :: R) h := ok.der (r := q2) (by simp) it hp hF
theorem Hp.d3 (ok : Hp h0 D M (q0 :: q1 :: q2 :: q3 :: R) h) (it : Itm) (hp : it.p h) (hF : ∀ j, it.F j → q3.F j := by exact fun _ x => x) : Hp h0 D M (it :: q0 :: q1 :: q2 :: q3 :: R) h := ok.der (r := q3) (by simp) it hp hF
theorem Hp.d4 (ok : Hp h0 D M (q0 :: q1 :: q2 :: q3 :: q4 :: R) h) (it : Itm) (hp : it.p h) (hF : ∀ j, it.F j → q4.F j := by exact fun _ x => x) : Hp h0 D M (it :: q0 :: q1 :: q2 :: q3 :: q4 :: R) h := ok.der (r := q4) (by simp) it hp hF
theorem Hp.d5 (ok : Hp h0 D M (q0 :: q1 :: q2 :: q3 :: q4 :: q5 :: R) h) (it : Itm) (hp : it.p h) (hF : ∀ j, it.F j → q5.F j := by exact fun _ x => x) : Hp h0 D M (it :: q0 :: q1 :: q2 :: q3 :: q4 :: q5 :: R) h := ok.der (r := q5) (by simp) it hp hF
/-- The k-th of those that are read goes to the front. -/
theorem Hp.f1 (ok : Hp h0 D M (q0 :: q1 :: R) h) : Hp h0 D M (q1 :: q0 :: R) h := ok.sub (by simp; grind)
theorem Hp.f2 (ok : Hp h0 D M (q0 :: q1 :: q2 :: R) h) : Hp h0 D M (q2 :: q0 :: q1 :: R) h := ok.sub (by simp; grind)
theorem Hp.f3 (ok : Hp h0 D M (q0 :: q1 :: q2 :: q3 :: R) h) : Hp h0 D M (q3 :: q0 :: q1 :: q2 :: R) h := ok.sub (by simp; grind)
theorem Hp.f4 (ok : Hp h0 D M (q0 :: q1 :: q2 :: q3 :: q4 :: R) h) : Hp h0 D M (q4 :: q0 :: q1 :: q2 :: q3 :: R) h := ok.sub (by simp; grind)
theorem Hp.f5 (ok : Hp h0 D M (q0 :: q1 :: q2 :: q3 :: q4 :: q5 :: R) h) : Hp h0 D M (q5 :: q0 :: q1 :: q2 :: q3 :: q4 :: R) h := ok.sub (by simp; grind)
theorem Hp.e0 (ok : Hp h0 D M R h) : Hp h0 D M [] h := ok.sub (by simp)
theorem Hp.e1 (ok : Hp h0 D M (q0 :: R) h) : Hp h0 D M [q0] h := ok.sub (by simp)
theorem Hp.e2 (ok : Hp h0 D M (q0 :: q1 :: R) h) : Hp h0 D M [q0, q1] h := ok.sub (by simp)
theorem Hp.e3 (ok : Hp h0 D M (q0 :: q1 :: q2 :: R) h) : Hp h0 D M [q0, q1, q2] h := ok.sub (by simp)
theorem Hp.e4 (ok : Hp h0 D M (q0 :: q1 :: q2 :: q3 :: R) h) : Hp h0 D M [q0, q1, q2, q3] h := ok.sub (by simp)
end

section
variable {h0 h : Heap} {D : Nat → Prop} {M R : List Itm} {a b c d e f g i j k : Itm}
theorem Hp.k5 (ok : Hp h0 D (a :: b :: c :: d :: e :: M) R h) : Hp h0 D [a, b, c, d, e] R h := ok.keep (.cons_cons _ (.cons_cons _ (.cons_cons _ (.cons_cons _ (.cons_cons _ (List.nil_sublist _))))))
theorem Hp.k6 (ok : Hp h0 D (a :: b :: c :: d :: e :: f :: M) R h) : Hp h0 D [a, b, c, d, e, f] R h := ok.keep (.cons_cons _ (.cons_cons _ (.cons_cons _ (.cons_cons _ (.cons_cons _ (.cons_cons _ (List.nil_sublist _)))))))
theorem Hp.k7 (ok : Hp h0 D (a :: b :: c :: d :: e :: f :: g :: M) R h) : Hp h0 D [a, b, c, d, e, f, g] R h := ok.keep (.cons_cons _ (.cons_cons _ (.cons_cons _ (.cons_cons _ (.cons_cons _ (.cons_cons _ (.cons_cons _ (List.nil_sublist _))))))))
theorem Hp.k8 (ok : Hp h0 D (a :: b :: c :: d :: e :: f :: g :: i :: M) R h) : Hp h0 D [a, b, c, d, e, f, g, i] R h := ok.keep (.cons_cons _ (.cons_cons _ (.cons_cons _ (.cons_cons _ (.cons_cons _ (.cons_cons _ (.cons_cons _ (.cons_cons _ (List.nil_sublist _)))))))))
theorem Hp.k9 (ok : Hp h0 D (a :: b :: c :: d :: e :: f :: g :: i :: j :: M) R h) : Hp h0 D [a, b, c, d, e, f, g, i, j] R h := ok.keep (.cons_cons _ (.cons_cons _ (.cons_cons _ (.cons_cons _ (.cons_cons _ (.cons_cons _ (.cons_cons _ (.cons_cons _ (.cons_cons _ (List.nil_sublist _))))))))))
theorem Hp.m6 (ok : Hp h0 D (a :: b :: c :: d :: e :: f :: g :: M) R h) : g.p h := (ok.m g (by simp)).1
theorem Hp.n6 (ok : Hp h0 D (a :: b :: c :: d :: e :: f :: g :: M) R h) : Hp h0 D (g :: a :: b :: c :: d :: e :: f :: M) R h := ok.perm (by simpa using (List.perm_middle (l₁ := [a, b, c, d, e, f]) (l₂ := M) (a := g)).symm)
theorem Hp.m7 (ok : Hp h0 D (a :: b :: c :: d :: e :: f :: g :: i :: M) R h) : i.p h := (ok.m i (by simp)).1
theorem Hp.n7 (ok : Hp h0 D (a :: b :: c :: d :: e :: f :: g :: i :: M) R h) : Hp h0 D (i :: a :: b :: c :: d :: e :: f :: g :: M) R h := ok.perm (by simpa using (List.perm_middle (l₁ := [a, b, c, d, e, f, g]) (l₂ := M) (a := i)).symm)
theorem Hp.m8 (ok : Hp h0 D (a :: b :: c :: d :: e :: f :: g :: i :: j :: M) R h) : j.p h := (ok.m j (by simp)).1
theorem Hp.n8 (ok : Hp h0 D (a :: b :: c :: d :: e :: f :: g :: i :: j :: M) R h) : Hp h0 D (j :: a :: b :: c :: d :: e :: f :: g :: i :: M) R h := ok.perm (by simpa using (List.perm_middle (l₁ := [a, b, c, d, e, f, g, i]) (l₂ := M) (a := j)).symm)
theorem Hp.m9 (ok : Hp h0 D (a :: b :: c :: d :: e :: f :: g :: i :: j :: k :: M) R h) : k.p h := (ok.m k (by simp)).1
theorem Hp.n9 (ok : Hp h0 D (a :: b :: c :: d :: e :: f :: g :: i :: j :: k :: M) R h) : Hp h0 D (k :: a :: b :: c :: d :: e :: f :: g :: i :: j :: M) R h := ok.perm (by simpa using (List.perm_middle (l₁ := [a, b, c, d, e, f, g, i, j]) (l₂ := M) (a := k)).symm)
end
theorem oneL {vs : List Value} (h : vs.all (fun v => v.oneCell') = true) : ∀ v ∈ vs, v.oneCell' = true := List.all_eq_true.1 h
/-! ### Operations that make or turn an item -/
section
variable {P : Program} {s : Slots} {h0 h : Heap} {D : Nat → Prop} {M R : List Itm} {d : Option Tmp} {ty : TypeId} {pos : String} {af : Array Edge} {g : Option (Nat × Bool)} {x y c : Operand} {t u : TypeId}
/-- A value that is new in memory, as a class of heaps. -/
theorem OpE.bx {P : Program} {o : Oper} {cs : List Value} (hv : OpE P o s h (.pointer (some ⟨h.size, 0, none⟩)) (h.push (.cells cs.toArray t (0, 0)))) (ok : Hp h0 D M R h) :
    OpA P o s h (fun v h' => ∃ b, v = .pointer (some ⟨b, 0, none⟩) ∧ Hp h0 D (boxI b t cs :: M) R h' ∧ Ext h h') := fun E w at' => by
  obtain ⟨w', at2, hr⟩ := hv E w at'
  exact ⟨_, _, w', ⟨h.size, rfl, ok.newM (Ext.push _ _) _ (push_same _ _) (fun j hj => by simp at hj ⊢; omega), Ext.push _ _⟩, at2, hr⟩
theorem OpE.sx {P : Program} {o : Oper} {k nn : Nat} {cs : List Value} (hv : OpE P o s h (.slice (some ⟨h.size, 0, none⟩) nn nn) (h.push (.cells cs.toArray t (0, 0)))) (hs : cs.length = nn * k) (hn : nn ≤ 9223372036854775807) (ok : Hp h0 D M R h) :
    OpA P o s h (fun v h' => ∃ b, v = .slice (some ⟨b, 0, none⟩) nn nn ∧ Hp h0 D (capI k t (some ⟨b, 0, none⟩, nn, nn) cs :: M) R h' ∧ Ext h h') := fun E w at' => by
  obtain ⟨w', at2, hr⟩ := hv E w at'
  refine ⟨_, _, w', ⟨h.size, rfl, ok.newM (Ext.push _ _) _ ?_ (fun j hj => ?_), Ext.push _ _⟩, at2, hr⟩
  · have := Cap.new (k := k) (e := t) (n := nn) (cs := cs.toArray) (push_same h _) (by simpa using hs) hn
    simpa using this
  · obtain ⟨o, n, c, hv⟩ := hj
    injection hv with h1; injection h1 with h1; injection h1 with h1
    simp; omega
theorem OpA.mk {o : Oper} {Q Q' : Value → Heap → Prop} (hv : OpA P o s h Q) (hq : ∀ v h', Q v h' → Q' v h') : OpA P o s h Q' := fun E w at' =>
  let ⟨v, h', w', q, a, r⟩ := hv E w at'; ⟨v, h', w', hq v h' q, a, r⟩
theorem OpUR.mk {o : Oper} {Q Q' : Heap → Prop} (hv : OpUR P o s h Q) (hq : ∀ h', Q h' → Q' h') : OpUR P o s h Q' := fun E w at' =>
  let ⟨h', w', q, a, r⟩ := hv E w at'; ⟨h', w', hq h' q, a, r⟩
abbrev Bx (h h0 : Heap) (D : Nat → Prop) (t : TypeId) (cs : List Value) (M R : List Itm) (v : Value) (h' : Heap) : Prop := ∃ b, v = .pointer (some ⟨b, 0, none⟩) ∧ Hp h0 D (boxI b t cs :: M) R h' ∧ Ext h h'
theorem allSz_len {k : Nat} : ∀ {xs : List Operand}, V.AllSz s k xs → (xs.flatMap fun x => (ev s x).cells.toList).length = xs.length * k
  | [], _ => by simp
  | x :: xs, h => by
    have h1 := h.1
    have h2 := allSz_len h.2
    simp only [List.flatMap_cons, List.length_append, List.length_cons, Nat.add_mul, Array.length_toList, h1, h2]
    omega
namespace OpA
theorem bxI {k : IntKind} {a : Int} (ok : Hp h0 D M R h) (hx : ev s x = .int k a := by exact rfl) : OpA P ⟨d, .box t x, ty, pos, af, g⟩ s h (Bx h h0 D t [.int k a] M R) := OpE.bx (V.boxI hx) ok
theorem bxB {a : Bool} (ok : Hp h0 D M R h) (hx : ev s x = .bool a := by exact rfl) : OpA P ⟨d, .box t x, ty, pos, af, g⟩ s h (Bx h h0 D t [.bool a] M R) := OpE.bx (V.boxB hx) ok
theorem bxS {a : Option Addr} {n m : Nat} (ok : Hp h0 D M R h) (hx : ev s x = .slice a n m := by exact rfl) : OpA P ⟨d, .box t x, ty, pos, af, g⟩ s h (Bx h h0 D t [.slice a n m] M R) := OpE.bx (V.boxS hx) ok
theorem bxP {a : Option Addr} (ok : Hp h0 D M R h) (hx : ev s x = .pointer a := by exact rfl) : OpA P ⟨d, .box t x, ty, pos, af, g⟩ s h (Bx h h0 D t [.pointer a] M R) := OpE.bx (V.boxP hx) ok
theorem bxT {a : ByteArray} (ok : Hp h0 D M R h) (hx : ev s x = .string a := by exact rfl) : OpA P ⟨d, .box t x, ty, pos, af, g⟩ s h (Bx h h0 D t [.string a] M R) := OpE.bx (V.boxT hx) ok
theorem bxM {a : Option Nat} (ok : Hp h0 D M R h) (hx : ev s x = .map a := by exact rfl) : OpA P ⟨d, .box t x, ty, pos, af, g⟩ s h (Bx h h0 D t [.map a] M R) := OpE.bx (V.box hx rfl) ok
theorem bxA {cs : List Value} (ok : Hp h0 D M R h) (hx : ev s x = .agg cs.toArray := by exact rfl) : OpA P ⟨d, .box t x, ty, pos, af, g⟩ s h (Bx h h0 D t cs M R) := OpE.bx (V.boxA hx) ok
theorem alA {cs : List Value} (hz : zrB P t = some (.agg cs.toArray)) (ok : Hp h0 D M R h) : OpA P ⟨d, .alloc t, ty, pos, af, g⟩ s h (Bx h h0 D t cs M R) := OpE.bx (V.alloc hz rfl) ok
theorem alI {k : IntKind} {a : Int} (hz : zrB P t = some (.int k a)) (ok : Hp h0 D M R h) : OpA P ⟨d, .alloc t, ty, pos, af, g⟩ s h (Bx h h0 D t [.int k a] M R) := OpE.bx (V.alloc hz rfl) ok
theorem alB {a : Bool} (hz : zrB P t = some (.bool a)) (ok : Hp h0 D M R h) : OpA P ⟨d, .alloc t, ty, pos, af, g⟩ s h (Bx h h0 D t [.bool a] M R) := OpE.bx (V.alloc hz rfl) ok
theorem alS {a : Option Addr} {n m : Nat} (hz : zrB P t = some (.slice a n m)) (ok : Hp h0 D M R h) : OpA P ⟨d, .alloc t, ty, pos, af, g⟩ s h (Bx h h0 D t [.slice a n m] M R) := OpE.bx (V.alloc hz rfl) ok
theorem alP {a : Option Addr} (hz : zrB P t = some (.pointer a)) (ok : Hp h0 D M R h) : OpA P ⟨d, .alloc t, ty, pos, af, g⟩ s h (Bx h h0 D t [.pointer a] M R) := OpE.bx (V.alloc hz rfl) ok
theorem alT {a : ByteArray} (hz : zrB P t = some (.string a)) (ok : Hp h0 D M R h) : OpA P ⟨d, .alloc t, ty, pos, af, g⟩ s h (Bx h h0 D t [.string a] M R) := OpE.bx (V.alloc hz rfl) ok
theorem alM {a : Option Nat} (hz : zrB P t = some (.map a)) (ok : Hp h0 D M R h) : OpA P ⟨d, .alloc t, ty, pos, af, g⟩ s h (Bx h h0 D t [.map a] M R) := OpE.bx (V.alloc hz rfl) ok
/-- A slice literal. -/
theorem lit (xs : List Operand) {n k : Nat} {e : TypeId} {z : Value} {l : List (Nat × Operand)} {cs : List Value} (ht : elB P t = some e) (hk : szB P e = some k) (hz : zrB P e = some z) (ok : Hp h0 D M R h) (hx : V.AllSz s k xs) (hcs : (xs.flatMap fun x => (ev s x).cells.toList) = cs := by exact rfl)
    (hl : l = V.idx 0 xs := by exact rfl) (hn : n = xs.length := by exact rfl) (hnk : Nat.ble (n * k) 16777216 = true := by exact rfl) (hn2 : Nat.ble n 16777216 = true := by exact rfl) :
    OpA P ⟨d, .buildSlice t n l.toArray, ty, pos, af, g⟩ s h (fun v h' => ∃ b, v = .slice (some ⟨b, 0, none⟩) n n ∧ Hp h0 D (capI k e (some ⟨b, 0, none⟩, n, n) cs :: M) R h' ∧ Ext h h') := by
  subst hl hn
  refine OpE.sx (V.buildSlice xs ht hk hz rfl rfl hnk hx (by simpa using hcs)) ?_ ?_ ok
  · subst hcs; exact allSz_len hx
  · exact Nat.le_trans (Nat.le_of_ble_eq_true hn2) (by omega)
theorem app {e : TypeId} {k bytes : Nat} {z : Value} {a : Option Addr} {n m : Nat} {nv : Value} {xs news : List Value} (ht : elB P t = some e) (hk : szB P e = some (k + 1)) (hby : byB P e = some (bytes + 1)) (hz : zrB P e = some z) (ok : Hp h0 D (capI (k + 1) e (a, n, m) xs :: M) R h)
    (hn : Sl h (k + 1) nv news) (h1 : ∀ u ∈ news, u.oneCell' = true) (hfit : (xs.length + news.length) * (bytes + 1) ≤ 140737488355328) (hx : ev s x = .slice a n m := by exact rfl) (hy : ev s y = nv := by exact rfl) (hzk : z.cells.size = k + 1 := by exact rfl) :
    OpA P ⟨d, .call ⟨.builtin .append, #[x, y], #[t, t]⟩, ty, pos, af, g⟩ s h (fun v' h' => ∃ a' n' m', v' = .slice a' n' m' ∧ Hp h0 D (capI (k + 1) e (a', n', m') (xs ++ news) :: M) R h' ∧ Appended h (k + 1) e (.slice a n m) (xs ++ news) (.slice a' n' m') h') :=
  OpA.mk (V.append hx hy ht hk hby hz hzk ok.m0 hn h1 hfit) fun v' h' q => by
    obtain ⟨a', n', m', rfl, _⟩ := id q.cap
    exact ⟨a', n', m', rfl, ok.upd q.chg (fun _ x => x) _ q.cap fun j hj => (q.place j hj).imp id fun h => ⟨h, q.cap.lt hj⟩, q⟩
end OpA
namespace OpUR
section
variable {b o : Nat} {e : TypeId} {cs : List Value}
theorem st {v : Value} (ht : szB P t = some 1) (ok : Hp h0 D (boxI b e cs :: M) R h) (hx : ev s x = .pointer (some ⟨b, o, none⟩)) (hy : ev s y = v) (h1 : v.oneCell' = true) (ho : Nat.blt o cs.length = true) :
    OpUR P ⟨d, .store t x y, ty, pos, af, g⟩ s h (fun h' => Hp h0 D (boxI b e (cs.set o v) :: M) R h' ∧ Chg (fun x => x = b) h h') := fun E w at' => by
  have ho' : o < cs.length := by simpa [Nat.blt_eq] using ho
  obtain ⟨w', at2, hr⟩ := V.store (P := P) (s := s) (d := d) (ty := ty) (pos := pos) (af := af) (g := g) hx hy ht h1 ok.m0 (by simpa using ho') (by simp) rfl E w at'
  refine ⟨_, w', ⟨?_, hput_chg _ _ _⟩, at2, hr⟩
  refine ok.upd (hput_chg _ _ _) (fun _ x => x) _ ?_ (fun _ x => .inl x)
  have := hput_same (cs' := cs.toArray.setIfInBounds o v) ok.m0
  simpa using this
theorem stI {k : IntKind} {a : Int} (ht : szB P t = some 1) (ok : Hp h0 D (boxI b e cs :: M) R h) (hx : ev s x = .pointer (some ⟨b, o, none⟩) := by exact rfl) (hy : ev s y = .int k a := by exact rfl) (ho : Nat.blt o cs.length = true := by exact rfl) :
    OpUR P ⟨d, .store t x y, ty, pos, af, g⟩ s h (fun h' => Hp h0 D (boxI b e (cs.set o (.int k a)) :: M) R h' ∧ Chg (fun x => x = b) h h') := st ht ok hx hy rfl ho
theorem stB {a : Bool} (ht : szB P t = some 1) (ok : Hp h0 D (boxI b e cs :: M) R h) (hx : ev s x = .pointer (some ⟨b, o, none⟩) := by exact rfl) (hy : ev s y = .bool a := by exact rfl) (ho : Nat.blt o cs.length = true := by exact rfl) :
    OpUR P ⟨d, .store t x y, ty, pos, af, g⟩ s h (fun h' => Hp h0 D (boxI b e (cs.set o (.bool a)) :: M) R h' ∧ Chg (fun x => x = b) h h') := st ht ok hx hy rfl ho
theorem stS {a : Option Addr} {n m : Nat} (ht : szB P t = some 1) (ok : Hp h0 D (boxI b e cs :: M) R h) (hx : ev s x = .pointer (some ⟨b, o, none⟩) := by exact rfl) (hy : ev s y = .slice a n m := by exact rfl) (ho : Nat.blt o cs.length = true := by exact rfl) :
    OpUR P ⟨d, .store t x y, ty, pos, af, g⟩ s h (fun h' => Hp h0 D (boxI b e (cs.set o (.slice a n m)) :: M) R h' ∧ Chg (fun x => x = b) h h') := st ht ok hx hy rfl ho
theorem stP {a : Option Addr} (ht : szB P t = some 1) (ok : Hp h0 D (boxI b e cs :: M) R h) (hx : ev s x = .pointer (some ⟨b, o, none⟩) := by exact rfl) (hy : ev s y = .pointer a := by exact rfl) (ho : Nat.blt o cs.length = true := by exact rfl) :
    OpUR P ⟨d, .store t x y, ty, pos, af, g⟩ s h (fun h' => Hp h0 D (boxI b e (cs.set o (.pointer a)) :: M) R h' ∧ Chg (fun x => x = b) h h') := st ht ok hx hy rfl ho
theorem stT {a : ByteArray} (ht : szB P t = some 1) (ok : Hp h0 D (boxI b e cs :: M) R h) (hx : ev s x = .pointer (some ⟨b, o, none⟩) := by exact rfl) (hy : ev s y = .string a := by exact rfl) (ho : Nat.blt o cs.length = true := by exact rfl) :
    OpUR P ⟨d, .store t x y, ty, pos, af, g⟩ s h (fun h' => Hp h0 D (boxI b e (cs.set o (.string a)) :: M) R h' ∧ Chg (fun x => x = b) h h') := st ht ok hx hy rfl ho
theorem stM {a : Option Nat} (ht : szB P t = some 1) (ok : Hp h0 D (boxI b e cs :: M) R h) (hx : ev s x = .pointer (some ⟨b, o, none⟩) := by exact rfl) (hy : ev s y = .map a := by exact rfl) (ho : Nat.blt o cs.length = true := by exact rfl) :
    OpUR P ⟨d, .store t x y, ty, pos, af, g⟩ s h (fun h' => Hp h0 D (boxI b e (cs.set o (.map a)) :: M) R h' ∧ Chg (fun x => x = b) h h') := st ht ok hx hy rfl ho
/-- A struct or an array over a part of a block. -/
theorem stA {vs : List Value} (ht : szB P t = some vs.length) (ok : Hp h0 D (boxI b e cs :: M) R h) (h1 : ∀ v ∈ vs, v.oneCell' = true) (hx : ev s x = .pointer (some ⟨b, o, none⟩) := by exact rfl) (hy : ev s y = .agg vs.toArray := by exact rfl) (ho : Nat.ble (o + vs.length) cs.length = true := by exact rfl) :
    OpUR P ⟨d, .store t x y, ty, pos, af, g⟩ s h (fun h' => Hp h0 D (boxI b e (spl cs o vs) :: M) R h' ∧ Chg (fun x => x = b) h h') := fun E w at' => by
  have ho' := Nat.le_of_ble_eq_true ho
  obtain ⟨w', at2, hr⟩ := V.storeA (P := P) (s := s) (d := d) (ty := ty) (pos := pos) (af := af) (g := g) hx hy ht h1 ok.m0 (by simpa using ho') (fzOk_zero _) rfl E w at'
  refine ⟨_, w', ⟨?_, hput_chg _ _ _⟩, at2, hr⟩
  exact ok.upd (hput_chg _ _ _) (fun _ x => x) _ (by simpa using hput_same (cs' := (spl cs o vs).toArray) ok.m0) (fun _ x => .inl x)
/-- Over a whole block. -/
theorem stW {vs : List Value} (ht : szB P t = some vs.length) (ok : Hp h0 D (boxI b e cs :: M) R h) (h1 : ∀ v ∈ vs, v.oneCell' = true) (hl : cs.length = vs.length := by exact rfl) (hx : ev s x = .pointer (some ⟨b, 0, none⟩) := by exact rfl) (hy : ev s y = .agg vs.toArray := by exact rfl) :
    OpUR P ⟨d, .store t x y, ty, pos, af, g⟩ s h (fun h' => Hp h0 D (boxI b e vs :: M) R h' ∧ Chg (fun x => x = b) h h') :=
  OpUR.mk (stA (o := 0) ht ok h1 hx hy (by rw [hl, Nat.zero_add]; exact Nat.ble_self_eq_true _)) fun h' q => by
    have e : spl cs 0 vs = vs := by unfold spl; simp [hl]
    rw [e] at q; exact q
end
/-- A cell of a slice. -/
theorem sx {b o n c k q : Nat} {e : TypeId} {xs : List Value} {v : Value} (ht : szB P t = some 1) (ok : Hp h0 D (capI k e (some ⟨b, o, none⟩, n, c) xs :: M) R h) (hq : q < n * k) (hx : ev s x = .pointer (some ⟨b, o + q, none⟩)) (hy : ev s y = v) (h1 : v.oneCell' = true) :
    OpUR P ⟨d, .store t x y, ty, pos, af, g⟩ s h (fun h' => Hp h0 D (capI k e (some ⟨b, o, none⟩, n, c) (xs.set q v) :: M) R h' ∧ Chg (fun x => x = b) h h') :=
  OpUR.mk (V.storeC hx hy ht h1 ok.m0 hq) fun h' r => ⟨ok.upd r.chg (fun j e => by subst e; exact ⟨o, n, c, rfl⟩) _ r.cap (fun _ x => .inl x), r.chg⟩
section
variable {b o n c k q : Nat} {e : TypeId} {xs : List Value}
theorem sxI {kk : IntKind} {a : Int} (ht : szB P t = some 1) (ok : Hp h0 D (capI k e (some ⟨b, o, none⟩, n, c) xs :: M) R h) (hx : ev s x = .pointer (some ⟨b, o + q, none⟩) := by exact rfl) (hy : ev s y = .int kk a := by exact rfl) (hq : q < n * k := by omega) :
    OpUR P ⟨d, .store t x y, ty, pos, af, g⟩ s h (fun h' => Hp h0 D (capI k e (some ⟨b, o, none⟩, n, c) (xs.set q (.int kk a)) :: M) R h' ∧ Chg (fun x => x = b) h h') := sx ht ok hq hx hy rfl
theorem sxB {a : Bool} (ht : szB P t = some 1) (ok : Hp h0 D (capI k e (some ⟨b, o, none⟩, n, c) xs :: M) R h) (hx : ev s x = .pointer (some ⟨b, o + q, none⟩) := by exact rfl) (hy : ev s y = .bool a := by exact rfl) (hq : q < n * k := by omega) :
    OpUR P ⟨d, .store t x y, ty, pos, af, g⟩ s h (fun h' => Hp h0 D (capI k e (some ⟨b, o, none⟩, n, c) (xs.set q (.bool a)) :: M) R h' ∧ Chg (fun x => x = b) h h') := sx ht ok hq hx hy rfl
theorem sxS {a : Option Addr} {n' m : Nat} (ht : szB P t = some 1) (ok : Hp h0 D (capI k e (some ⟨b, o, none⟩, n, c) xs :: M) R h) (hx : ev s x = .pointer (some ⟨b, o + q, none⟩) := by exact rfl) (hy : ev s y = .slice a n' m := by exact rfl) (hq : q < n * k := by omega) :
    OpUR P ⟨d, .store t x y, ty, pos, af, g⟩ s h (fun h' => Hp h0 D (capI k e (some ⟨b, o, none⟩, n, c) (xs.set q (.slice a n' m)) :: M) R h' ∧ Chg (fun x => x = b) h h') := sx ht ok hq hx hy rfl
end
/-- A cell of an array. -/
theorem sa {α : Type} {f : α → Value} {b q : Nat} {e : TypeId} {l : List α} {v : Value} (a : α) (ht : szB P t = some 1) (ok : Hp h0 D (boxI b e (l.map f) :: M) R h) (hq : q < l.length) (h1 : (f a).oneCell' = true := by exact rfl) (hx : ev s x = .pointer (some ⟨b, 0 + q, none⟩) := by exact rfl) (hy : ev s y = v := by exact rfl) (hv : v = f a := by exact rfl) :
    OpUR P ⟨d, .store t x y, ty, pos, af, g⟩ s h (fun h' => Hp h0 D (boxI b e ((l.set q a).map f) :: M) R h' ∧ Chg (fun x => x = b) h h') :=
  OpUR.mk (st (o := 0 + q) ht ok hx hy (by rw [hv]; exact h1) (by simp [Nat.blt_eq]; exact hq)) fun h' r => by
    have e : (l.map f).set (0 + q) v = (l.set q a).map f := by rw [hv, Nat.zero_add, List.map_set]
    rw [e] at r; exact r
end OpUR
end
/-- What is known of a block's cell; of several. -/
theorem at_box {h : Heap} {b o : Nat} {t : TypeId} {cs : List Value} {v : Value} (hb : h[b]? = some (.cells cs.toArray t (0, 0))) (hv : cs[o]? = some v := by exact rfl) : cell h b o = some v := by
  rw [cell_of hb]; simpa using hv
theorem at_boxa {h : Heap} {b : Nat} {t : TypeId} {cs : List Value} (hb : h[b]? = some (.cells cs.toArray t (0, 0))) : ∀ j v, cs[j]? = some v → cell h b (0 + j) = some v := cells0 hb
theorem at_part {h : Heap} {b o n : Nat} {t : TypeId} {cs : List Value} (hb : h[b]? = some (.cells cs.toArray t (0, 0))) : ∀ j v, ((cs.drop o).take n)[j]? = some v → cell h b (o + j) = some v := fun j v hv => by
  rw [List.getElem?_take] at hv
  split at hv
  · rw [List.getElem?_drop] at hv
    rw [cell_of hb]; simpa using hv
  · cases hv
end Go.HL
