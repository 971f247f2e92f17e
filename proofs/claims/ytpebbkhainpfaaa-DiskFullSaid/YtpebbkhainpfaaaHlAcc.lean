/- A slice that grows by what its elements lead to, and a slice that is a part of it from its head on. Conditions: those that each fact names. -/
import Derived.Test.YtpebbkhainpfaaaHlMore
namespace Go.HL
open Go
/-- The slice x8 of the elements all grows; x3 is read as l. What the elements lead to lies in E. -/
structure Acc {α : Type} [Rep α] (h : Heap) (e : TypeId) (x8 x3 : SV) (E : Nat → Prop) (all l : List α) : Prop where
  cap : ∃ css, Cap h (Rep.k α) e (sv x8) css.flatten ∧ All2 (Rep.rd h E) css all
  l3 : RdL h (blkC (sv x3)) E x3 l
  ord : ∀ b o n c o' n' c', x3 = (some ⟨b, o, none⟩, n, c) → x8 = (some ⟨b, o', none⟩, n', c') → 0 < n → o + n * Rep.k α ≤ o' + n' * Rep.k α
  apart : ∀ j, E j → ¬ blkC (sv x8) j
section
variable {α : Type} [Rep α] {h h' h0 : Heap} {e : TypeId} {x8 x3 : SV} {E D G : Nat → Prop} {all l : List α} {M R : List Itm} {b : Itm}
theorem Acc.st (c : Chg G h h') (d : ∀ j, (blkC (sv x8) j ∨ blkC (sv x3) j ∨ E j) → ¬ G j) (a : Acc h e x8 x3 E all l) : Acc h' e x8 x3 E all l :=
  ⟨let ⟨css, h1, h2⟩ := a.cap; ⟨css, h1.chg c (fun j hj => d j (.inl hj)), h2.mono fun _ _ q => Rep.st c (fun j hj => d j (.inr (.inr hj))) q⟩, a.l3.st c (fun j hj => d j (.inr (.inl hj))) (fun j hj => d j (.inr (.inr hj))), a.ord, a.apart⟩
@[reducible] def accI (e : TypeId) (x8 x3 : SV) (E : Nat → Prop) (all l : List α) : Itm := ⟨fun h => Acc h e x8 x3 E all l, fun j => blkC (sv x8) j ∨ blkC (sv x3) j ∨ E j, fun _ _ _ c d a => a.st c d⟩
theorem Acc.len (a : Acc h e x8 x3 E all l) : x8.2.1 = all.length := by
  obtain ⟨css, h1, h2⟩ := a.cap
  exact (RdL.of_cap h1 h2).n
theorem Acc.rd (a : Acc h e x8 x3 E all l) : RdL h (blkC (sv x8)) E x8 all := by
  obtain ⟨css, h1, h2⟩ := a.cap
  exact RdL.of_cap h1 h2
theorem Hp.accNil (ok : Hp h0 D M R h) (e : TypeId) (α : Type) [Rep α] : Hp h0 D (accI e (none, 0, 0) (none, 0, 0) none_ ([] : List α) [] :: M) R h :=
  ok.newM (Ext.refl h) _ ⟨⟨[], Cap.nil _ _ _, All2.nil⟩, RdL.nil _ _ _, fun _ _ _ _ _ _ _ h => (by cases h), fun _ f => f.elim⟩ (fun j hj => by
    rcases hj with ⟨o, n, c, e⟩ | ⟨o, n, c, e⟩ | f
    · cases e
    · cases e
    · exact f.elim)
theorem RdL.clip (r : RdL h G E x8 l) : RdL h G E (x8.1, x8.2.1, x8.2.1) l := ⟨r.n, Nat.le_refl _, Nat.le_trans r.c r.m, r.at'⟩
/-- x3 is all of x8, without room behind. -/
theorem Hp.accClip {a : Option Addr} {n c : Nat} (ok : Hp h0 D (accI e (a, n, c) x3 E all l :: M) R h) : Hp h0 D (accI e (a, n, c) (a, n, n) E all all :: M) R h := by
  have c0 : Acc h e (a, n, c) x3 E all l := ok.m0
  refine ok.re _ ⟨c0.cap, (c0.rd.clip).mono (fun j hj => ?_) (fun _ h => h), fun b o n1 c1 o' n' c' e1 e2 _ => ?_, c0.apart⟩ (fun j hj => ?_)
  · obtain ⟨o, n', c', hv⟩ := hj
    injection hv with h1 h2 h3
    exact ⟨o, n, n, by rw [← h1]⟩
  · cases e1; cases e2; exact Nat.le_refl _
  · rcases hj with h1 | h1 | h1
    · exact .inl h1
    · obtain ⟨o, n', c', hv⟩ := h1
      injection hv with h1 h2 h3
      exact .inl ⟨o, n, c, by rw [← h1]⟩
    · exact .inr (.inr h1)
/-- x3 is x8. -/
theorem Hp.accEq (ok : Hp h0 D (accI e x8 x3 E all l :: M) R h) : Hp h0 D (accI e x8 x8 E all all :: M) R h := by
  have c0 : Acc h e x8 x3 E all l := ok.m0
  exact ok.re _ ⟨c0.cap, c0.rd, fun b o n1 c1 o' n' c' e1 e2 _ => by rw [e1] at e2; cases e2; exact Nat.le_refl _, c0.apart⟩ (fun j hj => hj.elim .inl (·.elim .inl fun h => .inr (.inr h)))
theorem Acc.app {e : TypeId} {ys : List Value} {cs : List Value} {v' : Value} {css : List (List Value)} {a : α} {bF : Nat → Prop} (c0 : Acc h e x8 x3 E all l) (h2 : All2 (Rep.rd h E) css all) (hr : Rep.rd h bF cs a) (hb : ∀ j, bF j → ¬ blkC (sv x8) j) (hbs : ∀ j, bF j → j < h.size) (hes : ∀ j, E j → j < h.size)
    (q : Appended h (Rep.k α) e (sv x8) ys v' h') (hy : ys = css.flatten ++ cs) : ∃ x', v' = sv x' ∧ Acc h' e x' x3 (fun j => E j ∨ bF j) (all ++ [a]) l := by
  obtain ⟨x', hx'⟩ := q.cap.form
  subst hx'
  have hk := Rep.kpos (α := α)
  refine ⟨x', rfl, ⟨css ++ [cs], ?_, ?_⟩, ?_, ?_, ?_⟩
  · have := q.cap; rw [hy] at this; simpa using this
  · exact All2.append (h2.mono fun _ _ r => Rep.mono (fun _ h => .inl h) (Rep.st q.chg c0.apart r)) (All2.cons (Rep.mono (fun _ h => .inr h) (Rep.st q.chg hb hr)) All2.nil)
  · refine ⟨c0.l3.n, c0.l3.c, c0.l3.m, fun hp => ?_⟩
    obtain ⟨b, o, e1, hbb, hc⟩ := c0.l3.at' hp
    refine ⟨b, o, e1, hbb, fun i hi => ?_⟩
    obtain ⟨cs1, r1, hcell⟩ := hc i hi
    refine ⟨cs1, Rep.mono (fun _ h => .inl h) (Rep.st q.chg c0.apart r1), fun j v hj => q.kept b _ v (hcell j v hj) fun o8 n8 c8 hv => ?_⟩
    have hjk : j < Rep.k α := by have := (List.getElem?_eq_some_iff.1 hj).1; rwa [Rep.len r1] at this
    have hn3 := c0.l3.n
    have h9 := c0.ord b o x3.2.1 x3.2.2 o8 n8 c8 (by rw [← e1]) (by
      obtain ⟨x8a, x8n, x8c⟩ := x8
      injection hv with g1 g2 g3; simp only at g1 g2 g3; rw [g1, g2, g3]) (by omega)
    have h10 : (i + 1) * Rep.k α ≤ x3.2.1 * Rep.k α := Nat.mul_le_mul_right _ (by omega)
    rw [Nat.add_mul] at h10
    omega
  · intro b o n c o' n' c' e1 e2 hn
    have hbl : b < h.size := by
      have hl : 0 < l.length := by have := c0.l3.n; rw [e1] at this; simp only at this; omega
      obtain ⟨b1, o1, e3, _, hc⟩ := c0.l3.at' hl
      rw [e1] at e3
      injection e3 with e3; injection e3 with e3 e4; subst e3 e4
      obtain ⟨cs1, r1, hcell⟩ := hc 0 hl
      have hl1 := Rep.len r1
      exact cell_lt (hcell 0 (cs1[0]'(by omega)) (by simp))
    obtain ⟨a8, n8, c8⟩ := x8
    have hl2 : ys.length = (n8 + 1) * Rep.k α := by
      rw [hy, List.length_append, flatten_len (k := Rep.k α) (fun c hc => by
        obtain ⟨i, hi, rfl⟩ := List.mem_iff_getElem.1 hc
        exact Rep.len (h2.2 i hi (by have := h2.1; omega))), Rep.len hr, Nat.add_mul, Nat.one_mul]
      have h3 := c0.len; have h4 := h2.1
      simp only at h3
      rw [h3, h4]
    rcases Nat.lt_or_ge c8 (n8 + 1) with hlt | hge
    · have := q.grown a8 n8 c8 (n8 + 1) rfl hl2 hlt b ⟨o', n', c', by rw [e2]⟩
      omega
    · have h5 := q.inplace a8 n8 c8 (n8 + 1) rfl hl2 hge
      rw [e2] at h5
      injection h5 with g1 g2 g3
      simp only at g1 g2 g3
      have h6 := c0.ord b o n c o' n8 c8 e1 (by rw [← g1]) hn
      have h7 : n8 * Rep.k α ≤ n' * Rep.k α := Nat.mul_le_mul_right _ (by omega)
      omega
  · intro j hj hbj
    have hjs : j < h.size := hj.elim (hes j) (hbs j)
    rcases q.place j hbj with h3 | h3
    · exact hj.elim (fun h => c0.apart j h h3) (fun h => hb j h h3)
    · omega
end
/-- An element is appended, whose own block turns no more. -/
theorem OpA.appA {α : Type} [Rep α] {P : Program} {s : Slots} {h0 h : Heap} {D : Nat → Prop} {M R : List Itm} {d : Option Tmp} {ty : TypeId} {pos : String} {af : Array Edge} {g : Option (Nat × Bool)} {x y : Operand} {t e : TypeId} {k bytes : Nat} {z : Value} {a8 : Option Addr} {n8 c8 : Nat} {x3 : SV} {E : Nat → Prop} {all l : List α} {b : Itm} {nv : Value} {cs : List Value} (a : α)
    (ht : elB P t = some e) (hk : szB P e = some (k + 1)) (hby : byB P e = some (bytes + 1)) (hz : zrB P e = some z) (ok : Hp h0 D (accI e (a8, n8, c8) x3 E all l :: b :: M) R h) (hn : Sl h (k + 1) nv cs) (hr : Rep.rd h b.F cs a)
    (hfit : (all.length + 1) * (k + 1) * (bytes + 1) ≤ 140737488355328) (hx : ev s x = .slice a8 n8 c8 := by exact rfl) (hy : ev s y = nv := by exact rfl) (hzk : z.cells.size = k + 1 := by exact rfl) (hka : Rep.k α = k + 1 := by exact rfl) :
    OpA P ⟨d, .call ⟨.builtin .append, #[x, y], #[t, t]⟩, ty, pos, af, g⟩ s h (fun v' h' => ∃ a' n' m', v' = .slice a' n' m' ∧ Hp h0 D (accI e (a', n', m') x3 (fun j => E j ∨ b.F j) (all ++ [a]) l :: M) R h') := by
  have c0 : Acc h e (a8, n8, c8) x3 E all l := ok.m0
  obtain ⟨css, h1, h2⟩ := c0.cap
  have hmm := List.pairwise_cons.1 ok.mm
  have hbf : ∀ j, b.F j → j < h.size := fun j hj => ((ok.m b (by simp)).2 j hj).1
  have hef : ∀ j, E j → j < h.size := fun j hj => ((ok.m _ List.mem_cons_self).2 j (.inr (.inr hj))).1
  have hbx : ∀ j, b.F j → ¬ blkC (sv (a8, n8, c8)) j := fun j hj h3 => hmm.1 b List.mem_cons_self j (.inl h3) hj
  have hlen : css.flatten.length = all.length * (k + 1) := by
    rw [flatten_len (k := Rep.k α) (fun c hc => by
        obtain ⟨i, hi, rfl⟩ := List.mem_iff_getElem.1 hc
        exact Rep.len (h2.2 i hi (by have := h2.1; omega))), h2.1, hka]
  have hcl : cs.length = k + 1 := by rw [Rep.len hr, hka]
  rw [hka] at h1
  refine OpA.mk (V.append hx hy ht hk hby hz hzk h1 hn (Rep.one hr) (by rw [hlen, hcl]; rw [Nat.add_mul, Nat.one_mul] at hfit; exact hfit)) fun v' h' q => ?_
  have q' : Appended h (Rep.k α) e (sv (a8, n8, c8)) (css.flatten ++ cs) v' h' := by rw [hka]; exact q
  obtain ⟨x', rfl, hacc⟩ := Acc.app c0 h2 hr hbx hbf hef q' rfl
  refine ⟨x'.1, x'.2.1, x'.2.2, rfl, ?_⟩
  have ok2 := ok.fuse ⟨fun _ => True, fun j => (blkC (sv (a8, n8, c8)) j ∨ blkC (sv x3) j ∨ E j) ∨ b.F j, fun _ _ _ _ _ _ => trivial⟩ trivial (fun j hj => hj)
  refine ok2.upd q.chg (fun j hj => .inl (.inl hj)) _ hacc (fun j hj => ?_)
  rcases hj with h3 | h3 | h3 | h3
  · rcases q.place j h3 with h4 | h4
    · exact .inl (.inl (.inl h4))
    · exact .inr ⟨h4, q.cap.lt h3⟩
  · exact .inl (.inl (.inr (.inl h3)))
  · exact .inl (.inl (.inr (.inr h3)))
  · exact .inl (.inr h3)
section
variable {h0 h h' : Heap} {D : Nat → Prop} {M R : List Itm} {r k : Nat} {t e : TypeId} {cs cs' xs : List Value} {x : SV}
/-- A box turns, and a slice is new. -/
theorem Hp.boxNew (ok : Hp h0 D (boxI r t cs :: M) R h) (c : Chg (fun j => j = r) h h') (hb : (boxI r t cs').p h') (hc : Cap h' k e (sv x) xs) (hf : ∀ j, blkC (sv x) j → h.size ≤ j) : Hp h0 D (capI k e x xs :: boxI r t cs' :: M) R h' :=
  ok.newBeside (a' := boxI r t cs') c (fun _ h => h) hb (fun _ h => .inl h) _ hc fun j hj => ⟨hf j hj, hc.lt hj, fun e => by
    have e : j = r := e
    have h1 := hf j hj
    have h2 := block_lt ok.m0
    omega⟩
theorem Hp.boxUp (ok : Hp h0 D (boxI r t cs :: M) R h) (c : Chg (fun j => j = r) h h') (hb : (boxI r t cs').p h') : Hp h0 D (boxI r t cs' :: M) R h' := ok.upd c (fun _ h => h) _ hb (fun _ h => .inl h)
end
/-- The cells of a slice that is read. -/
theorem RdL.cells {α : Type} [Rep α] {h : Heap} {F E : Nat → Prop} {x : SV} {l : List α} (r : RdL h F E x l) : ∃ css, Sl h (Rep.k α) (sv x) css.flatten ∧ All2 (Rep.rd h E) css l := by
  obtain ⟨a, n, c⟩ := x
  have hn : n = l.length := r.n
  have hk := Rep.kpos (α := α)
  rcases Nat.eq_zero_or_pos l.length with h0 | h0
  · have : l = [] := List.eq_nil_of_length_eq_zero h0
    subst this
    have hn0 : n = 0 := by simpa using hn
    subst hn0
    exact ⟨[], ⟨a, 0, c, rfl, r.c, r.m, by simp, fun h => absurd h (by omega)⟩, All2.nil⟩
  · obtain ⟨b, o, e, _, hc⟩ := r.at' h0
    have hex : ∀ m, m ≤ l.length → ∃ css : List (List Value), css.length = m ∧ ∀ i (hi : i < l.length) (h2 : i < css.length), Rep.rd h E css[i] l[i] ∧ ∀ j v, css[i][j]? = some v → cell h b (o + i * Rep.k α + j) = some v := by
      intro m
      induction m with
      | zero => intro _; exact ⟨[], rfl, fun i _ h2 => absurd h2 (by simp)⟩
      | succ m ih =>
        intro hm
        obtain ⟨css, h1, h2⟩ := ih (by omega)
        obtain ⟨cs, g1, g2⟩ := hc m (by omega)
        refine ⟨css ++ [cs], by simp [h1], fun i hi h3 => ?_⟩
        rw [List.getElem_append]
        split
        · exact h2 i hi _
        · rename_i h4
          simp at h3
          have : i = m := by omega
          subst this
          simp only [List.getElem_singleton]
          exact ⟨g1, g2⟩
    obtain ⟨css, h1, h2⟩ := hex l.length (Nat.le_refl _)
    have hal : All2 (Rep.rd h E) css l := ⟨h1, fun i g1 g2 => (h2 i g2 g1).1⟩
    have hlen : ∀ cs ∈ css, cs.length = Rep.k α := fun cs hcs => by
      obtain ⟨i, hi, rfl⟩ := List.mem_iff_getElem.1 hcs
      exact Rep.len (hal.2 i hi (by omega))
    refine ⟨css, ⟨a, n, c, rfl, r.c, r.m, by rw [flatten_len hlen, h1, hn], fun _ => ⟨b, o, e, fun i v hv => ?_⟩⟩, hal⟩
    have hi : i < css.length * Rep.k α := by have := (List.getElem?_eq_some_iff.1 hv).1; rwa [flatten_len hlen] at this
    have hq : i / Rep.k α < css.length := by rw [Nat.div_lt_iff_lt_mul hk]; exact hi
    have hm := Nat.mod_lt i hk
    have he : i / Rep.k α * Rep.k α + i % Rep.k α = i := by rw [Nat.mul_comm]; exact Nat.div_add_mod _ _
    rw [← he, flatten_at hlen _ _ hq hm] at hv
    have := (h2 _ (by omega) hq).2 _ _ hv
    rw [Nat.add_assoc, he] at this
    exact this
theorem All2.len_flat {α : Type} [Rep α] {h : Heap} {E : Nat → Prop} {css : List (List Value)} {l : List α} (r : All2 (Rep.rd h E) css l) : css.flatten.length = l.length * Rep.k α := by
  rw [flatten_len (k := Rep.k α) (fun c hc => by
    obtain ⟨i, hi, rfl⟩ := List.mem_iff_getElem.1 hc
    exact Rep.len (r.2 i hi (by have := r.1; omega))), r.1]
theorem All2.one {α : Type} [Rep α] {h : Heap} {E : Nat → Prop} {css : List (List Value)} {l : List α} (r : All2 (Rep.rd h E) css l) : ∀ u ∈ css.flatten, u.oneCell' = true := fun u hu => by
  obtain ⟨cs, hcs, hu⟩ := List.mem_flatten.1 hu
  obtain ⟨i, hi, rfl⟩ := List.mem_iff_getElem.1 hcs
  exact Rep.one (r.2 i hi (by have := r.1; omega)) u hu
/-- A copy of the part, behind a slice that is empty. -/
theorem OpA.appL {α : Type} [Rep α] {P : Program} {s : Slots} {h0 h : Heap} {D : Nat → Prop} {M R : List Itm} {d : Option Tmp} {ty : TypeId} {pos : String} {af : Array Edge} {g : Option (Nat × Bool)} {x y : Operand} {t e : TypeId} {k bytes : Nat} {z : Value} {a : Option Addr} {n c : Nat} {x8 : SV} {a3 : Option Addr} {n3 c3 : Nat} {E : Nat → Prop} {all l : List α}
    (ht : elB P t = some e) (hk : szB P e = some (k + 1)) (hby : byB P e = some (bytes + 1)) (hz : zrB P e = some z) (ok : Hp h0 D (capI (k + 1) e (a, n, c) [] :: accI e x8 (a3, n3, c3) E all l :: M) R h)
    (hfit : l.length * (k + 1) * (bytes + 1) ≤ 140737488355328) (hx : ev s x = .slice a n c := by exact rfl) (hy : ev s y = .slice a3 n3 c3 := by exact rfl) (hzk : z.cells.size = k + 1 := by exact rfl) (hka : Rep.k α = k + 1 := by exact rfl) :
    OpA P ⟨d, .call ⟨.builtin .append, #[x, y], #[t, t]⟩, ty, pos, af, g⟩ s h (fun v' h' => ∃ a' n' m', v' = .slice a' n' m' ∧ Hp h0 D (accI e (a', n', m') (none, 0, 0) E l [] :: M) R h') := by
  have c0 : Acc h e x8 (a3, n3, c3) E all l := ok.m1
  obtain ⟨css, h1, h2⟩ := c0.l3.cells
  have hmm := (List.pairwise_cons.1 ok.mm).1 _ List.mem_cons_self
  have hl2 := h2.len_flat
  rw [hka] at h1 hl2
  refine OpA.mk (V.append hx hy ht hk hby hz hzk ok.m0 h1 h2.one (by simp only [List.length_nil, Nat.zero_add]; rw [hl2]; exact hfit)) fun v' h' q => ?_
  obtain ⟨x', rfl⟩ := q.cap.form
  refine ⟨x'.1, x'.2.1, x'.2.2, rfl, ?_⟩
  have hap : ∀ j, E j → ¬ blkC (.slice a n c) j := fun j hj hb => hmm j hb (.inr (.inr hj))
  have ok2 := ok.fuse ⟨fun _ => True, fun j => blkC (sv (a, n, c)) j ∨ (blkC (sv x8) j ∨ blkC (sv (a3, n3, c3)) j ∨ E j), fun _ _ _ _ _ _ => trivial⟩ trivial (fun j hj => hj)
  refine ok2.upd q.chg (fun j hj => .inl hj) _ ⟨⟨css, ?_, h2.mono fun _ _ r => Rep.st q.chg hap r⟩, RdL.nil _ _ _, fun _ _ _ _ _ _ _ e => (by cases e), fun j hj hb => ?_⟩ (fun j hj => ?_)
  · have := q.cap; rw [← hka] at this; simpa using this
  · rcases q.place j hb with h4 | h4
    · exact hap j hj h4
    · have := ((ok.m _ (List.mem_cons_of_mem _ List.mem_cons_self)).2 j (.inr (.inr hj))).1
      omega
  · rcases hj with h3 | ⟨o, n', c', e⟩ | h3
    · rcases q.place j h3 with h4 | h4
      · exact .inl (.inl h4)
      · exact .inr ⟨h4, q.cap.lt h3⟩
    · cases e
    · exact .inl (.inr (.inr (.inr h3)))
end Go.HL
