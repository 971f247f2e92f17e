/- Maps as separate items: made, put into, looked up, deleted from, looped over. Conditions: those that each rule names. -/
import Derived.Test.YtpebbkhainpfaaaHlAcc
namespace Go.HL
open Go Go.MapKept V
/-- A loop over a map: the iterator and the map. -/
@[reducible] def itI {κ : Type} (kv : κ → Value) (r bm : Nat) (l todo : List (κ × Value)) : Itm := ⟨fun h => Iter kv h r bm l todo, fun j => j = r ∨ j = bm, fun _ _ _ c d x => x.chg c (d r (.inl rfl)) (d bm (.inr rfl))⟩
/-- The same, with the entry that came last. -/
@[reducible] def itcI {κ : Type} (kv : κ → Value) (r bm : Nat) (l todo : List (κ × Value)) (p : κ × Value) : Itm := ⟨fun h => Iter kv h r bm l todo ∧ Cur kv h r bm p, fun j => j = r ∨ j = bm, fun _ _ _ c d x => ⟨x.1.chg c (d r (.inl rfl)) (d bm (.inr rfl)), x.2.chg c (d r (.inl rfl)) (d bm (.inr rfl))⟩⟩
theorem erase_filter {α : Type} (q : α → Bool) : ∀ {l : List α} {i : Nat} {e : α}, l[i]? = some e → q e = false → (l.eraseIdx i).filter q = l.filter q
  | [], _, _, h, _ => by simp at h
  | x :: l, 0, e, h, hq => by
    simp at h; subst h
    simp [hq]
  | x :: l, i + 1, e, h, hq => by
    simp only [List.getElem?_cons_succ] at h
    rw [List.eraseIdx_cons_succ, List.filter_cons, List.filter_cons, erase_filter q h hq]
section
variable {P : Program} {s : Slots} {h0 h : Heap} {D : Nat → Prop} {M R : List Itm} {d : Option Tmp} {ty : TypeId} {pos : String} {af : Array Edge} {g : Option (Nat × Bool)} {x y c : Operand} {t kt et : TypeId} {κ : Type} {kv : κ → Value} {r bm : Nat} {l todo : List (κ × Value)}
theorem OpA.mkm (kv : κ → Value) (ok : Hp h0 D M R h) : OpA P ⟨d, .makeMap t none, ty, pos, af, g⟩ s h (fun v h' => ∃ b, v = .map (some b) ∧ Hp h0 D (mapI kv b [] :: M) R h') := fun E w at' => by
  obtain ⟨w', at2, hr⟩ := V.makeMap (P := P) (s := s) (h := h) (d := d) (t := t) (ty := ty) (pos := pos) (af := af) (g := g) E w at'
  exact ⟨_, _, w', ⟨h.size, rfl, ok.newM (Ext.push _ _) _ (MapT.new (push_same _ _)) (fun j hj => by simp at hj ⊢; omega)⟩, at2, hr⟩
theorem Hp.put [DecidableEq κ] {h' : Heap} {l' : List (κ × Value)} (ok : Hp h0 D (mapI kv r l :: M) R h) (q : Put kv h r l' h') : Hp h0 D (mapI kv r l' :: M) R h' := ok.upd q.chg (fun _ x => x) _ q.map (fun _ x => .inl x)
theorem OpUR.mpu [DecidableEq κ] {dd : TypeDesc} (K : KV kv dd) (hsb : ∀ a n, Instr.sameBits n (kv a) (kv a) = true) (k : κ) {v : Value} (ht : mpB P t = some (kt, et)) (hd : P.underlying kt = some dd) (ok : Hp h0 D (mapI kv r l :: M) R h) (hy : ev s y = kv k := by exact rfl) (hc : ev s c = v := by exact rfl) (hx : ev s x = .map (some r) := by exact rfl) :
    OpUR P ⟨d, .mapUpdate t x y c, ty, pos, af, g⟩ s h (Hp h0 D (mapI kv r (aput l k v) :: M) R) := OpUR.mk (V.mapUpdate K hsb hx hy hc ok.m0 ht hd) fun h' q => ok.put q
theorem OpUR.ins [DecidableEq κ] {dd : TypeDesc} (K : KV kv dd) (hsb : ∀ a n, Instr.sameBits n (kv a) (kv a) = true) (k : κ) {v : Value} (ht : mpB P t = some (kt, et)) (hd : P.underlying kt = some dd) (ok : Hp h0 D (mapI kv r l :: M) R h) (hy : ev s y = kv k := by exact rfl) (hc : ev s c = v := by exact rfl) (hx : ev s x = .map (some r) := by exact rfl) :
    OpUR P ⟨d, .insert t x y c, ty, pos, af, g⟩ s h (Hp h0 D (mapI kv r (aput l k v) :: M) R) := OpUR.mk (V.insert K hsb hx hy hc ok.m0 ht hd) fun h' q => ok.put q
theorem OpA.del [DecidableEq κ] {dd : TypeDesc} (K : KV kv dd) {u' : TypeId} (k : κ) (ht : mpB P t = some (kt, et)) (hd : P.underlying kt = some dd) (ok : Hp h0 D (mapI kv r l :: M) R h) (hy : ev s y = kv k := by exact rfl) (hx : ev s x = .map (some r) := by exact rfl) :
    OpA P ⟨d, .call ⟨.builtin .delete, #[x, y], #[t, u']⟩, ty, pos, af, g⟩ s h (fun v h' => v = .tuple #[] ∧ Hp h0 D (mapI kv r (adel l k) :: M) R h') := OpA.mk (V.delete K hx hy ok.m0 ht hd) fun v h' q => ⟨q.1, ok.put q.2⟩
theorem OpA.rng (ht : mpB P t = some (kt, et)) (ok : Hp h0 D (mapI kv r l :: M) R h) (hx : ev s x = .map (some r) := by exact rfl) :
    OpA P ⟨d, .range t x, ty, pos, af, g⟩ s h (fun v h' => ∃ b, v = .pointer (some ⟨b, 0, none⟩) ∧ Hp h0 D (itI kv b r l l :: M) R h') := OpA.mk (V.range hx ok.m0 ht) fun v h' ⟨e, it, x, hs⟩ =>
  ⟨h.size, e, ok.upd (G := none_) x (fun _ f => f.elim) _ it fun j hj => hj.elim (fun e => .inr ⟨by omega, by omega⟩) .inl⟩
theorem OpA.nxt (ok : Hp h0 D (itI kv r bm l todo :: M) R h) (hx : ev s x = .pointer (some ⟨r, 0, none⟩) := by exact rfl) :
    OpA P ⟨d, .next x false, ty, pos, af, g⟩ s h (fun v h' => (todo = [] ∧ v = .tuple #[.bool false] ∧ Hp h0 D (itI kv r bm l todo :: M) R h') ∨ (∃ i p, todo[i]? = some p ∧ v = .tuple #[.bool true, kv p.1, p.2] ∧ Hp h0 D (itcI kv r bm l (todo.eraseIdx i) p :: M) R h')) := fun E w at' => by
  have hi : Iter kv h r bm l todo := ok.m0
  obtain ⟨es, cl, si, se, c0, h1, h2, he, hs, ho, hsc, hcl, ht⟩ := hi.ex
  have w1 : w.heap[r]? = some (.mapIter (some bm) si se c0) := by rw [at'.heap]; exact h1
  have w2 : w.heap[bm]? = some (.map es cl) := by rw [at'.heap]; exact h2
  rcases run_next_at (P := P) w ty r bm si c0 se es cl w1 w2 ho hsc with ⟨hz, hr⟩ | ⟨e, hem, w', hw', hr⟩
  · refine ⟨_, h, w, .inl ⟨?_, rfl, ok⟩, at', by simp [execOp, hx, hr]⟩
    have : (leftOf es se).toList = [] := by rw [Array.eq_empty_of_size_eq_zero hz]
    rw [this] at ht
    cases todo with
    | nil => rfl
    | cons a b => simp at ht
  · obtain ⟨i, hi'⟩ := List.mem_iff_getElem?.1 hem
    obtain ⟨p, hp, hk, hv⟩ := ents_at ht hi'
    have hei : e ∈ es.toList := by unfold leftOf at hem; simp at hem; simpa using hem.1
    have hw2 : At E h w' := by rcases hw' with rfl | rfl; exact at'; exact ⟨at'.heap, at'.os, at'.tape, at'.output⟩
    obtain ⟨c1, c2, c3⟩ := set_chg (o' := .mapIter (some bm) si (se.push e.born) cl) h1
    refine ⟨.tuple #[.bool true, e.key, e.val], _, _, .inr ⟨i, p, hp, by rw [hk, hv], ok.upd c1 (fun j e => .inl e) (itcI kv r bm l (todo.eraseIdx i) p) ⟨⟨⟨es, cl, si, se.push e.born, cl, c2, c1.block h2 (fun e => hi.ne e.symm), he, hs, ho, hcl, hcl, ?_⟩⟩, ⟨⟨es, cl, si, se, e, c2, c1.block h2 (fun e => hi.ne e.symm), hei, hs.2.1, hk, hv⟩⟩⟩ (fun _ x => .inl x)⟩, hw2.set r (.mapIter (some bm) si (se.push e.born) cl), by simp [execOp, hx, hr]; rfl⟩
    have hn : ((leftOf es se).toList.map (·.born)).Nodup := by
      unfold leftOf
      rw [Array.toList_filter]
      exact hs.2.1.sublist ((List.filter_sublist).map _)
    have hl : (leftOf es (se.push e.born)).toList = (leftOf es se).toList.eraseIdx i := by
      rw [← filter_idx (·.born) hn hi']
      unfold leftOf
      rw [Array.toList_filter, Array.toList_filter, List.filter_filter]
      apply List.filter_congr
      intro x _
      simp [Bool.and_comm]
    rw [hl, map_erase, ht, map_erase]
theorem OpV.ent {p : κ × Value} (hc : Cur kv h r bm p) (hx : ev s x = .pointer (some ⟨r, 0, none⟩) := by exact rfl) : OpV P ⟨d, .entry x, ty, pos, af, g⟩ s h (.tuple #[kv p.1, p.2]) := V.entry hx hc
/-- The entry that came last is deleted. -/
theorem OpA.delC [DecidableEq κ] {dd : TypeDesc} (K : KV kv dd) {u' : TypeId} {p : κ × Value} (ht : mpB P t = some (kt, et)) (hd : P.underlying kt = some dd) (ok : Hp h0 D (itcI kv r bm l todo p :: M) R h) (hy : ev s y = kv p.1 := by exact rfl) (hx : ev s x = .map (some bm) := by exact rfl) :
    OpA P ⟨d, .call ⟨.builtin .delete, #[x, y], #[t, u']⟩, ty, pos, af, g⟩ s h (fun v h' => v = .tuple #[] ∧ Hp h0 D (itI kv r bm (adel l p.1) todo :: M) R h') := fun E w at' => by
  obtain ⟨hi, hc⟩ : Iter kv h r bm l todo ∧ Cur kv h r bm p := ok.m0
  have hne := hi.ne
  have hn := hi.map.nodup
  obtain ⟨es, cl, si, se, c0, h1, hb, he, hs, ho, hsc, hcl, htd⟩ := hi.ex
  obtain ⟨es2, cl2, si2, se2, e2, g1, g2, g3, g4, g5, g6⟩ := hc.ex
  rw [h1] at g1; rw [hb] at g2
  injection g1 with g1; injection g1 with _ g1a g1b g1c
  injection g2 with g2; injection g2 with g2a g2b
  subst g2a g1b
  have hwb : w.heap[bm]? = some (.map es cl) := by rw [at'.heap]; exact hb
  rcases MapT.find K he hn p.1 with ⟨_, _, h3⟩ | ⟨i, e, h5, h4, h7, h6, h8⟩
  · obtain ⟨j, hj⟩ := List.mem_iff_getElem?.1 g3
    obtain ⟨q, q1, q2, _⟩ := ents_at he hj
    exact absurd (K.inj _ _ (by rw [← q2, g5])) (h3 q (List.mem_of_getElem? q1))
  · have hil : i < es.size := by have := (List.getElem?_eq_some_iff.1 h4).1; simpa using this
    obtain ⟨c1, c2, c3⟩ := set_chg (o' := .map (es.eraseIdxIfInBounds i) cl) hb
    have hel : (es.eraseIdxIfInBounds i).toList = es.toList.eraseIdx i := by
      unfold Array.eraseIdxIfInBounds; rw [dif_pos hil, Array.toList_eraseIdx]
    have hee : e = e2 := by
      obtain ⟨j, hj⟩ := List.mem_iff_getElem?.1 g3
      obtain ⟨q, q1, q2, _⟩ := ents_at he hj
      obtain ⟨q', q1', q2', _⟩ := ents_at he h4
      have hqq : q.1 = q'.1 := K.inj _ _ (by rw [← q2, ← q2', g5, h7])
      have hij : i = j := by
        have hnd : (l.map (·.1)).Nodup := hn
        have a1 : (l.map (·.1))[i]? = some q'.1 := by rw [List.getElem?_map, q1']; rfl
        have a2 : (l.map (·.1))[j]? = some q'.1 := by rw [List.getElem?_map, q1, ← hqq]; rfl
        exact (List.getElem?_inj (by have := (List.getElem?_eq_some_iff.1 a1).1; exact this) hnd).1 (by rw [a1, a2])
      subst hij
      rw [h4] at hj; injection hj
    refine ⟨_, _, _, ⟨rfl, ok.upd c1 (fun j e => .inr e) _ ⟨⟨_, _, _, _, _, c1.block h1 (fun e => hne e), c2, ?_, stamped_erase hs i, fun x hx => ho x (by rw [hel] at hx; exact List.mem_of_mem_eraseIdx hx), hsc, hcl, ?_⟩⟩ (fun _ x => .inl x)⟩, at'.set bm (.map (es.eraseIdxIfInBounds i) cl), ?_⟩
    · rw [adel_some hn h6, hel, map_erase, he, map_erase]
    · unfold leftOf at htd ⊢
      rw [Array.toList_filter] at htd ⊢
      rw [hel, erase_filter _ h4 (by rw [hee]; simp)]
      exact htd
    · simp [execOp, resolve, invoke, builtin, hx, hy, Builtin.delete_, run_und (mpB_iff ht), MapKept.run_getObj_map hwb, run_checkKey hd (K.key p.1), run_findKey hd h5, run_setObj_map _ hwb]
theorem Hp.itc {p : κ × Value} (ok : Hp h0 D (itcI kv r bm l todo p :: M) R h) : Hp h0 D (itI kv r bm l todo :: M) R h := ok.re _ ok.m0.1 (fun _ x => x)
theorem Hp.itm (ok : Hp h0 D (itI kv r bm l todo :: M) R h) : Hp h0 D (mapI kv bm l :: M) R h := ok.re _ ok.m0.map (fun _ x => .inr x)
end
theorem HO.a0' {P : Program} {n : Nat} {ops : Array Oper} {l : List Oper} {o : Oper} {K : Slots → Heap → Prop} {s : Slots} {h : Heap} {R : Value → Heap → Prop} (hv : OpA P o s h R) (hk : ∀ v h', R v h' → HO P n ops l K s h') (hw : wants ops o s = true := by exact rfl) (hd : o.dst = none := by exact rfl) : HO P n ops (o :: l) K s h := HO.a0 hv hw hd hk
theorem OpV.lk {P : Program} {s : Slots} {h : Heap} {d : Option Tmp} {ty : TypeId} {pos : String} {af : Array Edge} {g : Option (Nat × Bool)} {x y : Operand} {t kt et : TypeId} {κ : Type} [DecidableEq κ] {kv : κ → Value} {dd : TypeDesc} (K : KV kv dd) {r : Nat} {l : List (κ × Value)} (k : κ) {z v : Value} (ht : mpB P t = some (kt, et)) (hd : P.underlying kt = some dd) (hz : zrB P et = some z) (hm : MapT kv h r l) (he : (aget l k).getD z = v) (hy : ev s y = kv k := by exact rfl) (hx : ev s x = .map (some r) := by exact rfl) :
    OpV P ⟨d, .lookup t x y false, ty, pos, af, g⟩ s h v := V.lookupE K hx hy hm ht hd hz he
theorem OpV.lk2 {P : Program} {s : Slots} {h : Heap} {d : Option Tmp} {ty : TypeId} {pos : String} {af : Array Edge} {g : Option (Nat × Bool)} {x y : Operand} {t kt et : TypeId} {κ : Type} [DecidableEq κ] {kv : κ → Value} {dd : TypeDesc} (K : KV kv dd) {r : Nat} {l : List (κ × Value)} (k : κ) {z v : Value} {b : Bool} (ht : mpB P t = some (kt, et)) (hd : P.underlying kt = some dd) (hz : zrB P et = some z) (hm : MapT kv h r l) (he : (aget l k).getD z = v) (hb : (aget l k).isSome = b) (hy : ev s y = kv k := by exact rfl) (hx : ev s x = .map (some r) := by exact rfl) :
    OpV P ⟨d, .lookup t x y true, ty, pos, af, g⟩ s h (.tuple #[v, .bool b]) := V.lookupOkE K hx hy hm ht hd hz he hb
end Go.HL
