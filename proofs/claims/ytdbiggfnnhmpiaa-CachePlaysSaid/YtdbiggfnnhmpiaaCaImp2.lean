/- A cache in memory, and the method drop. Conditions: the cache is well laid. -/
import Derived.Test.YtdbiggfnnhmpiaaCaImp
namespace Go.Proofs.Ytdbiggfnnhmpiaa
open Go Go.HL

/-- A page at hand, and what the cache is: the latest one first. -/
structure AP where
  no : Int
  b : List UInt8
  d : Bool
  deriving DecidableEq
def nos (L : List AP) : List Int := L.map fun x => x.no
def rid (no : Int) (L : List AP) : List AP := L.filter fun x => decide (x.no ≠ no)
def hit (no : Int) (L : List AP) : Option AP := L.find? fun x => decide (x.no = no)
theorem nos_rid (no : Int) (L : List AP) : nos (rid no L) = (nos L).filter fun k => decide (k ≠ no) := by
  unfold nos rid; rw [List.filter_map]; rfl
theorem mem_rid {no : Int} {L : List AP} {x : AP} : x ∈ rid no L ↔ x ∈ L ∧ x.no ≠ no := by simp [rid]
theorem rid_len (no : Int) (L : List AP) : (rid no L).length ≤ L.length := List.length_filter_le _ _
theorem hit_some {no : Int} {L : List AP} {x : AP} (h : hit no L = some x) : x ∈ L ∧ x.no = no :=
  ⟨List.mem_of_find?_eq_some h, by have := List.find?_some h; simpa using this⟩
theorem hit_none {no : Int} {L : List AP} (h : hit no L = none) : ∀ x ∈ L, x.no ≠ no := fun x hx => by
  have := List.find?_eq_none.1 h x hx; simpa using this
theorem hit_mem {no : Int} {L : List AP} (h : no ∈ nos L) : ∃ x, hit no L = some x := by
  cases e : hit no L with
  | some x => exact ⟨x, rfl⟩
  | none =>
    obtain ⟨x, hx, hxn⟩ := List.mem_map.1 h
    exact absurd hxn (hit_none e x hx)
theorem hit_not {no : Int} {L : List AP} (h : no ∉ nos L) : hit no L = none := by
  cases e : hit no L with
  | none => rfl
  | some x => exact absurd (List.mem_map.2 ⟨x, (hit_some e).1, (hit_some e).2⟩) h
theorem rid_none {no : Int} {L : List AP} (h : no ∉ nos L) : rid no L = L := by
  unfold rid
  rw [List.filter_eq_self]
  intro x hx
  simp only [decide_eq_true_eq]
  exact fun e => h (List.mem_map.2 ⟨x, hx, e⟩)
theorem order_drop {no : Int} {L : List AP} (hn : (nos L).Nodup) : (nos L).reverse.erase no = (nos (rid no L)).reverse := by
  have hr : (nos L).reverse.Nodup := by
    unfold List.Nodup
    rw [List.pairwise_reverse]
    exact hn.imp fun h => Ne.symm h
  rw [nos_rid, ← List.filter_reverse, List.Nodup.erase_eq_filter hr]
  apply List.filter_congr
  intro x _
  by_cases e : x = no <;> simp [e]
theorem order_touch {x : AP} {L : List AP} (hn : (nos L).Nodup) : (nos L).reverse.erase x.no ++ [x.no] = (nos (x :: rid x.no L)).reverse := by
  rw [order_drop hn]; simp [nos]
theorem nd_rid {no : Int} {L : List AP} (hn : (nos L).Nodup) : (nos (rid no L)).Nodup := by rw [nos_rid]; exact hn.filter _
theorem nd_touch {x : AP} {L : List AP} (hn : (nos L).Nodup) : (nos (x :: rid x.no L)).Nodup := by
  have : nos (x :: rid x.no L) = x.no :: nos (rid x.no L) := rfl
  rw [this, List.nodup_cons]
  exact ⟨by rw [nos_rid]; simp, nd_rid hn⟩

def isT (h : Heap) (b : Nat) (t : TypeId) : Prop := ∃ cs fz, h[b]? = some (.cells cs t fz)
theorem isT.eq {h : Heap} {b : Nat} {t u : TypeId} (x : isT h b t) (y : isT h b u) : t = u := by
  obtain ⟨_, _, x⟩ := x
  obtain ⟨_, _, y⟩ := y
  rw [x] at y; injection y with y; injection y
@[reducible] def ptr (b : Nat) : Value := .pointer (some ⟨b, 0, none⟩)
def wd (F : Nat → Prop) (a z : Nat) (b : Nat) : Prop := F b ∨ (a ≤ b ∧ b < z)

structure PgAt (h : Heap) (F : Nat → Prop) (q : Nat) (x : AP) : Prop where
  cells : ∃ b : SV, h[q]? = some (.cells #[sv b, .bool x.d] 69 (0, 0)) ∧ Cap h 1 5 (sv b) (x.b.map bv) ∧ ∀ j, blkC (sv b) j → F j
  own : F q
theorem PgAt.chg {h h' : Heap} {F F' G : Nat → Prop} {q : Nat} {x : AP} (r : PgAt h F q x) (c : Chg G h h') (hg : ∀ b, G b → F b → isT h b 69 ∨ isT h b 5 → False) (hF : ∀ b, F b → F' b) : PgAt h' F' q x := by
  obtain ⟨⟨b, hq, hb, hf⟩, ho⟩ := r
  refine ⟨⟨b, c.block hq fun g => hg _ g ho (.inl ⟨_, _, hq⟩), hb.chg c fun j hj g => ?_, fun j hj => hF _ (hf j hj)⟩, hF _ ho⟩
  obtain ⟨cs, fz, h1⟩ := hb.blk hj
  exact hg j g (hf j hj) (.inr ⟨cs, fz, h1⟩)

/-- The map, and the pages that it has. -/
structure CMap (h : Heap) (F : Nat → Prop) (m : Nat) (L : List AP) (ks : List Int) (q : Int → Nat) : Prop where
  map : MapT (Value.int .i64) h m (ks.map fun k => (k, ptr (q k)))
  mem : ∀ k, k ∈ ks ↔ k ∈ nos L
  nd : (nos L).Nodup
  pg : ∀ x ∈ L, PgAt h F (q x.no) x
  inj : ∀ x ∈ L, ∀ y ∈ L, q x.no = q y.no → x.no = y.no
  own : F m
theorem CMap.chg {h h' : Heap} {F F' G : Nat → Prop} {m : Nat} {L : List AP} {ks : List Int} {q : Int → Nat} (r : CMap h F m L ks q) (c : Chg G h h') (hg : ∀ b, G b → F b → isT h b 64 ∨ isT h b 3) (hF : ∀ b, F b → F' b) : CMap h' F' m L ks q := by
  refine ⟨r.map.chg c fun g => ?_, r.mem, r.nd, fun x hx => (r.pg x hx).chg c (fun b g f t => ?_) hF, r.inj, hF _ r.own⟩
  · obtain ⟨es, cl, hb, _⟩ := r.map
    rcases hg _ g r.own with ⟨cs, fz, h1⟩ | ⟨cs, fz, h1⟩ <;> (rw [hb] at h1; injection h1 with h1; cases h1)
  · rcases hg _ g f with h1 | h1 <;> rcases t with h2 | h2 <;> exact absurd (h1.eq h2) (by decide)
theorem CMap.keys {h : Heap} {F : Nat → Prop} {m : Nat} {L : List AP} {ks : List Int} {q : Int → Nat} (r : CMap h F m L ks q) : ks.Nodup := by
  have h1 := r.map.nodup
  rw [List.map_map] at h1
  have h2 : ((fun x : Int × Value => x.1) ∘ fun k => (k, ptr (q k))) = id := rfl
  rwa [h2, List.map_id] at h1
theorem aget_map {f : Int → Value} {ks : List Int} {k : Int} (h : k ∈ ks) : aget (ks.map fun k => (k, f k)) k = some (f k) := by
  induction ks with
  | nil => simp at h
  | cons a l ih =>
    unfold aget
    rw [List.map_cons, List.find?_cons]
    by_cases e : a = k
    · subst e; simp
    · have hm : k ∈ l := by rcases List.mem_cons.1 h with h | h; exact absurd h.symm e; exact h
      have := ih hm
      unfold aget at this
      simpa [e] using this
theorem aget_not {f : Int → Value} {ks : List Int} {k : Int} (h : k ∉ ks) : aget (ks.map fun k => (k, f k)) k = none := by
  refine aget_none fun p hp => ?_
  obtain ⟨j, hj, rfl⟩ := List.mem_map.1 hp
  rintro rfl
  exact h hj
theorem adel_map {f : Int → Value} {ks : List Int} {k : Int} : adel (ks.map fun k => (k, f k)) k = (ks.filter fun j => decide (j ≠ k)).map fun k => (k, f k) := by
  unfold adel; rw [List.filter_map]; rfl
def kput (ks : List Int) (k : Int) : List Int := if k ∈ ks then ks else ks ++ [k]
theorem mem_kput {ks : List Int} {k j : Int} : j ∈ kput ks k ↔ j = k ∨ j ∈ ks := by
  unfold kput
  by_cases h : k ∈ ks
  · rw [if_pos h]
    constructor
    · exact .inr
    · rintro (rfl | hj)
      · exact h
      · exact hj
  · rw [if_neg h]; simp [or_comm]
def fput (q : Int → Nat) (k : Int) (n : Nat) (j : Int) : Nat := if j = k then n else q j
theorem aput_map {q : Int → Nat} {ks : List Int} {k : Int} {n : Nat} (hn : ks.Nodup) : aput (ks.map fun k => (k, ptr (q k))) k (ptr n) = (kput ks k).map fun j => (j, ptr (fput q k n j)) := by
  unfold kput
  by_cases h : k ∈ ks
  · rw [if_pos h]
    induction ks with
    | nil => simp at h
    | cons a l ih =>
      rw [List.nodup_cons] at hn
      by_cases e : a = k
      · subst e
        simp only [List.map_cons, aput, if_pos, fput]
        congr 1
        apply List.map_congr_left
        intro j hj
        rw [if_neg (by rintro rfl; exact hn.1 hj)]
      · have hm : k ∈ l := by rcases List.mem_cons.1 h with h | h; exact absurd h.symm e; exact h
        simp only [List.map_cons, aput, if_neg e, ih hn.2 hm, fput]
  · rw [if_neg h, aput_none]
    · rw [List.map_append]
      congr 1
      · apply List.map_congr_left
        intro j hj
        unfold fput
        rw [if_neg (by rintro rfl; exact h hj)]
      · simp [fput]
    · intro p hp
      obtain ⟨j, hj, rfl⟩ := List.mem_map.1 hp
      rintro rfl
      exact h hj
theorem CMap.get {h : Heap} {F : Nat → Prop} {m : Nat} {L : List AP} {ks : List Int} {q : Int → Nat} (r : CMap h F m L ks q) (no : Int) :
    (aget (ks.map fun k => (k, ptr (q k))) no).getD (.pointer none) = .pointer ((hit no L).map fun _ => ⟨q no, 0, none⟩) := by
  by_cases hm : no ∈ nos L
  · obtain ⟨x, hx⟩ := hit_mem hm
    rw [aget_map ((r.mem no).2 hm), hx]; rfl
  · rw [aget_not (fun k => hm ((r.mem no).1 k)), hit_not hm]; rfl
theorem CMap.drop {h : Heap} {F : Nat → Prop} {m : Nat} {L : List AP} {ks : List Int} {q : Int → Nat} (r : CMap h F m L ks q) {no : Int} {h' : Heap} (p : V.Put (Value.int .i64) h m (adel (ks.map fun k => (k, ptr (q k))) no) h') :
    CMap h' F m (rid no L) (ks.filter fun j => decide (j ≠ no)) q := by
  refine ⟨by have := p.map; rwa [adel_map] at this, fun k => ?_, nd_rid r.nd, fun x hx => (r.pg x (mem_rid.1 hx).1).chg p.chg ?_ (fun _ f => f), fun x hx y hy => r.inj x (mem_rid.1 hx).1 y (mem_rid.1 hy).1, r.own⟩
  · rw [nos_rid, List.mem_filter, List.mem_filter, r.mem]
  · rintro b rfl _ t
    obtain ⟨es, cl, hb, _⟩ := r.map
    rcases t with ⟨cs, fz, h1⟩ | ⟨cs, fz, h1⟩ <;> (rw [hb] at h1; injection h1 with h1; cases h1)
theorem CMap.put {h : Heap} {F : Nat → Prop} {m : Nat} {L : List AP} {ks : List Int} {q : Int → Nat} (r : CMap h F m L ks q) {x : AP} {n : Nat} {h' : Heap} {F' : Nat → Prop} (hn : PgAt h F' n x) (hnew : ∀ y ∈ L, q y.no ≠ n) (hFF : ∀ b, F b → F' b)
    (p : V.Put (Value.int .i64) h m (aput (ks.map fun k => (k, ptr (q k))) x.no (ptr n)) h') :
    CMap h' F' m (x :: rid x.no L) (kput ks x.no) (fput q x.no n) := by
  have hmp : ∀ b, b = m → F' b → isT h b 69 ∨ isT h b 5 → False := by
    rintro b rfl _ t
    obtain ⟨es, cl, hb, _⟩ := r.map
    rcases t with ⟨cs, fz, h1⟩ | ⟨cs, fz, h1⟩ <;> (rw [hb] at h1; injection h1 with h1; cases h1)
  refine ⟨by have := p.map; rwa [aput_map r.keys] at this, fun k => ?_, nd_touch r.nd, ?_, ?_, hFF _ r.own⟩
  · rw [mem_kput, r.mem]
    have : nos (x :: rid x.no L) = x.no :: nos (rid x.no L) := rfl
    rw [this, nos_rid, List.mem_cons, List.mem_filter]
    by_cases e : k = x.no <;> simp [e]
  · intro y hy
    rcases List.mem_cons.1 hy with rfl | hy
    · simp only [fput, if_pos]
      exact hn.chg p.chg hmp (fun _ f => f)
    · obtain ⟨h1, h2⟩ := mem_rid.1 hy
      simp only [fput, if_neg h2]
      exact ((r.pg y h1).chg (Chg.refl none_ h) (fun _ g _ _ => g) hFF).chg p.chg hmp (fun _ f => f)
  · intro y hy z hz e
    unfold fput at e
    rcases List.mem_cons.1 hy with rfl | hy <;> rcases List.mem_cons.1 hz with rfl | hz
    · rfl
    · obtain ⟨h1, h2⟩ := mem_rid.1 hz
      rw [if_pos rfl, if_neg h2] at e
      exact absurd e.symm (hnew z h1)
    · obtain ⟨h1, h2⟩ := mem_rid.1 hy
      rw [if_neg h2, if_pos rfl] at e
      exact absurd e (hnew y h1)
    · obtain ⟨h1, h2⟩ := mem_rid.1 hy
      obtain ⟨h3, h4⟩ := mem_rid.1 hz
      rw [if_neg h2, if_neg h4] at e
      exact r.inj y h1 z h3 e

theorem Ordr.chg {h h' : Heap} {G : Nat → Prop} {p : Nat} {rm mp : Value} {ov : SV} {xs : List Int} (r : Ordr h p rm mp ov xs) (c : Chg G h h') (hp : ¬ G p) (hb : ∀ b, blkC (sv ov) b → ¬ G b) : Ordr h' p rm mp ov xs :=
  ⟨c.block r.hp hp, r.ord.chg c hb⟩

/-- A cache: its block, its map, its order, its pages; all its blocks lie in F. -/
structure CIn (h : Heap) (F : Nat → Prop) (p m : Nat) (ov : SV) (room : Int) (L : List AP) (ks : List Int) (q : Int → Nat) : Prop where
  mp : CMap h F m L ks q
  od : Ordr h p (.int .i64 room) (.map (some m)) ov (nos L).reverse
  fp : F p
  fo : ∀ b, blkC (sv ov) b → F b
  lt : ∀ b, F b → b < h.size
  len : L.length ≤ 100000001
  sm : ∀ x ∈ L, x.b.length ≤ 1000000
def CRep (h : Heap) (F : Nat → Prop) (p : Nat) (room : Int) (L : List AP) : Prop := ∃ m ov ks q, CIn h F p m ov room L ks q
structure Step (F : Nat → Prop) (h : Heap) (F' : Nat → Prop) (h' : Heap) : Prop where
  chg : Chg F h h'
  place : ∀ b, F' b → F b ∨ h.size ≤ b
theorem CIn.hp {h : Heap} {F : Nat → Prop} {p m : Nat} {ov : SV} {room : Int} {L : List AP} {ks : List Int} {q : Int → Nat} (r : CIn h F p m ov room L ks q) : h[p]? = some (.cells #[sv ov, .int .i64 room, .map (some m)] 64 (0, 0)) := r.od.hp
/-- The blocks that the order and the cache's own block take. -/
theorem CIn.kind {h : Heap} {F : Nat → Prop} {p m : Nat} {ov : SV} {room : Int} {L : List AP} {ks : List Int} {q : Int → Nat} (r : CIn h F p m ov room L ks q) : ∀ b, (b = p ∨ blkC (sv ov) b) → isT h b 64 ∨ isT h b 3 := by
  rintro b (rfl | hb)
  · exact .inl ⟨_, _, r.hp⟩
  · exact .inr (r.od.ord.blk hb)
theorem CIn.ne_p {h : Heap} {F : Nat → Prop} {p m : Nat} {ov : SV} {room : Int} {L : List AP} {ks : List Int} {q : Int → Nat} (r : CIn h F p m ov room L ks q) : p ≠ m := fun e => by
  obtain ⟨es, cl, hb, _⟩ := r.mp.map
  have := r.hp
  rw [e, hb] at this; injection this with this; cases this
theorem CIn.ne_o {h : Heap} {F : Nat → Prop} {p m : Nat} {ov : SV} {room : Int} {L : List AP} {ks : List Int} {q : Int → Nat} (r : CIn h F p m ov room L ks q) : ∀ b, blkC (sv ov) b → b ≠ m := fun b hb e => by
  subst e
  obtain ⟨es, cl, h1, _⟩ := r.mp.map
  obtain ⟨cs, fz, h2⟩ := r.od.ord.blk hb
  rw [h1] at h2; injection h2 with h2; cases h2

set_option maxRecDepth 100000 in
theorem drop_in {h : Heap} {F : Nat → Prop} {p m : Nat} {ov : SV} {room : Int} {L : List AP} {ks : List Int} {q : Int → Nat} (r : CIn h F p m ov room L ks q) (no : Int) :
    HC Try.prog 28 #[ptr p, .int .i64 no] h (fun v h' => ∃ ov', v = .tuple #[] ∧ CIn h' (wd F h.size h'.size) p m ov' room (rid no L) (ks.filter fun j => decide (j ≠ no)) q ∧ Chg (fun b => b = m ∨ b = p ∨ blkC (sv ov) b) h h') := by
  refine HC.body Try.func28 rfl (by kernel_rfl) 14 rfl rfl ?_
  refine HW.seq fun K1 hK1 => ?_
  refine HW.region ?_   -- region 0 cache.go:82
  refine HO.v (V.mvP rfl) rfl 4 rfl rfl ?_
  refine HO.v (V.nilCheck rfl) rfl 5 rfl rfl ?_
  refine HO.v (V.fieldAddr rfl T.fd64_2) rfl 6 rfl rfl ?_
  refine HO.v (V.load rfl (load_one T.ag60 (v := .map (some m)) (cell_of r.hp 2))) rfl 7 rfl rfl ?_
  refine HO.v (V.mvI rfl) rfl 8 rfl rfl ?_
  refine HO.a0 (V.delete (KV.int .i64) rfl rfl r.mp.map T.mp60 (inB_iff T.in3)) rfl rfl ?_
  rintro _ h1 ⟨rfl, pu⟩
  refine HO.nil ?_
  refine hK1 _ _ ?_
  refine HW.region ?_   -- region 1 cache.go:83
  refine HO.v (V.mvP rfl) rfl 9 rfl rfl ?_
  refine HO.v (V.nilCheck rfl) rfl 10 rfl rfl ?_
  refine HO.v (V.fieldAddr rfl T.fd64_0) rfl 11 rfl rfl ?_
  refine HO.v (V.mvI rfl) rfl 12 rfl rfl ?_
  have o1 : Ordr h1 p (.int .i64 room) (.map (some m)) ov (nos L).reverse := r.od.chg pu.chg r.ne_p r.ne_o
  refine HO.c OpC.func rfl 13 rfl rfl (forget_any o1 (by have := r.len; simp [nos]; omega)) ?_
  rintro _ h2 ⟨ov2, rfl, t⟩
  refine HO.nil ?_
  refine ⟨.tuple #[], Res.none rfl, ov2, rfl, ⟨?_, ?_, ?_, ?_, ?_, ?_, ?_⟩, ?_⟩
  · have c1 := r.mp.drop pu
    refine c1.chg t.chg (fun b g _ => ?_) fun b f => .inl f
    rcases g with rfl | hb
    · exact .inl ⟨_, _, o1.hp⟩
    · exact .inr (o1.ord.blk hb)
  · have := t.ordr
    rwa [order_drop r.mp.nd] at this
  · exact .inl r.fp
  · intro b hb
    have h1 := t.ordr.ord.lt hb
    rcases t.place b hb with hb | hb
    · exact .inl (r.fo b hb)
    · have := pu.size
      exact .inr ⟨by omega, h1⟩
  · have h1 := t.chg.size
    have h2 := pu.size
    rintro b (hb | hb)
    · have := r.lt b hb; omega
    · exact hb.2
  · have := rid_len no L
    have := r.len
    omega
  · exact fun x hx => r.sm x (mem_rid.1 hx).1
  · refine (pu.chg.mono fun b _ hb => .inl hb).trans' t.chg fun b _ hb => .inr hb

end Go.Proofs.Ytdbiggfnnhmpiaa
