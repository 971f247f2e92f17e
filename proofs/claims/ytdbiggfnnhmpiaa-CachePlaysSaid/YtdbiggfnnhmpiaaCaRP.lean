/- The document's cache: New, Get, Put, Pages as its methods compute them, by the plain lists of the cache proper. Conditions: the state is readable. -/
import Derived.Test.YtdbiggfnnhmpiaaJoin
import Derived.Test.YtdbiggfnnhmpiaaCaImp4
namespace Go.Proofs.Ytdbiggfnnhmpiaa
open Go Go.HL

/-- A page of the document's state, and what it is. -/
structure RIs (h : Heap) (E : Nat → Prop) (p : Pg) (x : AP) : Prop where
  no : p.no = x.no
  d : p.d = x.d
  b : RdL h E E p.b x.b
theorem RIs.st {h h' : Heap} {E G : Nat → Prop} {p : Pg} {x : AP} (c : Chg G h h') (d : ∀ j, E j → ¬ G j) (r : RIs h E p x) : RIs h' E p x := ⟨r.no, r.d, r.b.st c d d⟩
theorem RIs.mono {h : Heap} {E E' : Nat → Prop} {p : Pg} {x : AP} (d : ∀ j, E j → E' j) (r : RIs h E p x) : RIs h E' p x := ⟨r.no, r.d, r.b.mono d d⟩
@[reducible] def plI (E : Nat → Prop) (ps : List Pg) (L : List AP) : Itm := ⟨fun h => All2 (RIs h E) ps L, E, fun _ _ _ c d r => r.mono fun _ _ q => q.st c d⟩
/-- The document's state: its pages' slice. -/
structure RC (h : Heap) (E : Nat → Prop) (x : SV) (L : List AP) : Prop where
  ex : ∃ ps : List Pg, Sl h 3 (sv x) (ps.flatMap pg) ∧ All2 (RIs h E) ps L
  bk : ∀ j, blk (sv x) j → E j
  lt : ∀ j, E j → j < h.size
theorem RC.st {h h' : Heap} {E G : Nat → Prop} {x : SV} {L : List AP} (c : Chg G h h') (d : ∀ j, E j → ¬ G j) (r : RC h E x L) : RC h' E x L := by
  obtain ⟨⟨ps, h1, h2⟩, hb, hl⟩ := r
  exact ⟨⟨ps, h1.chg c fun j hj => d j (hb j hj), h2.mono fun _ _ q => q.st c d⟩, hb, fun j hj => Nat.lt_of_lt_of_le (hl j hj) c.size⟩
theorem RC.start {h : Heap} {E D : Nat → Prop} {a : Option Addr} {n c : Nat} {L : List AP} (r : RC h E (a, n, c) L) :
    ∃ ps : List Pg, Hp h D [] [plI E ps L, rowI 3 (a, n, c) (ps.flatMap pg)] h ∧ ps.length = n ∧ L.length = n ∧ n ≤ c ∧ c ≤ 9223372036854775807 := by
  obtain ⟨⟨ps, h1, h2⟩, hb, hl⟩ := r
  have h1' : Sl h 3 (.slice a n c) (ps.flatMap pg) := h1
  obtain ⟨h3, h4, h5⟩ := h1'.sz pg_len (by omega)
  exact ⟨ps, ((Hp.nil h D).old _ h1 (blk_lt (by omega) h1)).old (plI E ps L) h2 hl, h3, by rw [← h2.1, h3], h4, h5⟩
/-- A new state's slice, over pages old and new. -/
theorem RC.made {h0 h : Heap} {E : Nat → Prop} {M R : List Itm} {e : TypeId} {x : SV} {ps : List Pg} {L : List AP} (ok : Hp h0 none_ (capI 3 e x (ps.flatMap pg) :: M) R h) (hl : ∀ j, E j → j < h0.size) (r : All2 (RIs h (fun j => E j ∨ Nw h0 h j)) ps L) : RC h (fun j => E j ∨ Nw h0 h j) x L :=
  ⟨⟨ps, ok.m0.sl, r⟩, fun j hj => .inr (ok.fresh j (blk_toC hj)), fun j hj => hj.elim (fun h1 => Nat.lt_of_lt_of_le (hl j h1) ok.chg.size) (·.2)⟩
theorem hit_at {no : Int} : ∀ {L : List AP} {k : Nat} (hk : k < L.length), (∀ j (hj : j < k), (L[j]'(by omega)).no ≠ no) → L[k].no = no → hit no L = some L[k]
  | x :: L, 0, _, _, h => by simp at h; simp [hit, h]
  | x :: L, k + 1, hk, ha, h => by
    have h0 := ha 0 (by omega)
    simp at h0
    have := hit_at (L := L) (k := k) (by simpa using hk) (fun j hj => by have := ha (j + 1) (by omega); simpa using this) (by simpa using h)
    unfold hit at this ⊢
    rw [List.find?_cons]
    simp [h0, this]
theorem fnd_spec {no : Int} : ∀ ps : List Pg, (fnd no ps = -1 ∧ ∀ p ∈ ps, p.no ≠ no) ∨ ∃ (k : Nat) (hk : k < ps.length), fnd no ps = k ∧ ps[k].no = no ∧ ∀ j (hj : j < k), (ps[j]'(by omega)).no ≠ no
  | [] => .inl ⟨rfl, by simp⟩
  | p :: ps => by
    by_cases e : p.no = no
    · exact .inr ⟨0, by simp, by simp [fnd, e], by simpa using e, fun j hj => absurd hj (by omega)⟩
    · rcases fnd_spec (no := no) ps with ⟨h1, h2⟩ | ⟨k, hk, h1, h2, h3⟩
      · exact .inl ⟨by simp [fnd, e, h1], fun q hq => by
          rcases List.mem_cons.1 hq with rfl | hq
          · exact e
          · exact h2 q hq⟩
      · refine .inr ⟨k + 1, by simpa using hk, ?_, by simpa using h2, fun j hj => ?_⟩
        · unfold fnd
          rw [if_neg e, h1, if_neg (by omega)]
          omega
        · cases j with
          | zero => exact e
          | succ j => simpa using h3 j (by omega)
/-- Where find stands, and what is hit there. -/
theorem fnd_hit {h : Heap} {E : Nat → Prop} {ps : List Pg} {L : List AP} (r : All2 (RIs h E) ps L) (no : Int) : (fnd no ps = -1 ∧ hit no L = none) ∨ ∃ (k : Nat) (hk : k < ps.length) (hl : k < L.length), fnd no ps = k ∧ hit no L = some L[k] ∧ ps[k].no = no ∧ L[k].no = no := by
  have hno : ∀ i (h1 : i < ps.length) (h2 : i < L.length), ps[i].no = L[i].no := fun i h1 h2 => (r.2 i h1 h2).no
  rcases fnd_spec (no := no) ps with ⟨h1, h2⟩ | ⟨k, hk, h1, h2, h3⟩
  · refine .inl ⟨h1, hit_not fun hm => ?_⟩
    obtain ⟨x, hx, hxn⟩ := List.mem_map.1 hm
    obtain ⟨i, hi, rfl⟩ := List.mem_iff_getElem.1 hx
    have h4 : i < ps.length := by rw [r.1]; exact hi
    exact h2 _ (List.getElem_mem h4) (by rw [hno i h4 hi, hxn])
  · have hl : k < L.length := by rw [← r.1]; exact hk
    have h5 : L[k].no = no := by rw [← hno k hk hl, h2]
    exact .inr ⟨k, hk, hl, h1, hit_at hl (fun j hj => by rw [← hno j (by omega) (by omega)]; exact h3 j hj) h5, h2, h5⟩
theorem keep_rid {h : Heap} {E : Nat → Prop} {ps : List Pg} {L : List AP} (r : All2 (RIs h E) ps L) (no : Int) : All2 (RIs h E) (keep no ps) (rid no L) := All2.filter (fun a b q => by rw [q.no]) r

set_option maxRecDepth 100000 in
set_option maxHeartbeats 2000000 in
theorem rnew_any {h : Heap} {room : Int} :
    HC Try.prog 16 #[.int .i64 room] h (fun v h' => ((¬ (1 ≤ room ∧ room ≤ 1048576) ∧ v = .tuple #[.agg #[.int .i64 0, .slice none 0 0], .int .i64 1]) ∨ (1 ≤ room ∧ room ≤ 1048576 ∧ v = .tuple #[.agg #[.int .i64 room, .slice none 0 0], .int .i64 0])) ∧ Ext h h') := by
  have ok := Hp.nil h none_
  refine HC.go Try.func16 13 ?_
  refine .seq <| .r <| .a' 2 (.alA T.zr49 ok) ?_
  rintro _ η1 ⟨pb1, rfl, ok, xe⟩
  refine .w 3 .asI <| .nil ?_
  refine .seq <| .seq <| .r <| .w 4 .mvI <| .w 5 .lss <| .w 6 .mvB <| .sd (fun G6 => ?_) (fun G6 => ?_)
  ·
    refine .x 7 <| .x 8 <| .w 9 .pkt <| .nil ?_
    refine .ct <| .seq <| .r <| .w 10 (.bd #[.int .i64 0, .slice none 0 0] T.zr49 T.pl49 rfl) <| .ur' (.stW (vs := [.int .i64 0, .slice none 0 0]) T.sz49 ok (oneL rfl)) ?_
    rintro η2 ⟨ok, cg⟩
    refine .w 3 .asI <| .nil ?_
    refine .ret ⟨.tuple #[.agg #[.int .i64 0, .slice none 0 0], .int .i64 1], Res.many (vs := [.agg #[.int .i64 0, .slice none 0 0], .int .i64 1]) rfl ⟨⟨_, rfl, load_ag T.ag49 ok.m0 T.sz49⟩, rfl, trivial⟩ rfl, ⟨.inl ⟨by omega, rfl⟩, ok.chg⟩⟩
  refine .w 7 .mvI <| .w 8 .gtr <| .w 9 .pkf <| .nil ?_
  refine .cd (fun C0 => ?_) (fun C0 => ?_)
  · --
    refine .seq <| .r <| .w 10 (.bd #[.int .i64 0, .slice none 0 0] T.zr49 T.pl49 rfl) <| .ur' (.stW (vs := [.int .i64 0, .slice none 0 0]) T.sz49 ok (oneL rfl)) ?_
    rintro η3 ⟨ok, cg⟩
    refine .w 3 .asI <| .nil ?_
    refine .ret ⟨.tuple #[.agg #[.int .i64 0, .slice none 0 0], .int .i64 1], Res.many (vs := [.agg #[.int .i64 0, .slice none 0 0], .int .i64 1]) rfl ⟨⟨_, rfl, load_ag T.ag49 ok.m0 T.sz49⟩, rfl, trivial⟩ rfl, ⟨.inl ⟨by omega, rfl⟩, ok.chg⟩⟩
  refine .skip <| .seq <| .r <| .w 11 .mvI <| .w 12 (.bd #[.int .i64 room, .slice none 0 0] T.zr49 T.pl49 rfl) <| .ur' (.stW (vs := [.int .i64 room, .slice none 0 0]) T.sz49 ok (oneL rfl)) ?_
  rintro η4 ⟨ok, cg⟩
  refine .w 3 .asI <| .nil ?_
  refine .ret ⟨.tuple #[.agg #[.int .i64 room, .slice none 0 0], .int .i64 0], Res.many (vs := [.agg #[.int .i64 room, .slice none 0 0], .int .i64 0]) rfl ⟨⟨_, rfl, load_ag T.ag49 ok.m0 T.sz49⟩, rfl, trivial⟩ rfl, ⟨.inr ⟨by omega, by omega, rfl⟩, ok.chg⟩⟩

set_option maxRecDepth 100000 in
set_option maxHeartbeats 2000000 in
theorem rget_any {h : Heap} {E : Nat → Prop} {x : SV} {L : List AP} (hr : RC h E x L) (hN : L.length ≤ 1000000) (room no : Int) :
    HC Try.prog 19 #[.agg #[.int .i64 room, sv x], .int .i64 no] h (fun v h' => ∃ y g : SV, v = .tuple #[.agg #[.int .i64 room, sv y], sv g, .bool (hit no L).isSome] ∧ Ext h h' ∧
      RC h' (fun j => E j ∨ Nw h h' j) y (getL no L) ∧ RdL h' E E g (gotL no L)) := by
  obtain ⟨a, n, c⟩ := x
  obtain ⟨ps, ok, hpl, hLl, hnc, hcm⟩ := hr.start (D := none_)
  have hlt := hr.lt
  refine HC.go Try.func19 28 ?_
  refine .seq <| .r <| .a' 2 (.bxA (cs := [.int .i64 room, .slice a n c]) ok) ?_
  rintro _ η1 ⟨pb1, rfl, ok, xe⟩
  refine .a' 4 (.alA T.zr49 ok) ?_
  rintro _ η2 ⟨pb2, rfl, ok, xe⟩
  refine .w 5 .asS <| .w 6 .asB <| .nil ?_
  refine .seq <| .r <| .w 9 (.ldb T.ag49 ok.m1 T.sz49) <| .w 10 .mvI <| .c' 11 .func (find_any ok.r1) ?_
  rintro _ η3 ⟨rfl, hx⟩
  have ok := ok.ext hx
  refine .w 7 .asI <| .nil ?_
  refine .seq <| .seq <| .r <| .w 12 .mvI <| .w 13 .lss <| .nil ?_
  have hfh := fnd_hit ok.r0 no
  refine .cd (fun C0 => ?_) (fun C0 => ?_)
  · --
    have hh : hit no L = none := by
      rcases hfh with ⟨_, h⟩ | ⟨k, _, _, h, _⟩
      · exact h
      · omega
    have hg : getL no L = L := by unfold getL; rw [hh]
    have hg2 : gotL no L = [] := by unfold gotL; rw [hh]; rfl
    refine .seq <| .r <| .w 14 (.ldb T.ag49 ok.m1 T.sz49) <| .ur' (.stW (vs := [.int .i64 room, .slice a n c]) T.sz49 ok (oneL rfl)) ?_
    rintro η4 ⟨ok, cg⟩
    refine .w 5 .asS <| .w 6 .asB <| .nil ?_
    refine .ret ⟨.tuple #[.agg #[.int .i64 room, .slice a n c], .slice none 0 0, .bool false], Res.many (vs := [.agg #[.int .i64 room, .slice a n c], .slice none 0 0, .bool false]) rfl ⟨⟨_, rfl, load_ag T.ag49 ok.m0 T.sz49⟩, rfl, rfl, trivial⟩ rfl, by rw [hh]; exact ⟨(a, n, c), (none, 0, 0), rfl, ok.chg, by rw [hg]; exact ⟨⟨ps, ok.r1, (ok.r0).mono fun _ _ q => q.mono fun _ h => .inl h⟩, fun j hj => .inl (hr.bk j hj), fun j hj => hj.elim (fun h1 => Nat.lt_of_lt_of_le (hlt j h1) ok.chg.size) (·.2)⟩, by rw [hg2]; exact RdL.nil _ _ _⟩⟩
  obtain ⟨k, hk, hkL, hf, hh, hpn, hLn⟩ : ∃ (k : Nat) (hk : k < ps.length) (hl : k < L.length), fnd no ps = k ∧ hit no L = some L[k] ∧ ps[k].no = no ∧ L[k].no = no := by
    rcases hfh with ⟨h, _⟩ | h
    · omega
    · exact h
  clear hfh
  have hg : getL no L = L[k] :: rid no L := by simp only [getL, hh]
  have hg2 : gotL no L = L[k].b := by unfold gotL; rw [hh]; rfl
  refine .skip <| .seq <| .r <| .w 15 (.fa T.fd49_1) <| .w 16 (.ldx T.ag47 ok.m1) <| .w 17 .mvI <| ?_
  obtain ⟨bb1, oo1, rfl, fb1⟩ := ok.r1.pos (n := n) (by omega)
  refine .w 18 (.ix k T.el47 T.sz78) <| .w 19 (.ldc (vs := pg ps[k]) T.ag78 (sl_ats pg_len ok.r1 (i := k) (by omega)) T.sz78) <| .a' 8 (.alA T.zr78 ok) ?_
  rintro _ η5 ⟨pb3, rfl, ok, xe⟩
  refine .ur' (.stW (vs := [.int .i64 (ps[k].no), .slice (ps[k].b.1) (ps[k].b.2.1) (ps[k].b.2.2), .bool (ps[k].d)]) T.sz78 ok (oneL rfl)) ?_
  rintro η6 ⟨ok, cg⟩
  refine .nil ?_
  refine .seq <| .r <| .w 20 (.fa T.fd49_1) <| .w 21 (.ldx T.ag47 ok.m2) <| .w 22 (.ldb T.ag78 ok.m0 T.sz78) <| .c' 23 .func (front_any (p := ps[k]) ok.r1 (by omega)) ?_
  rintro _ η7 own
  obtain ⟨qs1, hqs1⟩ : ∃ qs, qs = (ps[k] : Pg) :: keep (ps[k].no) ps := ⟨_, rfl⟩
  rw [← hqs1] at own
  obtain ⟨ya1, yn1, yc1, rfl⟩ := own.form3
  have hzqs1 := own.cap.sl.sz (n := yn1) (c := yc1) pg_len (by omega)
  have ok := ok.own own
  refine .w 24 (.fa T.fd49_1) <| .ur' (.stS T.sz47 ok.n3) ?_
  rintro η8 ⟨ok, cg⟩
  refine .nil ?_
  refine .seq <| .a 6 (fun fl hh => Hp h none_ [boxI pb1 49 [.int .i64 room, .slice ya1 yn1 yc1], capI 3 78 (ya1, yn1, yc1) (qs1.flatMap pg), boxI pb3 78 [.int .i64 (ps[k].no), .slice (ps[k].b.1) (ps[k].b.2.1) (ps[k].b.2.2), .bool (ps[k].d)]] [plI E ps L, rowI 3 (some ⟨bb1, oo1, none⟩, n, c) (ps.flatMap pg)] hh) mixed ?_
  have hS := ok.k3
  refine .lw 0 false rfl 25 hS (fun _ _ hS => .ldb T.ag49 hS.m0 T.sz49) <| .g 1 false rfl 26 hS (fun _ => .fa T.fd78_1) <| .lw 2 false rfl 27 hS (fun _ _ hS => .ldx T.ag30 hS.m2) <| .o1 3 <| .ur' false rfl (.stW (vs := [.int .i64 room, .slice ya1 yn1 yc1]) T.sz49 ok.n3 (oneL rfl)) ?_
  rintro η9 ⟨ok, cg⟩
  refine ⟨ok.n3.n3.n3.k3, ?_⟩
  have hS := ok.n3.n3.n3.k3
  refine .g 4 false rfl 5 hS (fun _ => .asS) <| .g 5 false rfl 6 hS (fun _ => .asB) <| .e ?_
  refine .ret ⟨.tuple #[.agg #[.int .i64 room, .slice ya1 yn1 yc1], .slice (ps[k].b.1) (ps[k].b.2.1) (ps[k].b.2.2), .bool true], Res.many (vs := [.agg #[.int .i64 room, .slice ya1 yn1 yc1], .slice (ps[k].b.1) (ps[k].b.2.1) (ps[k].b.2.2), .bool true]) rfl ⟨⟨_, rfl, load_ag T.ag49 ok.m0 T.sz49⟩, rfl, rfl, trivial⟩ rfl, by
      rw [hh]
      refine ⟨(ya1, yn1, yc1), ps[k].b, rfl, ok.chg, ?_, by rw [hg2]; exact ((ok.r0).2 k hk hkL).b⟩
      rw [hg, ← hpn]
      have h1 := ok.r0
      subst hqs1
      exact RC.made (ok.n2) hlt (((All2.cons (h1.2 k hk hkL) (keep_rid h1 _)).mono fun _ _ q => q.mono fun _ h => .inl h))⟩

/-- A state's slice, cut off, over pages old and new. -/
theorem RC.cut {h0 h : Heap} {E : Nat → Prop} {M R : List Itm} {e : TypeId} {a : Option Addr} {n c j : Nat} {qs : List Pg} {L : List AP} (ok : Hp h0 none_ (capI 3 e (a, n, c) (qs.flatMap pg) :: M) R h) (hl : ∀ j, E j → j < h0.size) (hj : j ≤ n) (r : All2 (RIs h (fun j => E j ∨ Nw h0 h j)) (qs.take j) L) : RC h (fun j => E j ∨ Nw h0 h j) (a, j, c) L := by
  have h1 : Cap h 3 e (.slice a n c) (qs.flatMap pg) := ok.m0
  have h2 := (h1.pre hj).sl
  have e : (qs.flatMap pg).take (j * 3) = (qs.take j).flatMap pg := by
    have h3 : (qs.flatMap pg) = (qs.take j).flatMap pg ++ (qs.drop j).flatMap pg := by rw [← List.flatMap_append, List.take_append_drop]
    have h4 := h1.sl.sz pg_len (by omega)
    rw [h3]
    apply List.take_left'
    rw [flat_len pg_len, List.length_take]
    congr 1; omega
  rw [e] at h2
  refine ⟨⟨qs.take j, h2, r⟩, fun i hi => .inr (ok.fresh i ?_), fun i hi => hi.elim (fun h1 => Nat.lt_of_lt_of_le (hl i h1) ok.chg.size) (·.2)⟩
  obtain ⟨o, n', c', e, _⟩ := hi
  injection e with e1 e2 e3
  subst e1
  exact ⟨o, n, c, rfl⟩
theorem Bytes.one {h : Heap} {e : TypeId} {p : Nat} {bs : SV} {bl : List UInt8} (c : Cap h 1 e (.slice (some ⟨p, 0, none⟩) 1 1) [sv bs]) (hb : Bytes h (sv bs) bl) : RdL h (blkC (sv (some ⟨p, 0, none⟩, 1, 1))) (blk (sv bs)) (some ⟨p, 0, none⟩, 1, 1) [bl] :=
  RdL.of_cap (α := List UInt8) (css := [[sv bs]]) c (All2.cons ⟨bs, rfl, RdL.mono (fun _ h => h) (fun _ f => f.elim) (RdL.ofBytes (E := none_) hb)⟩ All2.nil)
theorem dropLast_take {α : Type} (l : List α) : l.dropLast = l.take (l.length - 1) := List.dropLast_eq_take

set_option maxRecDepth 100000 in
set_option maxHeartbeats 2000000 in
theorem rput_any {h : Heap} {E : Nat → Prop} {x bs : SV} {L : List AP} {bl : List UInt8} (hr : RC h E x L) (hN : L.length ≤ 1000000) (room no : Int) (hb : Bytes h (sv bs) bl) (hbN : bl.length ≤ 1000000) (d : Bool) :
    HC Try.prog 17 #[.agg #[.int .i64 room, sv x], .int .i64 no, sv bs, .bool d] h (fun v h' => ∃ y g : SV, v = .tuple #[.agg #[.int .i64 room, sv y], sv g] ∧ Ext h h' ∧
      RC h' (fun j => E j ∨ Nw h h' j) y (putL room no bl d L) ∧ Frames h' (sv g) (putA room no bl d L)) := by
  obtain ⟨a, n, c⟩ := x
  obtain ⟨ba, bn, bc⟩ := bs
  obtain ⟨ps, ok, hpl, hLl, hnc, hcm⟩ := hr.start (D := none_)
  have hlt := hr.lt
  have ok := ok.bytes hb
  have hst : ∀ {h' : Heap} {L' : List AP}, Ext h h' → L' = L → RC h' (fun j => E j ∨ Nw h h' j) (a, n, c) L' := fun {h'} {L'} x e => by
    subst e
    obtain ⟨⟨ps, h1, h2⟩, h3, h4⟩ := hr.st x (fun _ _ f => f)
    exact ⟨⟨ps, h1, h2.mono fun _ _ q => q.mono fun _ h => .inl h⟩, fun j hj => .inl (h3 j hj), fun j hj => hj.elim (h4 j) (·.2)⟩
  refine HC.go Try.func17 73 ?_
  refine .seq <| .r <| .a' 4 (.bxA (cs := [.int .i64 room, .slice a n c]) ok) ?_
  rintro _ η1 ⟨pb1, rfl, ok, xe⟩
  refine .a' 8 (.alA T.zr49 ok) ?_
  rintro _ η2 ⟨pb2, rfl, ok, xe⟩
  refine .w 9 .asS <| .nil ?_
  refine .seq <| .seq <| .r <| .w 12 .mvI <| .w 13 .lss <| .nil ?_
  refine .cd (fun C0 => ?_) (fun C0 => ?_)
  · --
    refine .seq <| .r <| .w 14 (.ldb T.ag49 ok.m1 T.sz49) <| .ur' (.stW (vs := [.int .i64 room, .slice a n c]) T.sz49 ok (oneL rfl)) ?_
    rintro η3 ⟨ok, cg⟩
    refine .w 9 .asS <| .nil ?_
    refine .ret ⟨.tuple #[.agg #[.int .i64 room, .slice a n c], .slice none 0 0], Res.many (vs := [.agg #[.int .i64 room, .slice a n c], .slice none 0 0]) rfl ⟨⟨_, rfl, load_ag T.ag49 ok.m0 T.sz49⟩, rfl, trivial⟩ rfl, ⟨(a, n, c), (none, 0, 0), rfl, ok.chg, hst ok.chg (by unfold putL; rw [if_pos (by omega)]), by unfold putA; rw [if_pos (by omega)]; exact Frames.nil _⟩⟩
  have hn1 : ¬ no < 1 := by omega
  refine .skip <| .seq <| .seq <| .r <| .w 15 (.ldb T.ag49 ok.m1 T.sz49) <| .w 16 .mvI <| .c' 17 .func (find_any ok.r2) ?_
  rintro _ η4 ⟨rfl, hx⟩
  have ok := ok.ext hx
  refine .w 10 .asI <| .nil ?_
  refine .seq <| .r <| .w 18 .mvI <| .w 19 .geq <| .nil ?_
  refine .join (fun s hh => ∃ d1 : Bool, Has s [(1, .int .i64 no), (2, .slice ba bn bc), (3, .bool d1), (4, .pointer (some ⟨pb1, 0, none⟩)), (8, .pointer (some ⟨pb2, 0, none⟩))] ∧ Hp h none_ [boxI pb2 49 [.int .i64 0, .slice none 0 0], boxI pb1 49 [.int .i64 room, .slice a n c]] [rdI (blk (sv (ba, bn, bc))) none_ (ba, bn, bc) bl, plI E ps L, rowI 3 (a, n, c) (ps.flatMap pg)] hh ∧ d1 = (d || wasD no L)) ?_ ?_
  · --
    have hfh := fnd_hit ok.r1 no
    refine .cd (fun C1 => ?_) (fun C1 => ?_)
    · --
      obtain ⟨k, hk, hkL, hf, hh, hpn, hLn⟩ : ∃ (k : Nat) (hk : k < ps.length) (hl : k < L.length), fnd no ps = k ∧ hit no L = some L[k] ∧ ps[k].no = no ∧ L[k].no = no := by
        rcases hfh with ⟨h, _⟩ | h
        · omega
        · exact h
      clear hfh
      have hkd := (ok.r1.2 k hk hkL).d
      refine .r <| .w 20 .mvB <| .w 21 .mvB <| .spl (fun G21 => ?_) (fun G21 => ?_)
      ·
        refine .x 22 <| .x 23 <| .x 24 <| .x 25 <| .x 26 <| .x 27 <| .w 28 .pkt <| .w 3 .asB <| .nil ?_
        refine .end <| ⟨_, ⟨rfl, rfl, rfl, rfl, rfl, trivial⟩, ok, by rw [G21]; rfl⟩
      refine .w 22 (.fa T.fd49_1) <| .w 23 (.ldx T.ag47 ok.m1) <| .w 24 .mvI <| ?_
      obtain ⟨bb1, oo1, rfl, fb1⟩ := ok.r2.pos (n := n) (by omega)
      refine .w 25 (.ix k T.el47 T.sz78) <| .w 26 (.fa T.fd78_2) <| .w 27 (.ld T.ag4 (sl_at pg_len ok.r2 (i := k) (j := 2) (by omega) rfl)) <| .w 28 .pkf <| .w 3 .asB <| .nil ?_
      refine .end <| ⟨_, ⟨rfl, rfl, rfl, rfl, rfl, trivial⟩, ok, by rw [G21, hkd]; unfold wasD; rw [hh]; rfl⟩
    have hh : hit no L = none := by
      rcases hfh with ⟨_, h⟩ | ⟨k, _, _, h, _⟩
      · exact h
      · omega
    clear hfh
    refine .skip <| .end <| ⟨_, ⟨rfl, rfl, rfl, rfl, rfl, trivial⟩, ok, by unfold wasD; rw [hh]; simp⟩
  rintro s η5 ⟨d1, hs, ok, hd1⟩
  refine .frame hs fun τ => ?_
  refine .seq <| ?_
  have hkr := (keep_rid ok.r1 no)
  have hkl := keep_len no ps
  refine .a 8 (fun fl hh => cond fl True (Hp h none_ [boxI pb2 49 [.int .i64 0, .slice none 0 0], boxI pb1 49 [.int .i64 room, .slice a n c]] [rdI (blk (sv (ba, bn, bc))) none_ (ba, bn, bc) bl, plI E ps L, rowI 3 (a, n, c) (ps.flatMap pg)] hh)) mixed ?_
  have hS := ok
  refine .g 0 false rfl 29 hS (fun _ => .fa T.fd49_1) <| .l 1 false rfl 30 hS (fun _ hS => .ldx T.ag47 hS.m1) <| .g 2 false rfl 31 hS (fun _ => .mvI) <| .g 3 false rfl 32 hS (fun _ => .mvS) <| .g 6 false rfl 35 hS (fun _ => .mvB) <| .o1 4 <| .a' false rfl 33 (.lit [.tmp 32] (cs := [.slice ba bn bc]) T.el81 T.sz30 T.zr30 ok ⟨rfl, trivial⟩) ?_
  rintro _ η6 ⟨pb3, rfl, ok, xe⟩
  refine ⟨ok.n2.n2.k2, ?_⟩
  have hS := ok.n2.n2.k2
  refine .o1 5 <| .c' false rfl 34 .func (join_any (L := [bl]) (x := (some ⟨pb3, 0, none⟩, 1, 1)) (Bytes.one (bs := (ba, bn, bc)) ok.m0 ((ok.r0).by)) (by simp; omega)) ?_
  rintro _ η7 own
  obtain ⟨ya1, yn1, yc1, rfl⟩ := own.form3
  rw [show [bl].flatten = bl by simp] at own
  have ok := ok.own own
  refine ⟨ok.n3.n3.k2, ?_⟩
  have hS := ok.n3.n3.k2
  refine .g 7 false rfl 36 hS (fun _ => .bd #[.int .i64 no, .slice ya1 yn1 yc1, .bool d1] T.zr78 T.pl78 rfl) <| .o1 8 <| .c' true rfl 37 .func (front_any (p := ⟨no, (ya1, yn1, yc1), d1⟩) ok.r2 (by omega)) ?_
  rintro _ η8 own
  obtain ⟨qs1, hqs1⟩ : ∃ qs, qs = (⟨no, (ya1, yn1, yc1), d1⟩ : Pg) :: keep no ps := ⟨_, rfl⟩
  rw [← hqs1] at own
  obtain ⟨ya2, yn2, yc2, rfl⟩ := own.form3
  have hzqs1 := own.cap.sl.sz (n := yn2) (c := yc2) pg_len (by omega)
  have ok := ok.own own
  refine ⟨trivial, ?_⟩
  refine .g 9 true rfl 38 trivial (fun _ => .fa T.fd49_1) <| .o1 10 <| .ur' true rfl (.stS T.sz47 ok.n4) ?_
  rintro η9 ⟨ok, cg⟩
  refine ⟨trivial, ?_⟩
  refine .e ?_
  refine .seq <| .seq <| .r <| .w 39 (.fa T.fd49_1) <| .w 40 (.ldx T.ag47 ok.m0) <| .w 41 (.len T.el47) <| .w 42 (.fa T.fd49_0) <| .w 43 (.ldx T.ag3 ok.m0) <| .w 44 .leq <| .nil ?_
  have hal : All2 (RIs η9 (fun j => E j ∨ Nw h η9 j)) qs1 (putL1 no bl d L) := by
    have h1 := (keep_rid ok.r1 no).mono fun _ _ q => q.mono (E' := fun j => E j ∨ Nw h η9 j) fun _ h => .inl h
    have h2 : RdL η9 (blkC (.slice ya1 yn1 yc1)) none_ (ya1, yn1, yc1) bl := RdL.of_cap1 rfl (fun _ _ _ => rfl) ok.m2
    have h3 : ∀ j, blkC (.slice ya1 yn1 yc1) j → Nw h η9 j := (ok.n2).fresh
    subst hqs1
    exact All2.cons ⟨rfl, hd1, h2.mono (fun j hj => .inr (h3 j hj)) (fun _ f => f.elim)⟩ h1
  have hql := hal.1
  clear hal
  refine .cd (fun C2 => ?_) (fun C2 => ?_)
  · --
    have hp1 : putL room no bl d L = putL1 no bl d L := by unfold putL; rw [if_neg hn1, if_pos (by omega)]
    have hp2 : putA room no bl d L = [] := by unfold putA; rw [if_neg hn1, if_pos (by omega)]
    refine .seq <| .r <| .w 45 (.ldb T.ag49 ok.m0 T.sz49) <| .ur' (.stW (vs := [.int .i64 room, .slice ya2 yn2 yc2]) T.sz49 ok.n4 (oneL rfl)) ?_
    rintro η10 ⟨ok, cg⟩
    refine .w 9 .asS <| .nil ?_
    have hal : All2 (RIs η10 (fun j => E j ∨ Nw h η10 j)) qs1 (putL1 no bl d L) := by
      have h1 := (keep_rid ok.r1 no).mono fun _ _ q => q.mono (E' := fun j => E j ∨ Nw h η10 j) fun _ h => .inl h
      have h2 : RdL η10 (blkC (.slice ya1 yn1 yc1)) none_ (ya1, yn1, yc1) bl := RdL.of_cap1 rfl (fun _ _ _ => rfl) ok.m3
      have h3 : ∀ j, blkC (.slice ya1 yn1 yc1) j → Nw h η10 j := (ok.n3).fresh
      subst hqs1
      exact All2.cons ⟨rfl, hd1, h2.mono (fun j hj => .inr (h3 j hj)) (fun _ f => f.elim)⟩ h1
    refine .ret ⟨.tuple #[.agg #[.int .i64 room, .slice ya2 yn2 yc2], .slice none 0 0], Res.many (vs := [.agg #[.int .i64 room, .slice ya2 yn2 yc2], .slice none 0 0]) rfl ⟨⟨_, rfl, load_ag T.ag49 ok.m0 T.sz49⟩, rfl, trivial⟩ rfl, ⟨(ya2, yn2, yc2), (none, 0, 0), rfl, ok.chg, by rw [hp1]; exact RC.made ok.n2 hlt hal, by rw [hp2]; exact Frames.nil _⟩⟩
  have hp1 : putL room no bl d L = (putL1 no bl d L).take (yn2 - 1) := by unfold putL; rw [if_neg hn1, if_neg (by omega), dropLast_take, ← hql]; congr 1; omega
  obtain ⟨t, ht⟩ : ∃ t, t = yn2 - 1 := ⟨_, rfl⟩
  have hq1 : 0 < qs1.length := by rw [hqs1]; simp
  have htl : t < qs1.length := by omega
  have htL : t < (putL1 no bl d L).length := by omega
  have hp2 : putA room no bl d L = toldL (some (putL1 no bl d L)[t]) := by
    unfold putA; rw [if_neg hn1, if_neg (by omega), List.getLast?_eq_getElem?]
    congr 1
    rw [← List.getElem?_eq_getElem htL]; congr 1; omega
  rw [← ht] at hp1
  refine .skip <| .seq <| .r <| .w 46 (.fa T.fd49_1) <| .w 47 (.ldx T.ag47 ok.m0) <| .w 48 (.fa T.fd49_1) <| .w 49 (.ldx T.ag47 ok.m0) <| .w 50 (.len T.el47) <| .w 51 .sub <| ?_
  obtain ⟨bb2, oo2, rfl, fb2⟩ := ok.m1.pos (n := yn2) (by omega)
  refine .w 52 (.ix t T.el47 T.sz78) <| .w 53 (.ldc (vs := pg qs1[t]) T.ag78 (sl_ats pg_len ok.m1.sl (i := t) (by omega)) T.sz78) <| .a' 11 (.alA T.zr78 ok) ?_
  rintro _ η11 ⟨pb4, rfl, ok, xe⟩
  refine .ur' (.stW (vs := [.int .i64 (qs1[t].no), .slice (qs1[t].b.1) (qs1[t].b.2.1) (qs1[t].b.2.2), .bool (qs1[t].d)]) T.sz78 ok (oneL rfl)) ?_
  rintro η12 ⟨ok, cg⟩
  refine .nil ?_
  refine .seq <| .r <| .w 54 (.fa T.fd49_1) <| .w 55 (.ldx T.ag47 ok.m1) <| .w 56 (.fa T.fd49_1) <| .w 57 (.ldx T.ag47 ok.m1) <| .w 58 (.len T.el47) <| .w 59 .sub <| .w 60 (.sl_h t T.el47 T.sz78) <| .w 61 (.fa T.fd49_1) <| .ur' (.stS T.sz47 ok.n1) ?_
  rintro η13 ⟨ok, cg⟩
  refine .nil ?_
  refine .seq <| .seq <| .r <| .w 62 (.fa T.fd78_2) <| .w 63 (.ldx T.ag4 ok.m1) <| .w 64 .not <| .nil ?_
  refine .cond (fun C3 => ?_) (fun C3 => ?_)
  · --
    refine .seq <| .r <| .w 65 (.ldb T.ag49 ok.m0 T.sz49) <| .ur' (.stW (vs := [.int .i64 room, .slice (some ⟨bb2, oo2, none⟩) t yc2]) T.sz49 ok.n5 (oneL rfl)) ?_
    rintro η14 ⟨ok, cg⟩
    refine .w 9 .asS <| .nil ?_
    have hal : All2 (RIs η14 (fun j => E j ∨ Nw h η14 j)) qs1 (putL1 no bl d L) := by
      have h1 := (keep_rid ok.r1 no).mono fun _ _ q => q.mono (E' := fun j => E j ∨ Nw h η14 j) fun _ h => .inl h
      have h2 : RdL η14 (blkC (.slice ya1 yn1 yc1)) none_ (ya1, yn1, yc1) bl := RdL.of_cap1 rfl (fun _ _ _ => rfl) ok.m4
      have h3 : ∀ j, blkC (.slice ya1 yn1 yc1) j → Nw h η14 j := (ok.n4).fresh
      subst hqs1
      exact All2.cons ⟨rfl, hd1, h2.mono (fun j hj => .inr (h3 j hj)) (fun _ f => f.elim)⟩ h1
    refine .ret ⟨.tuple #[.agg #[.int .i64 room, .slice (some ⟨bb2, oo2, none⟩) t yc2], .slice none 0 0], Res.many (vs := [.agg #[.int .i64 room, .slice (some ⟨bb2, oo2, none⟩) t yc2], .slice none 0 0]) rfl ⟨⟨_, rfl, load_ag T.ag49 ok.m0 T.sz49⟩, rfl, trivial⟩ rfl, ⟨(some ⟨bb2, oo2, none⟩, t, yc2), (none, 0, 0), rfl, ok.chg, by rw [hp1]; exact RC.cut ok.n3 hlt (by omega) (hal.take t), by rw [hp2, told_no (by rw [← (hal.2 t htl htL).d]; simpa using C3)]; exact Frames.nil _⟩⟩
  refine .skip <| .seq <| .a 9 (fun fl hh => Hp h none_ [boxI pb1 49 [.int .i64 room, .slice (some ⟨bb2, oo2, none⟩) t yc2], boxI pb4 78 [.int .i64 (qs1[t].no), .slice (qs1[t].b.1) (qs1[t].b.2.1) (qs1[t].b.2.2), .bool (qs1[t].d)], capI 3 78 (some ⟨bb2, oo2, none⟩, yn2, yc2) (qs1.flatMap pg), capI 1 5 (ya1, yn1, yc1) (bl.map bv), capI 1 30 (some ⟨pb3, 0, none⟩, 1, 1) [.slice ba bn bc]] [rdI (blk (sv (ba, bn, bc))) none_ (ba, bn, bc) bl, plI E ps L, rowI 3 (a, n, c) (ps.flatMap pg)] hh) mixed ?_
  have hS := ok.k5
  refine .lw 0 false rfl 66 hS (fun _ _ hS => .ldb T.ag49 hS.m0 T.sz49) <| .g 1 false rfl 67 hS (fun _ => .fa T.fd78_0) <| .lw 2 false rfl 68 hS (fun _ _ hS => .ldx T.ag3 hS.m1) <| .g 3 false rfl 69 hS (fun _ => .fa T.fd78_1) <| .lw 4 false rfl 70 hS (fun _ _ hS => .ldx T.ag30 hS.m1) <| .g 5 false rfl 71 hS (fun _ => .bd #[.int .i64 (qs1[t].no), .int .i64 0, .slice (qs1[t].b.1) (qs1[t].b.2.1) (qs1[t].b.2.2)] T.zr39 T.pl39 rfl) <| .o2 6 7 ?_ ?_
  ·
    refine .a' false rfl 72 (.lit [.tmp 71] (cs := [.int .i64 (qs1[t].no), .int .i64 0, .slice (qs1[t].b.1) (qs1[t].b.2.1) (qs1[t].b.2.2)]) T.el36 T.sz39 T.zr39 ok ⟨rfl, trivial⟩) ?_
    rintro _ η15 ⟨pb5, rfl, ok, xe⟩
    refine ⟨ok.n5.n5.n5.n5.n5.k5, ?_⟩
    have hS := ok.n5.n5.n5.n5.n5.k5
    refine .o1 7 <| .ur' false rfl (.stW (vs := [.int .i64 room, .slice (some ⟨bb2, oo2, none⟩) t yc2]) T.sz49 ok.n6 (oneL rfl)) ?_
    rintro η16 ⟨ok, cg⟩
    refine ⟨ok.n6.n6.n6.n6.n6.k5, ?_⟩
    have hS := ok.n6.n6.n6.n6.n6.k5
    refine .g 8 false rfl 9 hS (fun _ => .asS) <| .e ?_
    have hal : All2 (RIs η16 (fun j => E j ∨ Nw h η16 j)) qs1 (putL1 no bl d L) := by
      have h1 := (keep_rid ok.r1 no).mono fun _ _ q => q.mono (E' := fun j => E j ∨ Nw h η16 j) fun _ h => .inl h
      have h2 : RdL η16 (blkC (.slice ya1 yn1 yc1)) none_ (ya1, yn1, yc1) bl := RdL.of_cap1 rfl (fun _ _ _ => rfl) ok.m5
      have h3 : ∀ j, blkC (.slice ya1 yn1 yc1) j → Nw h η16 j := (ok.n5).fresh
      subst hqs1
      exact All2.cons ⟨rfl, hd1, h2.mono (fun j hj => .inr (h3 j hj)) (fun _ f => f.elim)⟩ h1
    refine .ret ⟨.tuple #[.agg #[.int .i64 room, .slice (some ⟨bb2, oo2, none⟩) t yc2], .slice (some ⟨pb5, 0, none⟩) 1 1], Res.many (vs := [.agg #[.int .i64 room, .slice (some ⟨bb2, oo2, none⟩) t yc2], .slice (some ⟨pb5, 0, none⟩) 1 1]) rfl ⟨⟨_, rfl, load_ag T.ag49 ok.m0 T.sz49⟩, rfl, trivial⟩ rfl, ⟨(some ⟨bb2, oo2, none⟩, t, yc2), (some ⟨pb5, 0, none⟩, 1, 1), rfl, ok.chg, by rw [hp1]; exact RC.cut ok.n4 hlt (by omega) (hal.take t), by rw [hp2, told_yes (by rw [← (hal.2 t htl htL).d]; simpa using C3)]; exact ⟨[⟨qs1[t].no, 0, qs1[t].b⟩], (ok.m1).sl, All2.cons ⟨(hal.2 t htl htL).no, rfl, (hal.2 t htl htL).b.by⟩ All2.nil⟩⟩⟩
  ·
    refine .ur' false rfl (.stW (vs := [.int .i64 room, .slice (some ⟨bb2, oo2, none⟩) t yc2]) T.sz49 ok.n5 (oneL rfl)) ?_
    rintro η17 ⟨ok, cg⟩
    refine ⟨ok.n5.n5.n5.n5.n5.k5, ?_⟩
    have hS := ok.n5.n5.n5.n5.n5.k5
    refine .o1 6 <| .a' false rfl 72 (.lit [.tmp 71] (cs := [.int .i64 (qs1[t].no), .int .i64 0, .slice (qs1[t].b.1) (qs1[t].b.2.1) (qs1[t].b.2.2)]) T.el36 T.sz39 T.zr39 ok ⟨rfl, trivial⟩) ?_
    rintro _ η18 ⟨pb6, rfl, ok, xe⟩
    refine ⟨ok.n6.n6.n6.n6.n6.k5, ?_⟩
    have hS := ok.n6.n6.n6.n6.n6.k5
    refine .g 8 false rfl 9 hS (fun _ => .asS) <| .e ?_
    have hal : All2 (RIs η18 (fun j => E j ∨ Nw h η18 j)) qs1 (putL1 no bl d L) := by
      have h1 := (keep_rid ok.r1 no).mono fun _ _ q => q.mono (E' := fun j => E j ∨ Nw h η18 j) fun _ h => .inl h
      have h2 : RdL η18 (blkC (.slice ya1 yn1 yc1)) none_ (ya1, yn1, yc1) bl := RdL.of_cap1 rfl (fun _ _ _ => rfl) ok.m5
      have h3 : ∀ j, blkC (.slice ya1 yn1 yc1) j → Nw h η18 j := (ok.n5).fresh
      subst hqs1
      exact All2.cons ⟨rfl, hd1, h2.mono (fun j hj => .inr (h3 j hj)) (fun _ f => f.elim)⟩ h1
    refine .ret ⟨.tuple #[.agg #[.int .i64 room, .slice (some ⟨bb2, oo2, none⟩) t yc2], .slice (some ⟨pb6, 0, none⟩) 1 1], Res.many (vs := [.agg #[.int .i64 room, .slice (some ⟨bb2, oo2, none⟩) t yc2], .slice (some ⟨pb6, 0, none⟩) 1 1]) rfl ⟨⟨_, rfl, load_ag T.ag49 ok.m1 T.sz49⟩, rfl, trivial⟩ rfl, ⟨(some ⟨bb2, oo2, none⟩, t, yc2), (some ⟨pb6, 0, none⟩, 1, 1), rfl, ok.chg, by rw [hp1]; exact RC.cut ok.n4 hlt (by omega) (hal.take t), by rw [hp2, told_yes (by rw [← (hal.2 t htl htL).d]; simpa using C3)]; exact ⟨[⟨qs1[t].no, 0, qs1[t].b⟩], (ok.m0).sl, All2.cons ⟨(hal.2 t htl htL).no, rfl, (hal.2 t htl htL).b.by⟩ All2.nil⟩⟩⟩

end Go.Proofs.Ytdbiggfnnhmpiaa
