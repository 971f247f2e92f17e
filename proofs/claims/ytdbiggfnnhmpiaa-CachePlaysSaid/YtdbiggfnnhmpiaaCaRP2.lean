/- The document's cache: Clean, Drop, Pages and Dirty as its methods compute them. Conditions: the state is readable. -/
import Derived.Test.YtdbiggfnnhmpiaaCaRP
namespace Go.Proofs.Ytdbiggfnnhmpiaa
open Go Go.HL

/-- Is a number asked for: one of some, or are there none? -/
def asked (l : List Int) (no : Int) : Bool := decide (no ∈ l) || decide (l = [])
def clp (l : List Int) (p : Pg) : Pg := ⟨p.no, p.b, p.d && !asked l p.no⟩
def clA (l : List Int) (x : AP) : AP := ⟨x.no, x.b, x.d && !asked l x.no⟩
theorem RC.state {h0 h : Heap} {E : Nat → Prop} {x : SV} {L : List AP} (hr : RC h0 E x L) (c : Ext h0 h) : ∀ j, E j ∨ Nw h0 h j → j < h.size := fun j hj => hj.elim (fun h1 => Nat.lt_of_lt_of_le (hr.lt j h1) c.size) (·.2)
theorem RC.up {h0 h : Heap} {E : Nat → Prop} {ps : List Pg} {L : List AP} (r : All2 (RIs h E) ps L) : All2 (RIs h (fun j => E j ∨ Nw h0 h j)) ps L := r.mono fun _ _ q => q.mono fun _ h => .inl h
theorem nos_ps {h : Heap} {E : Nat → Prop} {ps : List Pg} {L : List AP} (r : All2 (RIs h E) ps L) : (ps.map fun p => p.no) = nos L := List.ext_getElem (by simp [nos, r.1]) fun i h1 h2 => by simp [nos]; exact (r.2 i (by simpa using h1) (by simpa [nos] using h2)).no
theorem flat1 {l : List Pg} {p : Pg} {v : List Value} (e : v = pg p) : l.flatMap pg ++ v = (l ++ [p]).flatMap pg := by subst e; simp

set_option maxRecDepth 100000 in
set_option maxHeartbeats 2000000 in
theorem rclean_any {h : Heap} {E : Nat → Prop} {x lv : SV} {L : List AP} {l : List Int} (hr : RC h E x L) (hN : L.length ≤ 1000000) (room : Int) (hl : Ints h (sv lv) l) :
    HC Try.prog 21 #[.agg #[.int .i64 room, sv x], sv lv] h (fun v h' => ∃ y : SV, v = .agg #[.int .i64 room, sv y] ∧ Ext h h' ∧ RC h' (fun j => E j ∨ Nw h h' j) y (L.map (clA l))) := by
  obtain ⟨a, n, c⟩ := x
  obtain ⟨la, ln, lc⟩ := lv
  obtain ⟨ps, ok, hpl, hLl, hnc, hcm⟩ := hr.start (D := none_)
  have hlt := hr.lt
  have ok := ok.old (rdI (blk (sv (la, ln, lc))) none_ (la, ln, lc) l) (RdL.ofInts hl) fun j hj => hj.elim (blk_lt (by omega) hl j) fun f => f.elim
  refine HC.go Try.func21 37 ?_
  refine .seq <| .r <| .a' 2 (.bxA (cs := [.int .i64 room, .slice a n c]) ok) ?_
  rintro _ η1 ⟨pb1, rfl, ok, xe⟩
  refine .a' 4 (.alA T.zr49 ok) ?_
  rintro _ η2 ⟨pb2, rfl, ok, xe⟩
  refine .nil ?_
  refine .seq <| .r <| .w 5 .asS <| .nil ?_
  refine .seq <| .seq <| ?_
  have ok := ok.nilC (k := 3) (e := 78)
  refine .r <| .w 6 .asI <| .nil ?_
  refine .block fun K0 hK0 => .loop (fun m s hh => ∃ (i : Nat) (a1 : Option Addr) (n1 c1 : Nat), Has s [(1, .slice la ln lc), (2, .pointer (some ⟨pb1, 0, none⟩)), (4, .pointer (some ⟨pb2, 0, none⟩)), (5, .slice a1 n1 c1), (6, .int .i64 (i : Int))] ∧ Hp h none_ [capI 3 78 (a1, n1, c1) (((ps.take i).map (clp l)).flatMap pg), boxI pb2 49 [.int .i64 0, .slice none 0 0], boxI pb1 49 [.int .i64 room, .slice a n c]] [rdI (blk (sv (la, ln, lc))) none_ (la, ln, lc) l, plI E ps L, rowI 3 (a, n, c) (ps.flatMap pg)] hh ∧ i ≤ n ∧ m = n - i) ?_ ?_
  · exact ⟨_, 0, _, _, _, ⟨rfl, rfl, rfl, rfl, rfl, trivial⟩, ok.n2.n2.n2.cx (by simp), Nat.zero_le _, rfl⟩
  rintro _ _ η3 ⟨i, a1, n1, c1, hs, ok, hi, rfl⟩ J0 hJ0
  refine .frame hs fun τ => ?_
  refine .seq <| .seq <| .r <| .w 8 .mvI <| .w 9 (.fa T.fd49_1) <| .w 10 (.ldx T.ag47 ok.m2) <| .w 11 (.len T.el47) <| .w 12 .lss <| .nil ?_
  refine .cdr (fun C0 => ?_) (fun C0 => ?_)
  · --
    have hin : i = ps.length := by omega
    refine .exit <| hK0 _ _ <| .seq <| .r <| .w 34 .mvS <| .w 35 (.fa T.fd49_1) <| .ur' (.stS T.sz47 ok.n2) ?_
    rintro η4 ⟨ok, cg⟩
    refine .nil ?_
    refine .seq <| .r <| .w 36 (.ldb T.ag49 ok.m0 T.sz49) <| .ur' (.stW (vs := [.int .i64 room, .slice a1 n1 c1]) T.sz49 ok.n2 (oneL rfl)) ?_
    rintro η5 ⟨ok, cg⟩
    refine .nil ?_
    refine .ret ⟨.agg #[.int .i64 room, .slice a1 n1 c1], Res.many (vs := [.agg #[.int .i64 room, .slice a1 n1 c1]]) rfl ⟨⟨_, rfl, load_ag T.ag49 ok.m0 T.sz49⟩, trivial⟩ rfl, ⟨(a1, n1, c1), rfl, ok.chg, by have h1 := ok.n2; rw [hin, List.take_length] at h1; exact RC.made h1 hlt (by have h2 := RC.up (h0 := h) ok.r1; exact ⟨by simp [h2.1], fun i h3 h4 => by simp at h3 h4 ⊢; have q := h2.2 i h3 h4; exact ⟨q.no, by simp [clp, clA, q.d, q.no], q.b⟩⟩)⟩⟩
  have hil : i < ps.length := by omega
  have htk := take_next hil
  have htl : (((ps.take i).map (clp l)).flatMap pg).length = i * 3 := by rw [flat_len pg_len]; simp; omega
  refine .skip <| .seq <| .block fun K1 hK1 => .seq <| .r <| .w 15 (.fa T.fd49_1) <| .w 16 (.ldx T.ag47 ok.m2) <| .w 17 .mvI <| ?_
  obtain ⟨bb1, oo1, rfl, fb1⟩ := ok.r2.pos (n := n) (by omega)
  refine .w 18 (.ix i T.el47 T.sz78) <| .w 19 (.ldc (vs := pg ps[i]) T.ag78 (sl_ats pg_len ok.r2 (i := i) (by omega)) T.sz78) <| .a' 7 (.alA T.zr78 ok) ?_
  rintro _ η6 ⟨pb3, rfl, ok, xe⟩
  refine .ur' (.stW (vs := [.int .i64 (ps[i].no), .slice (ps[i].b.1) (ps[i].b.2.1) (ps[i].b.2.2), .bool (ps[i].d)]) T.sz78 ok (oneL rfl)) ?_
  rintro η7 ⟨ok, cg⟩
  refine .nil ?_
  refine .seq <| .r <| .w 20 (.fa T.fd78_2) <| .w 21 (.ldx T.ag4 ok.m0) <| .w 22 .mvB <| .spl (fun G22 => ?_) (fun G22 => ?_)
  ·
    refine .w 23 (.fa T.fd78_0) <| .w 24 (.ldx T.ag3 ok.m0) <| .w 25 .mvS <| .k 26 .func (in_any (ok.r0).ints) <| .w 27 .not <| .w 28 .pkt <| .w 29 (.fa T.fd78_2) <| .ur' (.stB T.sz4 ok) ?_
    rintro η8 ⟨ok, cg⟩
    refine .nil ?_
    refine .r <| .w 30 .mvS <| .w 31 (.ldb T.ag78 ok.m0 T.sz78) <| .a' 32 (.lit [.tmp 31] (cs := [.int .i64 (ps[i].no), .slice (ps[i].b.1) (ps[i].b.2.1) (ps[i].b.2.2), .bool (!(decide (ps[i].no ∈ l) || decide (l = [])))]) T.el47 T.sz78 T.zr78 ok ⟨rfl, trivial⟩) ?_
    rintro _ η9 ⟨pb4, rfl, ok, xe⟩
    refine .a' 33 (.app (news := [.int .i64 (ps[i].no), .slice (ps[i].b.1) (ps[i].b.2.1) (ps[i].b.2.2), .bool (!(decide (ps[i].no ∈ l) || decide (l = [])))]) T.el47 T.sz78 T.by78 T.zr78 ok.n2 (ok.n2.m1).sl (oneL rfl) (by rw [htl]; simp only [List.length_cons, List.length_nil]; omega)) ?_
    rintro _ η10 ⟨ya1, yn1, yc1, rfl, ok, ap⟩
    refine .w 5 .asS <| .nil ?_
    refine .end <| hK1 _ _ <| .r <| .w 13 .mvI <| .w 14 .add <| .w 6 .asI <| .nil ?_
    refine .end <| hJ0 _ _ _ ⟨i + 1, _, _, _, ⟨rfl, rfl, rfl, rfl, rfl, trivial⟩, ok.n4.n4.n2.k3.cx (by rw [htk, List.map_append]; exact flat1 (by simp [clp, pg, asked, G22])), by omega, rfl⟩ (by omega)
  refine .x 23 <| .x 24 <| .x 25 <| .x 26 <| .x 27 <| .w 28 .pkf <| .w 29 (.fa T.fd78_2) <| .ur' (.stB T.sz4 ok) ?_
  rintro η11 ⟨ok, cg⟩
  refine .nil ?_
  refine .r <| .w 30 .mvS <| .w 31 (.ldb T.ag78 ok.m0 T.sz78) <| .a' 32 (.lit [.tmp 31] (cs := [.int .i64 (ps[i].no), .slice (ps[i].b.1) (ps[i].b.2.1) (ps[i].b.2.2), .bool false]) T.el47 T.sz78 T.zr78 ok ⟨rfl, trivial⟩) ?_
  rintro _ η12 ⟨pb5, rfl, ok, xe⟩
  refine .a' 33 (.app (news := [.int .i64 (ps[i].no), .slice (ps[i].b.1) (ps[i].b.2.1) (ps[i].b.2.2), .bool false]) T.el47 T.sz78 T.by78 T.zr78 ok.n2 (ok.n2.m1).sl (oneL rfl) (by rw [htl]; simp only [List.length_cons, List.length_nil]; omega)) ?_
  rintro _ η13 ⟨ya2, yn2, yc2, rfl, ok, ap⟩
  refine .w 5 .asS <| .nil ?_
  refine .end <| hK1 _ _ <| .r <| .w 13 .mvI <| .w 14 .add <| .w 6 .asI <| .nil ?_
  refine .end <| hJ0 _ _ _ ⟨i + 1, _, _, _, ⟨rfl, rfl, rfl, rfl, rfl, trivial⟩, ok.n4.n4.n2.k3.cx (by rw [htk, List.map_append]; exact flat1 (by simp [clp, pg, asked, G22])), by omega, rfl⟩ (by omega)

set_option maxRecDepth 100000 in
set_option maxHeartbeats 2000000 in
theorem rdrop_any {h : Heap} {E : Nat → Prop} {x lv : SV} {L : List AP} {l : List Int} (hr : RC h E x L) (hN : L.length ≤ 1000000) (room : Int) (hl : Ints h (sv lv) l) :
    HC Try.prog 23 #[.agg #[.int .i64 room, sv x], sv lv] h (fun v h' => ∃ y : SV, v = .agg #[.int .i64 room, sv y] ∧ Ext h h' ∧ RC h' (fun j => E j ∨ Nw h h' j) y (L.filter fun x => !asked l x.no)) := by
  obtain ⟨a, n, c⟩ := x
  obtain ⟨la, ln, lc⟩ := lv
  obtain ⟨ps, ok, hpl, hLl, hnc, hcm⟩ := hr.start (D := none_)
  have hlt := hr.lt
  have ok := ok.old (rdI (blk (sv (la, ln, lc))) none_ (la, ln, lc) l) (RdL.ofInts hl) fun j hj => hj.elim (blk_lt (by omega) hl j) fun f => f.elim
  refine HC.go Try.func23 34 ?_
  refine .seq <| .r <| .a' 2 (.bxA (cs := [.int .i64 room, .slice a n c]) ok) ?_
  rintro _ η1 ⟨pb1, rfl, ok, xe⟩
  refine .a' 4 (.alA T.zr49 ok) ?_
  rintro _ η2 ⟨pb2, rfl, ok, xe⟩
  refine .nil ?_
  refine .seq <| .r <| .w 5 .asS <| .nil ?_
  refine .seq <| .seq <| ?_
  have ok := ok.nilC (k := 3) (e := 78)
  refine .r <| .w 6 .asI <| .nil ?_
  refine .block fun K0 hK0 => .loop (fun m s hh => ∃ (i : Nat) (a1 : Option Addr) (n1 c1 : Nat), Has s [(1, .slice la ln lc), (2, .pointer (some ⟨pb1, 0, none⟩)), (4, .pointer (some ⟨pb2, 0, none⟩)), (5, .slice a1 n1 c1), (6, .int .i64 (i : Int))] ∧ Hp h none_ [capI 3 78 (a1, n1, c1) (((ps.take i).filter fun p => !asked l p.no).flatMap pg), boxI pb2 49 [.int .i64 0, .slice none 0 0], boxI pb1 49 [.int .i64 room, .slice a n c]] [rdI (blk (sv (la, ln, lc))) none_ (la, ln, lc) l, plI E ps L, rowI 3 (a, n, c) (ps.flatMap pg)] hh ∧ i ≤ n ∧ m = n - i) ?_ ?_
  · exact ⟨_, 0, _, _, _, ⟨rfl, rfl, rfl, rfl, rfl, trivial⟩, ok.n2.n2.n2.cx (by simp), Nat.zero_le _, rfl⟩
  rintro _ _ η3 ⟨i, a1, n1, c1, hs, ok, hi, rfl⟩ J0 hJ0
  refine .frame hs fun τ => ?_
  refine .seq <| .seq <| .r <| .w 7 .mvI <| .w 8 (.fa T.fd49_1) <| .w 9 (.ldx T.ag47 ok.m2) <| .w 10 (.len T.el47) <| .w 11 .lss <| .nil ?_
  refine .cdr (fun C0 => ?_) (fun C0 => ?_)
  · --
    have hin : i = ps.length := by omega
    refine .exit <| hK0 _ _ <| .seq <| .r <| .w 31 .mvS <| .w 32 (.fa T.fd49_1) <| .ur' (.stS T.sz47 ok.n2) ?_
    rintro η4 ⟨ok, cg⟩
    refine .nil ?_
    refine .seq <| .r <| .w 33 (.ldb T.ag49 ok.m0 T.sz49) <| .ur' (.stW (vs := [.int .i64 room, .slice a1 n1 c1]) T.sz49 ok.n2 (oneL rfl)) ?_
    rintro η5 ⟨ok, cg⟩
    refine .nil ?_
    refine .ret ⟨.agg #[.int .i64 room, .slice a1 n1 c1], Res.many (vs := [.agg #[.int .i64 room, .slice a1 n1 c1]]) rfl ⟨⟨_, rfl, load_ag T.ag49 ok.m0 T.sz49⟩, trivial⟩ rfl, ⟨(a1, n1, c1), rfl, ok.chg, by have h1 := ok.n2; rw [hin, List.take_length] at h1; exact RC.made h1 hlt (All2.filter (fun a b q => by rw [q.no]) (RC.up ok.r1))⟩⟩
  have hil : i < ps.length := by omega
  have htk := take_next hil
  have htl : (((ps.take i).filter fun p => !asked l p.no).flatMap pg).length ≤ i * 3 := by rw [flat_len pg_len]; refine Nat.mul_le_mul_right _ (Nat.le_trans (List.length_filter_le _ _) ?_); simp; omega
  refine .skip <| .seq <| .block fun K1 hK1 => .seq <| .r <| .w 14 (.fa T.fd49_1) <| .w 15 (.ldx T.ag47 ok.m2) <| .w 16 .mvI <| ?_
  obtain ⟨bb1, oo1, rfl, fb1⟩ := ok.r2.pos (n := n) (by omega)
  refine .w 17 (.ix i T.el47 T.sz78) <| .w 18 (.fa T.fd78_0) <| .w 19 (.ld T.ag3 (sl_at pg_len ok.r2 (i := i) (j := 0) (by omega) rfl)) <| .w 20 .mvS <| .k 21 .func (in_any (ok.r0).ints) <| .w 22 .not <| .nil ?_
  refine .cond (fun C1 => ?_) (fun C1 => ?_)
  · --
    refine .r <| .w 23 .mvS <| .w 24 (.fa T.fd49_1) <| .w 25 (.ldx T.ag47 ok.m2) <| .w 26 .mvI <| .w 27 (.ix i T.el47 T.sz78) <| .w 28 (.ldc (vs := pg ps[i]) T.ag78 (sl_ats pg_len ok.r2 (i := i) (by omega)) T.sz78) <| .a' 29 (.lit [.tmp 28] (cs := [.int .i64 (ps[i].no), .slice (ps[i].b.1) (ps[i].b.2.1) (ps[i].b.2.2), .bool (ps[i].d)]) T.el47 T.sz78 T.zr78 ok ⟨rfl, trivial⟩) ?_
    rintro _ η6 ⟨pb3, rfl, ok, xe⟩
    refine .a' 30 (.app (news := [.int .i64 (ps[i].no), .slice (ps[i].b.1) (ps[i].b.2.1) (ps[i].b.2.2), .bool (ps[i].d)]) T.el47 T.sz78 T.by78 T.zr78 ok.n1 (ok.n1.m1).sl (oneL rfl) (by simp only [pg, List.length_cons, List.length_nil]; omega)) ?_
    rintro _ η7 ⟨ya1, yn1, yc1, rfl, ok, ap⟩
    refine .w 5 .asS <| .nil ?_
    refine .end <| hK1 _ _ <| .r <| .w 12 .mvI <| .w 13 .add <| .w 6 .asI <| .nil ?_
    refine .end <| hJ0 _ _ _ ⟨i + 1, _, _, _, ⟨rfl, rfl, rfl, rfl, rfl, trivial⟩, ok.n3.n3.n2.k3.cx (by rw [htk, List.filter_append]; first | (rw [List.filter_cons_of_pos (by simpa [asked] using C1)]; exact flat1 rfl) | (rw [List.filter_cons_of_neg (by simpa [asked] using C1)]; simp)), by omega, rfl⟩ (by omega)
  refine .skip <| .end <| hK1 _ _ <| .r <| .w 12 .mvI <| .w 13 .add <| .w 6 .asI <| .nil ?_
  refine .end <| hJ0 _ _ _ ⟨i + 1, _, _, _, ⟨rfl, rfl, rfl, rfl, rfl, trivial⟩, ok.n2.n2.n2.cx (by rw [htk, List.filter_append]; first | (rw [List.filter_cons_of_pos (by simpa [asked] using C1)]; exact flat1 rfl) | (rw [List.filter_cons_of_neg (by simpa [asked] using C1)]; simp)), by omega, rfl⟩ (by omega)

set_option maxRecDepth 100000 in
set_option maxHeartbeats 2000000 in
theorem rpages_any {h : Heap} {E : Nat → Prop} {x : SV} {L : List AP} (hr : RC h E x L) (hN : L.length ≤ 1000000) (room : Int) :
    HC Try.prog 25 #[.agg #[.int .i64 room, sv x]] h (fun v h' => Own h h' 1 3 v ((nos L).map iv)) := by
  obtain ⟨a, n, c⟩ := x
  obtain ⟨ps, ok, hpl, hLl, hnc, hcm⟩ := hr.start (D := none_)
  have hlt := hr.lt
  refine HC.go Try.func25 22 ?_
  refine .seq <| .r <| .a' 1 (.bxA (cs := [.int .i64 room, .slice a n c]) ok) ?_
  rintro _ η1 ⟨pb1, rfl, ok, xe⟩
  refine .w 2 .asS <| .nil ?_
  refine .seq <| .r <| .w 3 .asS <| .nil ?_
  refine .seq <| .seq <| ?_
  have ok := ok.nilC (k := 1) (e := 3)
  refine .r <| .w 4 .asI <| .nil ?_
  refine .block fun K0 hK0 => .loop (fun m s hh => ∃ (i : Nat) (a1 : Option Addr) (n1 c1 : Nat), Has s [(1, .pointer (some ⟨pb1, 0, none⟩)), (3, .slice a1 n1 c1), (4, .int .i64 (i : Int))] ∧ Hp h none_ [capI 1 3 (a1, n1, c1) (((ps.take i).map fun p => p.no).map iv), boxI pb1 49 [.int .i64 room, .slice a n c]] [plI E ps L, rowI 3 (a, n, c) (ps.flatMap pg)] hh ∧ i ≤ n ∧ m = n - i) ?_ ?_
  · exact ⟨_, 0, _, _, _, ⟨rfl, rfl, rfl, trivial⟩, ok.n1.n1.cx (by simp), Nat.zero_le _, rfl⟩
  rintro _ _ η2 ⟨i, a1, n1, c1, hs, ok, hi, rfl⟩ J0 hJ0
  refine .frame hs fun τ => ?_
  refine .seq <| .seq <| .r <| .w 5 .mvI <| .w 6 (.fa T.fd49_1) <| .w 7 (.ldx T.ag47 ok.m1) <| .w 8 (.len T.el47) <| .w 9 .lss <| .nil ?_
  refine .cdr (fun C0 => ?_) (fun C0 => ?_)
  · --
    have hin : i = ps.length := by omega
    refine .exit <| hK0 _ _ <| .seq <| .r <| .w 21 .mvS <| .w 2 .asS <| .nil ?_
    refine .ret ⟨.slice a1 n1 c1, Res.one rfl rfl, by have h1 := (ok).toOwn; rw [hin, List.take_length] at h1; rwa [show nos L = ps.map fun p => p.no from (nos_ps ok.r0).symm]⟩
  have hil : i < ps.length := by omega
  have htk := take_next hil
  refine .skip <| .seq <| .block fun K1 hK1 => .r <| .w 12 .mvS <| .w 13 (.fa T.fd49_1) <| .w 14 (.ldx T.ag47 ok.m1) <| .w 15 .mvI <| ?_
  obtain ⟨bb1, oo1, rfl, fb1⟩ := ok.r1.pos (n := n) (by omega)
  refine .w 16 (.ix i T.el47 T.sz78) <| .w 17 (.fa T.fd78_0) <| .w 18 (.ld T.ag3 (sl_at pg_len ok.r1 (i := i) (j := 0) (by omega) rfl)) <| .a' 19 (.lit [.tmp 18] (cs := [.int .i64 (ps[i].no)]) T.el31 T.sz3 T.zr3 ok ⟨rfl, trivial⟩) ?_
  rintro _ η3 ⟨pb2, rfl, ok, xe⟩
  refine .a' 20 (.app (news := [.int .i64 (ps[i].no)]) T.el31 T.sz3 T.by3 T.zr3 ok.n1 (ok.n1.m1).sl (oneL rfl) (by simp only [List.length_map, List.length_append, List.length_take, List.length_cons, List.length_nil]; omega)) ?_
  rintro _ η4 ⟨ya1, yn1, yc1, rfl, ok, ap⟩
  refine .w 3 .asS <| .nil ?_
  refine .end <| hK1 _ _ <| .r <| .w 10 .mvI <| .w 11 .add <| .w 4 .asI <| .nil ?_
  refine .end <| hJ0 _ _ _ ⟨i + 1, _, _, _, ⟨rfl, rfl, rfl, trivial⟩, ok.n2.n1.k2.cx (by rw [htk, List.map_append]; exact snocI), by omega, rfl⟩ (by omega)

end Go.Proofs.Ytdbiggfnnhmpiaa
