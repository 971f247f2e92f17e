/- A log that is written frame by frame, and how many of its frames are sure. Conditions: the frames are readable, few, and short. -/
import Derived.Test.YtpebbkhainpfaaaWfBk
import Derived.Test.YtpebbkhainpfaaaWfPuts
import Derived.Test.YtpebbkhainpfaaaWfOpen
namespace Go.Proofs.Ytpebbkhainpfaaa
open Go Go.HL
def selN (l : List Fr) (n i : Nat) : List Nat := (List.range i).filter fun j => okF (frN l j) && decide ((frN l j).b.length = n)
def inN (l : List Fr) (n : Nat) : List Fr := (selN l n l.length).map (frN l)
theorem selN_succ (l : List Fr) (n i : Nat) : selN l n (i + 1) = if (okF (frN l i) && decide ((frN l i).b.length = n)) = true then selN l n i ++ [i] else selN l n i := by
  unfold selN
  rw [List.range_succ, List.filter_append, List.filter_cons, List.filter_nil]
  split <;> simp
theorem selN_lt {l : List Fr} {n i : Nat} : ∀ j ∈ selN l n i, j < i := fun j hj => by simpa using (List.mem_filter.1 hj).1
theorem selN_len (l : List Fr) (n i : Nat) : (selN l n i).length ≤ i := by
  have := List.length_filter_le (fun j => okF (frN l j) && decide ((frN l j).b.length = n)) (List.range i)
  unfold selN
  simpa using this
theorem linkL_nil (p : Nat) (f : Nat → Fr) : linkL p (([] : List Nat).map f) = p := rfl
theorem selN_ok (l : List Fr) (n i : Nat) : okL n ((selN l n i).map (frN l)) := fun f hf => by
  obtain ⟨j, hj, rfl⟩ := List.mem_map.1 hf
  have := (List.mem_filter.1 hj).2
  simpa using this
theorem inN_len (l : List Fr) (n : Nat) : (inN l n).length ≤ l.length := by unfold inN; rw [List.length_map]; exact selN_len _ _ _
theorem scan_whole {n salt : Nat} (hn : n < 4294967296) (hs : salt < 18446744073709551616) {fs : List Fr} (h : okL n fs) : ScanE (headN n salt ++ putsN (nextN salt (headN n salt)) fs) ⟨20 + fs.length * (16 + n), linkL (nextN salt (headN n salt)) fs, fs, fs.take (sureN fs), linkL (nextN salt (headN n salt)) (fs.take (sureN fs)), 20 + sureN fs * (16 + n)⟩ := by
  have := scan_short_log hn hs h [] (by simp; omega)
  rwa [List.append_nil] at this
theorem Frs.lt {h : Heap} {F E : Nat → Prop} {x : SV} {l : List Fr} {xa : Nat → Option Addr} {xc : Nat → Nat} (r : Frs h F E x l xa xc) : Frs h (fun j => F j ∧ j < h.size) (fun j => E j ∧ j < h.size) x l xa xc := ⟨r.rd.lt, r.sl, fun i hi => (r.b i hi).lt⟩
/-- What a call made: an item that may turn, and one that is read, in new blocks or in those of the first that is read. -/
theorem _root_.Go.HL.Hp.join1 {h0 h h' : Heap} {D : Nat → Prop} {M R : List Itm} {a b r : Itm} (ok : Hp h0 D M (r :: R) h) (q : Hp h none_ [a] [b] h') (hb : ∀ j, b.F j → Nw h h' j ∨ r.F j) : Hp h0 D (a :: M) (b :: r :: R) h' := by
  have ok1 := ok.newM q.chg a q.m0 (fun j hj => q.fresh j hj)
  refine ⟨ok1.chg, ok1.m, fun i hi => ?_, ok1.mm, fun x hx y hy j hj hj2 => ?_⟩
  · rcases List.mem_cons.1 hi with rfl | hi
    · exact q.r _ List.mem_cons_self
    · exact ok1.r i hi
  · rcases List.mem_cons.1 hy with rfl | hy
    · rcases List.mem_cons.1 hx with rfl | hx
      · exact q.mr _ List.mem_cons_self _ List.mem_cons_self j hj hj2
      · rcases hb j hj2 with h1 | h1
        · have h2 := ((ok.m x hx).2 j hj).1; have := h1.1; omega
        · exact ok.mr x hx r List.mem_cons_self j hj h1
    · exact ok1.mr x hx y hy j hj hj2

theorem wr_ret {h h' : Heap} {F E : Nat → Prop} {x : SV} {l : List Fr} {xa : Nat → Option Addr} {xc : Nat → Nat} (hf : Frs h F E x l xa xc) (hE : ∀ j, E j → j < h.size) {O : List Nat} (hO : ∀ i ∈ O, i < l.length) {b : Itm} {y : SV} {M R : List Itm} (ok : Hp h none_ (b :: capI 3 38 y (O.flatMap (vfN l xa xc)) :: M) R h') :
    Hp h none_ [b] [rdI (blkC (sv y)) E y (O.map (frN l))] h' ∧ ∀ j, blkC (sv y) j → Nw h h' j := by
  have hc := ok.m1
  have hfr := (ok.n1).fresh
  have hfb := ok.fresh
  have hmm := (List.pairwise_cons.1 ok.mm).1 _ List.mem_cons_self
  have hrd : RdL h' (blkC (sv y)) E y (O.map (frN l)) := RdL.of_cap (α := Fr) (E := E) (css := O.map (vfN l xa xc)) (by rw [← List.flatMap_def]; exact hc) ⟨by simp, fun i h1 h2 => by
    simp only [List.length_map] at h1
    simp only [List.getElem_map]
    exact ⟨(xa O[i], _, xc O[i]), rfl, (hf.b _ (hO _ (List.getElem_mem h1))).ext ok.chg⟩⟩
  refine ⟨⟨ok.chg, fun i hi => by
    rw [List.mem_singleton] at hi; subst hi
    exact ok.m _ List.mem_cons_self, fun i hi => by
    rw [List.mem_singleton] at hi; subst hi
    exact ⟨hrd, fun j hj => hj.elim (fun h1 => (hfr j h1).2) (fun h1 => Nat.lt_of_lt_of_le (hE j h1) ok.chg.size)⟩, List.pairwise_singleton _ _, fun a ha c hc j hj hj2 => ?_⟩, hfr⟩
  rw [List.mem_singleton] at ha hc
  subst ha hc
  rcases hj2 with h1 | h1
  · exact hmm j hj h1
  · have := (hfb j hj).1; have := hE j h1; omega

set_option maxRecDepth 100000 in
set_option maxHeartbeats 2000000 in
theorem sure_any {h : Heap} {F E : Nat → Prop} {a : Option Addr} {c : Nat} {l : List Fr} (hl : RdL h F E (a, l.length, c) l) :
    HC Try.prog 27 #[.slice a l.length c] h (fun v h' => v = .int .i64 ((sureN l : Nat) : Int) ∧ h' = h) := by
  have hc2 := hl.m
  have hc1 : l.length ≤ c := hl.c
  simp only at hc2
  obtain ⟨xa, xc, hf⟩ := RdL.frs hl
  refine HC.go Try.func27 20 ?_
  refine .seq <| .r <| .w 2 .asI <| .nil ?_
  refine .seq <| .r <| .w 3 .asI <| .nil ?_
  refine .seq <| .seq <| .r <| .w 4 .asI <| .nil ?_
  refine .block fun K0 hK0 => .loop (fun m s hh => ∃ (i mm : Nat), Has s [(0, .slice a l.length c), (3, .int .i64 (mm : Int)), (4, .int .i64 (i : Int))] ∧ h = hh ∧ i ≤ l.length ∧ mm = sureN (l.take i) ∧ m = l.length - i) ?_ ?_
  · exact ⟨_, 0, 0, ⟨rfl, rfl, rfl, trivial⟩, rfl, Nat.zero_le _, rfl, rfl⟩
  rintro _ _ _ ⟨i, mm, hs, rfl, hi, hm, rfl⟩ J0 hJ0
  refine .frame hs fun τ => ?_
  refine .seq <| .seq <| .r <| .w 5 .mvI <| .w 6 .mvS <| .w 7 (.len T.el24) <| .w 8 .lss <| .nil ?_
  refine .cdr (fun C0 => ?_) (fun C0 => ?_)
  · --
    have hil : i = l.length := by omega
    rw [hil, List.take_length] at hm
    refine .exit <| hK0 _ _ <| .seq <| .r <| .w 19 .mvI <| .w 2 .asI <| .nil ?_
    refine .ret ⟨.int .i64 (mm : Int), Res.one rfl rfl, ⟨by rw [hm], rfl⟩⟩
  have hil : i < l.length := by omega
  have hsn := sureN_snoc (l.take i) (frN l i)
  rw [List.length_take, Nat.min_eq_left (by omega)] at hsn
  have htk : l.take (i + 1) = l.take i ++ [frN l i] := by rw [take_next hil, frN_lt hil]
  refine .skip <| .seq <| .block fun K1 hK1 => .seq <| .r <| .w 11 .mvS <| .w 12 .mvI <| ?_
  obtain ⟨bb1, oo1, rfl, fb1⟩ := hf.pos (by omega)
  refine .w 13 (.ix i T.el24 T.sz38) <| .w 14 (.fa T.fd38_1) <| .w 15 (.ld T.ag3 (frs_at (hf).sl (i := i) (j := 1) (by omega) rfl)) <| .w 16 .gtr <| .nil ?_
  refine .cd (fun C1 => ?_) (fun C1 => ?_)
  · --
    refine .r <| .w 17 .mvI <| .w 18 (.addI (b := 1)) <| .w 3 .asI <| .nil ?_
    refine .end <| hK1 _ _ <| .r <| .w 9 .mvI <| .w 10 (.addI (b := 1)) <| .w 4 .asI <| .nil ?_
    refine .end <| hJ0 _ _ _ ⟨i + 1, (i + 1), ⟨rfl, rfl, rfl, trivial⟩, rfl, by omega, by rw [htk, hsn]; exact (if_pos C1).symm, rfl⟩ (by omega)
  refine .skip <| .end <| hK1 _ _ <| .r <| .w 9 .mvI <| .w 10 (.addI (b := 1)) <| .w 4 .asI <| .nil ?_
  refine .end <| hJ0 _ _ _ ⟨i + 1, mm, ⟨rfl, rfl, rfl, trivial⟩, rfl, by omega, by rw [htk, hsn]; exact hm.trans (if_neg C1).symm, rfl⟩ (by omega)

set_option maxRecDepth 100000 in
set_option maxHeartbeats 2000000 in
theorem written_any {h : Heap} {F E : Nat → Prop} {n salt : Nat} {a : Option Addr} {c : Nat} {l : List Fr} (hk : okZ (n : Int) = true) (hs : salt < 18446744073709551616) (hl : RdL h F E (a, l.length, c) l) (hfw : fewN l = true) :
    HC Try.prog 26 #[.agg #[.int .i64 (n : Int), .int .u64 (salt : Int), .slice a l.length c]] h (fun v h' => ∃ a1 c1 a2 c2, v = .tuple #[.slice a1 (headN n salt ++ putsN (nextN salt (headN n salt)) (inN l n)).length c1, .slice a2 (inN l n).length c2, .bool true] ∧
      Hp h none_ [capI 1 5 (a1, (headN n salt ++ putsN (nextN salt (headN n salt)) (inN l n)).length, c1) ((headN n salt ++ putsN (nextN salt (headN n salt)) (inN l n)).map bv)] [rdI (blkC (sv (a2, (inN l n).length, c2))) (fun j => E j ∧ j < h.size) (a2, (inN l n).length, c2) (inN l n)] h' ∧ ∀ j, blkC (sv (a2, (inN l n).length, c2)) j → Nw h h' j) := by
  have hc2 := hl.m
  have hc1 : l.length ≤ c := hl.c
  simp only at hc2
  obtain ⟨xa, xc, hf⟩ := RdL.frs hl.lt
  have hfv := vfN_len l xa xc
  obtain ⟨hw1, hw2⟩ := fewN_iff.1 hfw
  have hkn := of_decide_eq_true hk
  have hn : n < 4294967296 := by omega
  have hf0 : firstN (headN n salt) = nextN salt (headN n salt) := by have := firstN_headN (n := n) hs []; rwa [List.append_nil] at this
  have hp0 : nextN salt (headN n salt) < 18446744073709551616 := nextN_lt hs _
  have hl20 := headN_len n salt
  have hro := headOk_headN hn hs (by rw [← okZ_nat]; exact hk) []
  rw [List.append_nil] at hro
  have ok := (Hp.nil h none_).old (frsI (fun j => F j ∧ j < h.size) (fun j => E j ∧ j < h.size) (a, l.length, c) l xa xc) hf (fun _ hj => hj.elim (·.2) (·.2))
  refine HC.go Try.func26 74 ?_
  refine .seq <| .r <| .a' 1 (.bxA (cs := [.int .i64 (n : Int), .int .u64 (salt : Int), .slice a l.length c]) ok) ?_
  rintro _ η1 ⟨pb1, rfl, ok, xe⟩
  refine .w 2 .asS <| .w 3 .asS <| .w 4 .asB <| .nil ?_
  refine .seq <| .r <| .w 19 (.fa T.fd50_0) <| .w 20 (.ldx T.ag3 ok.m0) <| .w 21 (.fa T.fd50_1) <| .w 22 (.ldx T.ag25 ok.m0) <| .c' 23 .func (start_ok (n := n) (salt := salt) (by omega) (by omega) (by exact hk)) ?_
  rintro _ η2 ⟨yw1, rfl, own⟩
  obtain ⟨ya1, yc1, rfl⟩ := own.formB
  have ok := ok.own own
  refine .w 18 .mvU <| .w 24 .ex <| .w 25 .ex <| .w 5 .asS <| .w 6 .asI <| .nil ?_
  refine .seq <| .seq <| .r <| .w 26 .mvI <| .w 27 .neq <| .nil ?_
  refine .cf <| .skip <| .seq <| .r <| .w 29 .mvS <| .c' 30 .func (scan_any (a := ya1) (c := yc1) (l := (headN n salt)) (RdL.ofCapB (v := (ya1, (headN n salt).length, yc1)) (l := (headN n salt)) ok.m0) (by omega)) ?_
  rintro _ η3 (⟨hlt, rfl, hx⟩ | ⟨hge, hhd, rfl, hx⟩ | ⟨hge, hhd, sc1, sx1, hscsc1, rfl, hx, hr⟩)
  · --
    first | omega | (rw [hro] at hhd; cases hhd)
  · --
    first | omega | (rw [hro] at hhd; cases hhd)
  obtain ⟨asx1, nsx1, csx1⟩ := sx1
  have hnsx1 := hr.n
  have hccsx1 := hr.c
  have hmsx1 := hr.m
  simp only at hnsx1 hccsx1 hmsx1
  subst hnsx1
  have ok := ok.ret hx hr
  obtain rfl := scan_short (by rw [headN_len]; omega) hscsc1
  rw [show (scan0 (headN n salt)).sure = linkL (nextN salt (headN n salt)) (([] : List Nat).map (frN l)) from hf0.trans (linkL_nil _ _).symm]
  refine .w 28 .mvU <| .w 31 .ex <| .w 32 .ex <| .w 33 .ex <| .w 34 .ex <| .w 35 .ex <| .w 7 .asI <| .w 8 .asS <| .w 9 .asI <| .w 10 .asI <| .w 11 .asI <| .nil ?_
  refine .seq <| .r <| .w 12 .asS <| ?_
  have ok := ok.nilC (k := 3) (e := 38)
  refine .nil ?_
  refine .seq <| .seq <| ?_
  have ok := (ok.n1).cx (ys := (headN n salt ++ putsN (nextN salt (headN n salt)) (([] : List Nat).map (frN l))).map bv) (by simp [putsN])
  rw [show (headN n salt).length = (headN n salt ++ putsN (nextN salt (headN n salt)) (([] : List Nat).map (frN l))).length from by rw [List.map_nil, putsN, List.append_nil]]
  have ok := ok.tR
  refine .r <| .w 36 (.fa T.fd50_2) <| .w 37 (.ldx T.ag24 ok.m2) <| .w 38 (.len T.el24) <| .w 39 .mvI <| .nil ?_
  refine .block fun K0 hK0 => .loop (fun m s hh => ∃ (i : Nat) (O : List Nat) (a5 : Option Addr) (c5 : Nat) (a12 : Option Addr) (c12 : Nat), Has s [(1, .pointer (some ⟨pb1, 0, none⟩)), (5, .slice a5 ((headN n salt ++ putsN (nextN salt (headN n salt)) (O.map (frN l))).length) c5), (9, .int .u64 ((linkL (nextN salt (headN n salt)) (O.map (frN l)) : Nat) : Int)), (12, .slice a12 O.length c12), (37, .slice a l.length c), (38, .int .i64 (l.length : Int)), (39, .int .i64 (i : Int))] ∧ Hp h none_ [capI 1 5 (a5, (headN n salt ++ putsN (nextN salt (headN n salt)) (O.map (frN l))).length, c5) ((headN n salt ++ putsN (nextN salt (headN n salt)) (O.map (frN l))).map bv), capI 3 38 (a12, O.length, c12) (O.flatMap (vfN l xa xc)), boxI pb1 50 [.int .i64 (n : Int), .int .u64 (salt : Int), .slice a l.length c]] [frsI (fun j => F j ∧ j < h.size) (fun j => E j ∧ j < h.size) (a, l.length, c) l xa xc] hh ∧ i ≤ l.length ∧ O = selN l n i ∧ m = l.length - i) ?_ ?_
  · exact ⟨_, 0, [], ya1, yc1, none, 0, ⟨rfl, rfl, rfl, rfl, rfl, rfl, rfl, trivial⟩, (ok.n2.n2.n2).k3, Nat.zero_le _, rfl, rfl⟩
  rintro _ _ η4 ⟨i, O, a5, c5, a12, c12, hs, ok, hi, hO, rfl⟩ J0 hJ0
  refine .frame hs fun τ => ?_
  refine .seq <| .r <| .w 40 .lss <| .nil ?_
  refine .seq <| .cdr (fun C1 => ?_) (fun C1 => ?_)
  · --
    obtain rfl : i = l.length := by omega
    refine .exit <| hK0 _ _ <| .seq <| .r <| .w 72 .mvS <| .w 73 .mvS <| .w 2 .asS <| .w 3 .asS <| .w 4 .asB <| .nil ?_
    refine .ret ⟨.tuple #[.slice a5 ((headN n salt ++ putsN (nextN salt (headN n salt)) (O.map (frN l))).length) c5, .slice a12 O.length c12, .bool true], Res.three rfl rfl rfl rfl, by rw [show inN l n = O.map (frN l) by rw [inN, hO], List.length_map]; exact ⟨_, _, _, _, rfl, wr_ret hf (fun j hj => hj.2) (fun j hj => by rw [hO] at hj; exact selN_lt j hj) (ok.n1.n1)⟩⟩
  have hil : i < l.length := by omega
  have hb8 := hw2 i hil
  refine .skip <| .seq <| .join (fun s hh => ∃ (O2 : List Nat) (a5b : Option Addr) (c5b : Nat) (a12b : Option Addr) (c12b : Nat), Has s [(1, .pointer (some ⟨pb1, 0, none⟩)), (5, .slice a5b ((headN n salt ++ putsN (nextN salt (headN n salt)) (O2.map (frN l))).length) c5b), (9, .int .u64 ((linkL (nextN salt (headN n salt)) (O2.map (frN l)) : Nat) : Int)), (12, .slice a12b O2.length c12b), (37, .slice a l.length c), (38, .int .i64 (l.length : Int)), (39, .int .i64 (i : Int))] ∧ Hp h none_ [capI 1 5 (a5b, (headN n salt ++ putsN (nextN salt (headN n salt)) (O2.map (frN l))).length, c5b) ((headN n salt ++ putsN (nextN salt (headN n salt)) (O2.map (frN l))).map bv), capI 3 38 (a12b, O2.length, c12b) (O2.flatMap (vfN l xa xc)), boxI pb1 50 [.int .i64 (n : Int), .int .u64 (salt : Int), .slice a l.length c]] [frsI (fun j => F j ∧ j < h.size) (fun j => E j ∧ j < h.size) (a, l.length, c) l xa xc] hh ∧ O2 = selN l n (i + 1)) ?_ ?_
  · --
    refine .block fun K1 hK1 => .seq <| .r <| ?_
    obtain ⟨bb1, oo1, rfl, fb1⟩ := ok.r0.pos (by omega)
    refine .w 41 (.ix i T.el24 T.sz38) <| ?_
    have ok := ok.d0 (rdI (fun j => E j ∧ j < h.size) (fun j => E j ∧ j < h.size) ((xa i), (frN l i).b.length, (xc i)) ((frN l i).b)) ((ok.r0).b i (by omega)) (fun _ h => .inr (h.elim id id))
    refine .w 42 (.ldc (vs := vfN l xa xc i) T.ag38 (frs_ats (ok.r1).sl (i := i) (by omega)) T.sz38) <| .a' 14 (.alA T.zr38 ok) ?_
    rintro _ η5 ⟨pb2, rfl, ok, xe⟩
    refine .ur' (.stW (vs := [.int .i64 ((frN l i).page), .int .i64 ((frN l i).commit), .slice (xa i) ((frN l i).b.length) (xc i)]) T.sz38 ok (oneL rfl)) ?_
    rintro η6 ⟨ok, cg⟩
    refine .nil ?_
    refine .seq <| .seq <| .r <| .w 43 (.ldb T.ag38 ok.m0 T.sz38) <| .c' 44 .func (may_any (z1 := (frN l i).page) (z2 := (frN l i).commit) (a := (xa i)) (c := (xc i)) (l := (frN l i).b) ok.r0) ?_
    rintro _ η7 ⟨rfl, hx⟩
    have ok := ok.ext hx
    refine .w 45 .not <| .w 46 .mvB <| .spl (fun G46 => ?_) (fun G46 => ?_)
    ·
      have hsel : ¬ (okF (frN l i) && decide ((frN l i).b.length = n)) = true := fun h => by rw [Bool.and_eq_true] at h; have h9 := h.1; rw [h9] at G46; cases G46
      refine .x 47 <| .x 48 <| .x 49 <| .x 50 <| .x 51 <| .x 52 <| .w 53 .pkt <| .nil ?_
      refine .ct <| .exit <| hK1 _ _ <| .end <| ⟨(O), a5, c5, a12, c12, ⟨rfl, rfl, rfl, rfl, rfl, rfl, rfl, trivial⟩, (ok.n3.n3.n3).k3.tR, by rw [selN_succ, if_neg hsel, hO]⟩
    refine .w 47 (.fa T.fd38_2) <| .w 48 (.ldx T.ag22 ok.m0) <| .w 49 (.len T.el22) <| .w 50 (.fa T.fd50_0) <| .w 51 (.ldx T.ag3 ok.m3) <| .w 52 .neq <| .w 53 .pkf <| .nil ?_
    refine .cd (fun C2 => ?_) (fun C2 => ?_)
    · --
      have hsel : ¬ (okF (frN l i) && decide ((frN l i).b.length = n)) = true := fun h => by rw [Bool.and_eq_true, decide_eq_true_eq] at h; omega
      refine .exit <| hK1 _ _ <| .end <| ⟨(O), a5, c5, a12, c12, ⟨rfl, rfl, rfl, rfl, rfl, rfl, rfl, trivial⟩, (ok.n3.n3.n3).k3.tR, by rw [selN_succ, if_neg hsel, hO]⟩
    have hokF : okF (frN l i) = true := by simpa using G46
    have hbn : (frN l i).b.length = n := by omega
    have hsel : (okF (frN l i) && decide ((frN l i).b.length = n)) = true := by rw [hokF, hbn]; simp
    have hlk := linkL_lt hp0 (O.map (frN l))
    have hO40 : O.length ≤ 40 := by rw [hO]; have := selN_len l n i; omega
    have hBl : (headN n salt ++ putsN (nextN salt (headN n salt)) (O.map (frN l))).length ≤ 800000 := by
      rw [List.length_append, putsN_len (size := n) (by rw [hO]; exact selN_ok l n i), List.length_map]
      have := Nat.mul_le_mul hO40 (show 16 + n ≤ 8208 by omega)
      omega
    have hQl : (putN (linkL (nextN salt (headN n salt)) (O.map (frN l))) ⟨(frN l i).page, (frN l i).commit, (frN l i).b⟩).length ≤ 9000 := by rw [putN_len]; simp only; omega
    refine .skip <| .seq <| .r <| .w 55 .mvI <| .w 56 (.ldb T.ag38 ok.m0 T.sz38) <| .c' 57 .func (putZ_any (z1 := (frN l i).page) (z2 := (frN l i).commit) (r := (linkL (nextN salt (headN n salt)) (O.map (frN l)))) (by omega) (by omega) (a := (xa i)) (c := (xc i)) (l := (frN l i).b) ok.r0) ?_
    rintro _ η8 (⟨hkP, rfl, hx⟩ | ⟨hkP, w, rfl, own⟩)
    · --
      (rw [hokF] at hkP; cases hkP)
    obtain ⟨ya2, yc2, rfl⟩ := own.formB
    have ok := ok.own own
    refine .w 54 .mvU <| .w 58 .ex <| .w 59 .ex <| ?_
    rw [show (linkN (linkL (nextN salt (headN n salt)) (O.map (frN l))) ⟨(frN l i).page, (frN l i).commit, (frN l i).b⟩) = linkL (nextN salt (headN n salt)) ((O ++ [i]).map (frN l)) from by rw [List.map_append, List.map_singleton, linkL_snoc]]
    refine .w 60 .ex <| .w 15 .asS <| .w 16 .asI <| .w 17 .asI <| .nil ?_
    refine .seq <| .seq <| .r <| .w 61 .mvI <| .w 62 .neq <| .nil ?_
    refine .cf <| .skip <| .seq <| .r <| .w 63 .mvS <| .w 64 .mvS <| .a' 65 (.app (news := (putN (linkL (nextN salt (headN n salt)) (O.map (frN l))) ⟨(frN l i).page, (frN l i).commit, (frN l i).b⟩).map bv) T.el22 T.sz5 T.by5 T.zr5 ok.n2 (ok.n2.m1).sl bv_all (by simp only [List.length_map]; omega)) ?_
    rintro _ η9 ⟨ya3, yn2, yc3, rfl, ok, ap⟩
    have ok := ok.cx (ys := ((headN n salt ++ putsN (nextN salt (headN n salt)) (O.map (frN l))) ++ (putN (linkL (nextN salt (headN n salt)) (O.map (frN l))) ⟨(frN l i).page, (frN l i).commit, (frN l i).b⟩)).map bv) (by simp [bv])
    obtain rfl : yn2 = ((headN n salt ++ putsN (nextN salt (headN n salt)) (O.map (frN l))) ++ (putN (linkL (nextN salt (headN n salt)) (O.map (frN l))) ⟨(frN l i).page, (frN l i).commit, (frN l i).b⟩)).length := ok.lenB
    rw [show (headN n salt ++ putsN (nextN salt (headN n salt)) (O.map (frN l))) ++ (putN (linkL (nextN salt (headN n salt)) (O.map (frN l))) ⟨(frN l i).page, (frN l i).commit, (frN l i).b⟩) = headN n salt ++ putsN (nextN salt (headN n salt)) ((O ++ [i]).map (frN l)) from by rw [List.map_append, List.map_singleton, putsN_snoc, ← List.append_assoc]] at ok ⊢
    refine .w 5 .asS <| .nil ?_
    refine .seq <| .r <| .w 66 .mvI <| .w 9 .asI <| .nil ?_
    refine .r <| .w 67 .mvS <| .w 68 (.ldb T.ag38 ok.m2 T.sz38) <| .a' 69 (.lit [.tmp 68] (cs := [.int .i64 ((frN l i).page), .int .i64 ((frN l i).commit), .slice (xa i) ((frN l i).b.length) (xc i)]) T.el24 T.sz38 T.zr38 ok ⟨rfl, trivial⟩) ?_
    rintro _ η10 ⟨pb3, rfl, ok, xe⟩
    refine .a' 70 (.app (news := [.int .i64 ((frN l i).page), .int .i64 ((frN l i).commit), .slice (xa i) ((frN l i).b.length) (xc i)]) T.el24 T.sz38 T.by38 T.zr38 ok.n4 (ok.n4.m1).sl (oneL rfl) (by rw [flat_len hfv]; simp only [List.length_cons, List.length_nil]; omega)) ?_
    rintro _ η11 ⟨ya4, yn3, yc4, rfl, ok, ap⟩
    have ok := ok.cx (snocF (f := (vfN l xa xc)) (l := O) (x := i))
    obtain rfl : yn3 = (O ++ [i]).length := (Sl.sz (Cap.sl ok.m0) hfv (by decide)).1.symm
    refine .w 12 .asS <| .nil ?_
    refine .end <| hK1 _ _ <| .end <| ⟨(O ++ [i]), ya3, yc3, ya4, yc4, ⟨rfl, rfl, rfl, rfl, rfl, rfl, rfl, trivial⟩, (ok.n5.n1.n3).k3.tR, by rw [selN_succ, if_pos hsel, hO]⟩
  rintro s η12 ⟨O2, a5b, c5b, a12b, c12b, hs, ok, hO2⟩
  refine .frame hs fun τ => ?_
  refine .r <| .w 71 (.addI (b := 1)) <| .w 39 .mvI <| .nil ?_
  refine .end <| hJ0 _ _ _ ⟨i + 1, O2, a5b, c5b, a12b, c12b, ⟨rfl, rfl, rfl, rfl, rfl, rfl, rfl, trivial⟩, (ok.n2.n2.n2).k3, by omega, hO2, rfl⟩ (by omega)

end Go.Proofs.Ytpebbkhainpfaaa
