/- The document's Scan of a log. Conditions: the bytes are readable, at most 10000000. -/
import Derived.Test.YtpebbkhainpfaaaWfScan
namespace Go.Proofs.Ytpebbkhainpfaaa
open Go Go.HL
theorem rstart_any {h : Heap} {n salt : Nat} (hn : n < 9223372036854775808) (hs : salt < 18446744073709551616) :
    HC Try.prog 21 #[.int .i64 (n : Int), .int .u64 (salt : Int)] h (fun v h' => (okSz n = false ∧ v = .tuple #[.slice none 0 0, .int .i64 1] ∧ Ext h h') ∨ (okSz n = true ∧ ∃ w, v = .tuple #[w, .int .i64 0] ∧ Own h h' 1 5 w ((headN n salt).map bv))) := by
  cases h2 : okSz n with
  | false => exact (rstart_bad (by omega) (by rw [okZ_nat]; exact h2)).mono fun v h' q => .inl ⟨rfl, q.1, by rw [q.2]; exact Ext.refl _⟩
  | true => exact (rstart_ok hn hs (by rw [okZ_nat]; exact h2)).mono fun v h' q => .inr ⟨rfl, q⟩

set_option maxRecDepth 100000 in
set_option maxHeartbeats 2000000 in
theorem rscan_any {h : Heap} {F E : Nat → Prop} {a : Option Addr} {c : Nat} {l : List UInt8} (hl : RdL h F E (a, l.length, c) l) (hN : l.length ≤ 10000000) :
    HC Try.prog 15 #[.slice a l.length c] h (fun v h' => (l.length < 20 ∧ v = .tuple #[.int .i64 0, .slice none 0 0, .int .u64 0, .int .i64 0, .int .i64 6] ∧ Ext h h') ∨ (20 ≤ l.length ∧ headOk l = false ∧ v = .tuple #[.int .i64 0, .slice none 0 0, .int .u64 0, .int .i64 0, .int .i64 8] ∧ Ext h h') ∨
      (20 ≤ l.length ∧ headOk l = true ∧ ∃ s x, ScanE l s ∧ v = .tuple #[.int .i64 ((rdN l 4 4 : Nat) : Int), sv x, .int .u64 ((s.sure : Nat) : Int), .int .i64 ((s.fin : Nat) : Int), .int .i64 0] ∧ Ext h h' ∧ RdL h' (Nw h h') (Nw h h') x s.l)) := by
  have hc2 := hl.m
  have hc1 : l.length ≤ c := hl.c
  simp only at hc2
  have ok := (Hp.nil h none_).arg hl
  have h41 := rdN_lt4 l 4
  have h81 := rdN_lt8 l 8
  have hfl := firstN_lt l
  refine HC.go Try.func15 135 ?_
  refine .seq <| .r <| .w 2 .asI <| .w 3 .asS <| .w 4 .asI <| .w 5 .asI <| .w 6 .asI <| .nil ?_
  refine .seq <| .seq <| .r <| .w 26 .mvS <| .w 27 (.len T.el22) <| .w 28 .lss <| .nil ?_
  refine .cd (fun C0 => ?_) (fun C0 => ?_)
  · --
    refine .seq <| .r <| .w 2 .asI <| .w 3 .asS <| .w 4 .asI <| .w 5 .asI <| .w 6 .asI <| .nil ?_
    refine .ret ⟨.tuple #[.int .i64 0, .slice none 0 0, .int .u64 0, .int .i64 0, .int .i64 6], Res.many (vs := [.int .i64 0, .slice none 0 0, .int .u64 0, .int .i64 0, .int .i64 6]) rfl ⟨rfl, rfl, rfl, rfl, rfl, trivial⟩ rfl, .inl ⟨by omega, rfl, ok.chg⟩⟩
  refine .skip <| .seq <| .r <| .w 30 .mvS <| .k 31 .func (rread_any (p := 4) (size := 4) (a := a) (c := c) (l := l) ok.r0 (by omega) (by omega) (by omega)) <| .w 29 .mvU <| .w 32 .ex <| .w 33 .ex <| .w 7 .asI <| .w 8 .asI <| .nil ?_
  refine .seq <| .r <| .w 35 .mvS <| .k 36 .func (rread_any (p := 8) (size := 8) (a := a) (c := c) (l := l) ok.r0 (by omega) (by omega) (by omega)) <| .w 34 .mvU <| .w 37 .ex <| .w 38 .ex <| .w 9 .asI <| .w 10 .asI <| .nil ?_
  refine .seq <| .r <| .w 40 .mvI <| .w 41 (.cvi T.in3 T.in25) <| .w 42 .mvI <| .c' 43 .func (rstart_any (n := (rdN l 4 4)) (salt := (rdN l 8 8)) (by omega) (by omega)) ?_
  rintro _ η1 (⟨hsz, rfl, hx⟩ | ⟨hsz, w, rfl, own⟩)
  · --
    have ok := ok.ext hx
    refine .w 39 .mvU <| .w 44 .ex <| .w 45 .ex <| .w 11 .asS <| .w 12 .asI <| .nil ?_
    refine .seq <| .seq <| .r <| .w 46 .mvI <| .w 47 .neq <| .w 48 .mvB <| .x 49 <| .x 50 <| .x 51 <| .x 52 <| .x 53 <| .w 54 .pkt <| .nil ?_
    refine .ct <| .seq <| .r <| .w 2 .asI <| .w 3 .asS <| .w 4 .asI <| .w 5 .asI <| .w 6 .asI <| .nil ?_
    refine .ret ⟨.tuple #[.int .i64 0, .slice none 0 0, .int .u64 0, .int .i64 0, .int .i64 8], Res.many (vs := [.int .i64 0, .slice none 0 0, .int .u64 0, .int .i64 0, .int .i64 8]) rfl ⟨rfl, rfl, rfl, rfl, rfl, trivial⟩ rfl, .inr (.inl ⟨by omega, by simp only [headOk, hsz, Bool.false_and], rfl, ok.chg⟩)⟩
  obtain ⟨ya1, yc1, rfl⟩ := own.formB
  have ok := ok.own own
  refine .w 39 .mvU <| .w 44 .ex <| .w 45 .ex <| .w 11 .asS <| .w 12 .asI <| .nil ?_
  refine .seq <| .seq <| .r <| .w 46 .mvI <| .w 47 .neq <| .w 48 .mvB <| .w 49 .mvS <| .w 50 .mvS <| .w 51 (.sl_h ((l.take 20).length) T.el22 T.sz5 (hb := by (simp; omega))) <| ?_
  have ok := ok.d0 (rdI (fun j => F j ∧ j < h.size) (fun j => E j ∧ j < h.size) (a, (l.take 20).length, c) (l.take 20)) ((ok.r0).pre (l2 := l.take 20) (List.take_prefix _ _)) (fun _ h => h)
  refine .k 52 .func (same_any (a := ya1) (c := yc1) (l := (headN (rdN l 4 4) (rdN l 8 8))) (b := a) (d := c) (l2 := l.take 20) (RdL.ofCapB (v := (ya1, (headN (rdN l 4 4) (rdN l 8 8)).length, yc1)) (l := (headN (rdN l 4 4) (rdN l 8 8))) ok.m0) ok.r0) <| .w 53 .notd <| .w 54 .pkf <| .nil ?_
  refine .cd (fun C1 => ?_) (fun C1 => ?_)
  · --
    refine .seq <| .r <| .w 2 .asI <| .w 3 .asS <| .w 4 .asI <| .w 5 .asI <| .w 6 .asI <| .nil ?_
    refine .ret ⟨.tuple #[.int .i64 0, .slice none 0 0, .int .u64 0, .int .i64 0, .int .i64 8], Res.many (vs := [.int .i64 0, .slice none 0 0, .int .u64 0, .int .i64 0, .int .i64 8]) rfl ⟨rfl, rfl, rfl, rfl, rfl, trivial⟩ rfl, .inr (.inl ⟨by omega, by simp only [headOk, hsz, Bool.false_and, Bool.true_and, decide_eq_false C1], rfl, ok.chg⟩)⟩
  have hhd := Decidable.not_not.1 C1
  have h20 : 20 ≤ l.length := by omega
  refine .skip <| .seq <| .r <| .w 55 .mvS <| .k 56 .func (first_any (by omega) (a := a) (c := c) (l := l) ok.r1) <| .w 13 .asI <| .nil ?_
  refine .seq <| .r <| .w 57 .mvI <| .w 14 .asI <| .nil ?_
  refine .seq <| .r <| .w 15 .asI <| .nil ?_
  refine .seq <| .r <| .w 16 .asI <| .nil ?_
  refine .seq <| .r <| .w 17 .asS <| .w 18 .asS <| ?_
  have ok := ok.accNil 38 Fr
  refine .nil ?_
  refine .seq <| .block fun K0 hK0 => .loop (fun m s hh => ∃ (sc : Sc) (a8 : Option Addr) (n8 c8 : Nat) (a3 : Option Addr) (n3 c3 : Nat) (E2 : Nat → Prop), Has s [(0, .slice a l.length c), (7, .int .u64 (((rdN l 4 4) : Nat) : Int)), (13, .int .u64 (sc.prev : Int)), (14, .int .u64 (sc.sure : Int)), (15, .int .i64 (sc.pos : Int)), (16, .int .i64 (sc.fin : Int)), (17, .slice a3 n3 c3), (18, .slice a8 n8 c8)] ∧ Hp h none_ [accI 38 (a8, n8, c8) (a3, n3, c3) E2 sc.all sc.l] [rdI (fun j => F j ∧ j < h.size) (fun j => E j ∧ j < h.size) (a, (l.take 20).length, c) (l.take 20), rdI (fun j => F j ∧ j < h.size) (fun j => E j ∧ j < h.size) (a, l.length, c) l] hh ∧ Reach l (rdN l 4 4) (scan0 l) sc ∧ sc.all.length ≤ sc.pos ∧ sc.pos ≤ l.length ∧ sc.prev < 18446744073709551616 ∧ sc.l.length ≤ sc.all.length ∧ m = l.length - sc.pos) ?_ ?_
  · exact ⟨_, scan0 l, none, 0, 0, none, 0, 0, none_, ⟨rfl, rfl, rfl, rfl, rfl, rfl, rfl, rfl, trivial⟩, ok.k1, .refl _, Nat.zero_le _, h20, firstN_lt l, Nat.le_refl _, rfl⟩
  rintro _ _ η2 ⟨sc, a8, n8, c8, a3, n3, c3, E2, hs, ok, hR, hal, hps, hpr, hll, rfl⟩ J0 hJ0
  refine .frame hs fun τ => ?_
  refine .seq <| .seq <| .r <| .w 58 .mvI <| .w 59 (.addI (b := 16)) <| .w 60 .mvI <| .w 61 (.cvi T.in3 T.in25) <| .w 62 .addI <| .w 63 .mvS <| .w 64 (.len T.el22) <| .w 65 .leq <| .nil ?_
  refine .cdr (fun C2 => ?_) (fun C2 => ?_)
  · --
    have hnf : ¬ fits l (rdN l 4 4) sc.pos sc.prev := fun h => by have := h.1; omega
    refine .exit <| hK0 _ _ <| .seq <| .r <| .w 128 .mvI <| .w 129 (.cvi T.in3 T.in25) <| .a' 130 (.lit [] (cs := []) T.el24 T.sz38 T.zr38 ok trivial) ?_
    rintro _ η3 ⟨pb1, rfl, ok, xe⟩
    refine .w 131 .mvS <| .a' 132 (.appL (l := sc.l) T.el24 T.sz38 T.by38 T.zr38 (ok.n1.n1) (by omega)) ?_
    rintro _ η4 ⟨az1, nz1, cz1, rfl, ok⟩
    refine .w 133 .mvI <| .w 134 .mvI <| .w 2 .asI <| .w 3 .asS <| .w 4 .asI <| .w 5 .asI <| .w 6 .asI <| .nil ?_
    refine .ret ⟨.tuple #[.int .i64 (((rdN l 4 4) : Nat) : Int), .slice az1 nz1 cz1, .int .u64 (sc.sure : Int), .int .i64 (sc.fin : Int), .int .i64 0], Res.many (vs := [.int .i64 (((rdN l 4 4) : Nat) : Int), .slice az1 nz1 cz1, .int .u64 (sc.sure : Int), .int .i64 (sc.fin : Int), .int .i64 0]) rfl ⟨rfl, rfl, rfl, rfl, rfl, trivial⟩ rfl, .inr (.inr ⟨by omega, by simp only [headOk, hsz, Bool.true_and, decide_eq_true hhd], sc, (az1, nz1, cz1), ⟨hR, hnf⟩, rfl, ok.chg, ok.m0.rd.mono (fun j hj => ok.fresh j (.inl hj)) (fun j hj => ok.fresh j (.inr (.inr hj)))⟩)⟩
  refine .skip <| .block fun K1 hK1 => .seq <| ?_
  have h1 := rdN_lt4 l sc.pos
  have h2 := rdN_lt4 l (sc.pos + 4)
  have h3 := rdN_lt8 l (sc.pos + 8)
  refine .r <| .w 67 .mvS <| .w 68 .mvI <| .k 69 .func (rread_any (p := sc.pos) (size := 4) (a := a) (c := c) (l := l) ok.r1 (by omega) (by omega) (by omega)) <| .w 66 .mvU <| .w 70 .ex <| .w 71 .ex <| .w 19 .asI <| .w 20 .asI <| .nil ?_
  refine .seq <| .r <| .w 73 .mvS <| .w 74 .mvI <| .w 75 (.addI (b := 4)) <| .k 76 .func (rread_any (p := (sc.pos + 4)) (size := 4) (a := a) (c := c) (l := l) ok.r1 (by omega) (by omega) (by omega)) <| .w 72 .mvU <| .w 77 .ex <| .w 78 .ex <| .w 21 .asI <| .w 22 .asI <| .nil ?_
  refine .seq <| .r <| .w 80 .mvS <| .w 81 .mvI <| .w 82 (.addI (b := 8)) <| .k 83 .func (rread_any (p := (sc.pos + 8)) (size := 8) (a := a) (c := c) (l := l) ok.r1 (by omega) (by omega) (by omega)) <| .w 79 .mvU <| .w 84 .ex <| .w 85 .ex <| .w 23 .asI <| .w 24 .asI <| .nil ?_
  refine .seq <| .r <| .w 86 .mvI <| .w 87 (.cvi T.in3 T.in25) <| .w 88 .mvI <| .w 89 (.cvi T.in3 T.in25) <| .a' 90 (.lit [] (cs := []) T.el22 T.sz5 T.zr5 ok trivial) ?_
  rintro _ η5 ⟨pb2, rfl, ok, xe⟩
  have ok := ok.cx (ys := ([] : List UInt8).map bv) rfl
  refine .w 91 .mvS <| .w 92 .mvI <| .w 93 (.addI (b := 16)) <| .w 94 .mvI <| .w 95 (.addI (b := 16)) <| .w 96 .mvI <| .w 97 (.cvi T.in3 T.in25) <| .w 98 .addI <| .w 99 (.slh (sc.pos + 16) (sc.pos + 16 + (rdN l 4 4)) T.el22 T.sz5) <| ?_
  generalize hc1 : cutA a (sc.pos + 16) c 1 = ca1
  generalize hn1 : (sc.pos + 16 + (rdN l 4 4)) - (sc.pos + 16) = cn1
  obtain rfl : cn1 = ((l.drop (sc.pos + 16)).take (rdN l 4 4)).length := by rw [← hn1]; simp; omega
  have ok := ok.d1 (rdI (fun j => F j ∧ j < h.size) (fun j => E j ∧ j < h.size) (ca1, ((l.drop (sc.pos + 16)).take (rdN l 4 4)).length, c - (sc.pos + 16)) ((l.drop (sc.pos + 16)).take (rdN l 4 4))) (by have h1 := ok.r1.cut (i := (sc.pos + 16)) (j := (sc.pos + 16 + (rdN l 4 4))) (by omega) (by omega); rw [show ((l).drop (sc.pos + 16)).take ((sc.pos + 16 + (rdN l 4 4)) - (sc.pos + 16)) = (l.drop (sc.pos + 16)).take (rdN l 4 4) from by congr 1; omega] at h1; rw [← hc1, ← hn1]; exact h1) (fun _ h => h)
  refine .a' 100 (.app (news := ((l.drop (sc.pos + 16)).take (rdN l 4 4)).map bv) T.el22 T.sz5 T.by5 T.zr5 ok (ok.r0).by bv_all (by simp only [List.length_map, List.length_append, List.length_take, List.length_cons, List.length_nil, List.length_replicate, List.length_range, fixedN_len, sealN_len]; omega)) ?_
  rintro _ η6 ⟨ya2, yn1, yc2, rfl, ok, ap⟩
  have ok := ok.cx (ys := (((l.drop (sc.pos + 16)).take (rdN l 4 4))).map bv) (by simp [bv])
  obtain rfl : yn1 = (((l.drop (sc.pos + 16)).take (rdN l 4 4))).length := ok.lenB
  refine .w 101 (.bd #[.int .i64 (((rdN l sc.pos 4) : Nat) : Int), .int .i64 (((rdN l (sc.pos + 4) 4) : Nat) : Int), .slice ya2 ((((l.drop (sc.pos + 16)).take (rdN l 4 4))).length) yc2] T.zr38 T.pl38 rfl) <| .a' 25 (.alA T.zr38 ok) ?_
  rintro _ η7 ⟨pb3, rfl, ok, xe⟩
  refine .ur' (.stW (vs := [.int .i64 (((rdN l sc.pos 4) : Nat) : Int), .int .i64 (((rdN l (sc.pos + 4) 4) : Nat) : Int), .slice ya2 ((((l.drop (sc.pos + 16)).take (rdN l 4 4))).length) yc2]) T.sz38 ok (oneL rfl)) ?_
  rintro η8 ⟨ok, cg⟩
  refine .nil ?_
  refine .seq <| .seq <| .r <| .w 102 (.ldb T.ag38 ok.m0 T.sz38) <| .c' 103 .func (may_any (z1 := (((rdN l sc.pos 4) : Nat) : Int)) (z2 := (((rdN l (sc.pos + 4) 4) : Nat) : Int)) (a := ya2) (c := yc2) (l := ((l.drop (sc.pos + 16)).take (rdN l 4 4))) (RdL.ofCapB (v := (ya2, (((l.drop (sc.pos + 16)).take (rdN l 4 4))).length, yc2)) (l := ((l.drop (sc.pos + 16)).take (rdN l 4 4))) ok.m1)) ?_
  rintro _ η9 ⟨rfl, hx⟩
  have ok := ok.ext hx
  refine .w 104 .not <| .w 105 .mvB <| .spl (fun G105 => ?_) (fun G105 => ?_)
  ·
    have hnf : ¬ fits l (rdN l 4 4) sc.pos sc.prev := fun h => by have h9 := h.2.1; simp only [rawF] at h9; rw [h9] at G105; cases G105
    refine .x 106 <| .x 107 <| .x 108 <| .x 109 <| .x 110 <| .w 111 .pkt <| .nil ?_
    refine .ct <| .exit <| hK0 _ _ <| .seq <| .r <| .w 128 .mvI <| .w 129 (.cvi T.in3 T.in25) <| .a' 130 (.lit [] (cs := []) T.el24 T.sz38 T.zr38 ok trivial) ?_
    rintro _ η10 ⟨pb4, rfl, ok, xe⟩
    refine .w 131 .mvS <| .a' 132 (.appL (l := sc.l) T.el24 T.sz38 T.by38 T.zr38 (ok.n3.n1) (by omega)) ?_
    rintro _ η11 ⟨az2, nz2, cz2, rfl, ok⟩
    refine .w 133 .mvI <| .w 134 .mvI <| .w 2 .asI <| .w 3 .asS <| .w 4 .asI <| .w 5 .asI <| .w 6 .asI <| .nil ?_
    refine .ret ⟨.tuple #[.int .i64 (((rdN l 4 4) : Nat) : Int), .slice az2 nz2 cz2, .int .u64 (sc.sure : Int), .int .i64 (sc.fin : Int), .int .i64 0], Res.many (vs := [.int .i64 (((rdN l 4 4) : Nat) : Int), .slice az2 nz2 cz2, .int .u64 (sc.sure : Int), .int .i64 (sc.fin : Int), .int .i64 0]) rfl ⟨rfl, rfl, rfl, rfl, rfl, trivial⟩ rfl, .inr (.inr ⟨by omega, by simp only [headOk, hsz, Bool.true_and, decide_eq_true hhd], sc, (az2, nz2, cz2), ⟨hR, hnf⟩, rfl, ok.chg, ok.m0.rd.mono (fun j hj => ok.fresh j (.inl hj)) (fun j hj => ok.fresh j (.inr (.inr hj)))⟩)⟩
  refine .w 106 .mvI <| .w 107 (.ldb T.ag38 ok.m0 T.sz38) <| .c' 108 .func (rlink_any (p := (rdN l sc.pos 4)) (q := (rdN l (sc.pos + 4) 4)) (r := sc.prev) (by omega) (by omega) (by omega) (by simp <;> omega) (a := ya2) (c := yc2) (l := ((l.drop (sc.pos + 16)).take (rdN l 4 4))) (RdL.ofCapB (v := (ya2, (((l.drop (sc.pos + 16)).take (rdN l 4 4))).length, yc2)) (l := ((l.drop (sc.pos + 16)).take (rdN l 4 4))) ok.m1)) ?_
  rintro _ η12 ⟨rfl, hx⟩
  have ok := ok.ext hx
  refine .w 109 .mvI <| .w 110 .neq <| .w 111 .pkf <| .nil ?_
  refine .cd (fun C3 => ?_) (fun C3 => ?_)
  · --
    have hnf : ¬ fits l (rdN l 4 4) sc.pos sc.prev := fun h => C3 (by have h9 := h.2.2; simp only [rawF] at h9; rw [h9])
    refine .exit <| hK0 _ _ <| .seq <| .r <| .w 128 .mvI <| .w 129 (.cvi T.in3 T.in25) <| .a' 130 (.lit [] (cs := []) T.el24 T.sz38 T.zr38 ok trivial) ?_
    rintro _ η13 ⟨pb5, rfl, ok, xe⟩
    refine .w 131 .mvS <| .a' 132 (.appL (l := sc.l) T.el24 T.sz38 T.by38 T.zr38 (ok.n3.n1) (by omega)) ?_
    rintro _ η14 ⟨az3, nz3, cz3, rfl, ok⟩
    refine .w 133 .mvI <| .w 134 .mvI <| .w 2 .asI <| .w 3 .asS <| .w 4 .asI <| .w 5 .asI <| .w 6 .asI <| .nil ?_
    refine .ret ⟨.tuple #[.int .i64 (((rdN l 4 4) : Nat) : Int), .slice az3 nz3 cz3, .int .u64 (sc.sure : Int), .int .i64 (sc.fin : Int), .int .i64 0], Res.many (vs := [.int .i64 (((rdN l 4 4) : Nat) : Int), .slice az3 nz3 cz3, .int .u64 (sc.sure : Int), .int .i64 (sc.fin : Int), .int .i64 0]) rfl ⟨rfl, rfl, rfl, rfl, rfl, trivial⟩ rfl, .inr (.inr ⟨by omega, by simp only [headOk, hsz, Bool.true_and, decide_eq_true hhd], sc, (az3, nz3, cz3), ⟨hR, hnf⟩, rfl, ok.chg, ok.m0.rd.mono (fun j hj => ok.fresh j (.inl hj)) (fun j hj => ok.fresh j (.inr (.inr hj)))⟩)⟩
  have hfit : fits l (rdN l 4 4) sc.pos sc.prev := ⟨by omega, by simpa [rawF] using G105, by simp only [rawF]; omega⟩
  have hfit1 := hfit.1
  refine .skip <| .seq <| .r <| .w 112 .mvI <| .w 13 .asI <| .nil ?_
  refine .seq <| .r <| .w 113 .mvI <| .w 114 (.addI (b := 16)) <| .w 115 .mvI <| .w 116 (.cvi T.in3 T.in25) <| .w 117 .addI <| .w 15 .asI <| .nil ?_
  refine .seq <| .r <| .w 118 .mvS <| .w 119 (.ldb T.ag38 ok.m0 T.sz38) <| .a' 120 (.lit [.tmp 119] (cs := [.int .i64 (((rdN l sc.pos 4) : Nat) : Int), .int .i64 (((rdN l (sc.pos + 4) 4) : Nat) : Int), .slice ya2 ((((l.drop (sc.pos + 16)).take (rdN l 4 4))).length) yc2]) T.el24 T.sz38 T.zr38 ok ⟨rfl, trivial⟩) ?_
  rintro _ η15 ⟨pb6, rfl, ok, xe⟩
  refine .a' 121 (.appA (rawF l (rdN l 4 4) sc.pos) T.el24 T.sz38 T.by38 T.zr38 (ok.n2.n3) ((ok.n2.n3.m2).sl) (Fr.rd_cap (ok.n2.n3).m1) (by omega)) ?_
  rintro _ η16 ⟨az4, nz4, cz4, rfl, ok⟩
  refine .w 18 .asS <| .nil ?_
  refine .seq <| .r <| .w 122 (.fa T.fd38_1) <| .w 123 (.ldx T.ag3 ok.m2) <| .w 124 .gtr <| .nil ?_
  refine .cd (fun C4 => ?_) (fun C4 => ?_)
  · --
    have hst : stepF (rdN l 4 4) sc (rawF l (rdN l 4 4) sc.pos) = ⟨sc.pos + 16 + (rdN l 4 4), rdN l (sc.pos + 8) 8, sc.all ++ [(rawF l (rdN l 4 4) sc.pos)], sc.all ++ [(rawF l (rdN l 4 4) sc.pos)], rdN l (sc.pos + 8) 8, sc.pos + 16 + (rdN l 4 4)⟩ := by simp only [stepF, hfit.2.2]; rw [if_pos (by simp only [rawF]; omega)]
    refine .seq <| .r <| .w 125 .mvS <| .w 17 .asS <| ?_
    have ok := (ok).accEq
    refine .nil ?_
    refine .seq <| .r <| .w 126 .mvI <| .w 14 .asI <| .nil ?_
    refine .r <| .w 127 .mvI <| .w 16 .asI <| .nil ?_
    refine .end <| hK1 _ _ <| .end <| hJ0 _ _ _ ⟨⟨sc.pos + 16 + (rdN l 4 4), rdN l (sc.pos + 8) 8, sc.all ++ [(rawF l (rdN l 4 4) sc.pos)], sc.all ++ [(rawF l (rdN l 4 4) sc.pos)], rdN l (sc.pos + 8) 8, sc.pos + 16 + (rdN l 4 4)⟩, az4, nz4, cz4, az4, nz4, cz4, _, ⟨rfl, rfl, rfl, rfl, rfl, rfl, rfl, rfl, trivial⟩, ok.k1.tR, hst ▸ hR.step hfit, (by simp only [List.length_append, List.length_singleton]; omega), (by simp only; omega), rdN_lt8 _ _, (by simp only [List.length_append, List.length_singleton]; omega), rfl⟩ (by simp only; omega)
  have hst : stepF (rdN l 4 4) sc (rawF l (rdN l 4 4) sc.pos) = ⟨sc.pos + 16 + (rdN l 4 4), rdN l (sc.pos + 8) 8, sc.all ++ [(rawF l (rdN l 4 4) sc.pos)], sc.l, sc.sure, sc.fin⟩ := by simp only [stepF, hfit.2.2]; rw [if_neg (by simp only [rawF]; omega)]
  refine .skip <| .end <| hK1 _ _ <| .end <| hJ0 _ _ _ ⟨⟨sc.pos + 16 + (rdN l 4 4), rdN l (sc.pos + 8) 8, sc.all ++ [(rawF l (rdN l 4 4) sc.pos)], sc.l, sc.sure, sc.fin⟩, az4, nz4, cz4, a3, n3, c3, _, ⟨rfl, rfl, rfl, rfl, rfl, rfl, rfl, rfl, trivial⟩, ok.k1.tR, hst ▸ hR.step hfit, (by simp only [List.length_append, List.length_singleton]; omega), (by simp only; omega), rdN_lt8 _ _, (by simp only [List.length_append, List.length_singleton]; omega), rfl⟩ (by simp only; omega)

end Go.Proofs.Ytpebbkhainpfaaa
