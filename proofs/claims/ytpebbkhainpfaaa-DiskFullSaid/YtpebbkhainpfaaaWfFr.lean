/- Copies of bytes and of slices; the reader of a log: frame. Conditions: the bytes are readable and no part of the reader. -/
import Derived.Test.YtpebbkhainpfaaaWfRd
namespace Go.Proofs.Ytpebbkhainpfaaa
open Go Go.HL
theorem RdL.isNone {α : Type} [Rep α] {h : Heap} {F E : Nat → Prop} {a : Option Addr} {n c : Nat} {l : List α} (r : RdL h F E (a, n, c) l) (ha : a.isNone = true) : l = [] := by
  rcases Nat.eq_zero_or_pos l.length with h0 | h0
  · exact List.eq_nil_of_length_eq_zero h0
  · obtain ⟨b, o, e, _⟩ := r.at' h0
    simp only at e
    subst e; cases ha

set_option maxRecDepth 100000 in
set_option maxHeartbeats 2000000 in
theorem sclone_any {h : Heap} {F E : Nat → Prop} {a : Option Addr} {c : Nat} {l : List UInt8} (hl : RdL h F E (a, l.length, c) l) (hN : l.length ≤ 1000000000) :
    HC Try.prog 54 #[.slice a l.length c] h (fun v h' => Own h h' 1 5 v (l.map bv)) := by
  have hc2 := hl.m
  have hc1 : l.length ≤ c := hl.c
  simp only at hc2
  have ok := (Hp.nil h none_).arg hl
  refine HC.go Try.func54 8 ?_
  refine .seq <| .r <| .w 2 .asS <| .nil ?_
  refine .seq <| .seq <| .r <| .w 3 .mvS <| .w 4 (.sEq T.el22) <| .nil ?_
  refine .cond (fun C0 => ?_) (fun C0 => ?_)
  · --
    obtain rfl := RdL.isNone hl C0
    refine .seq <| .r <| .w 2 .asS <| .nil ?_
    refine .ret ⟨.slice none 0 0, Res.one rfl rfl, Own.nil ok.chg _ _⟩
  refine .skip <| .seq <| .r <| .a' 5 (.lit [] (cs := []) T.el22 T.sz5 T.zr5 ok trivial) ?_
  rintro _ η1 ⟨pb1, rfl, ok, xe⟩
  have ok := ok.cx (ys := ([] : List UInt8).map bv) rfl
  refine .w 6 .mvS <| .a' 7 (.app (news := l.map bv) T.el22 T.sz5 T.by5 T.zr5 ok (ok.r0).by bv_all (by simp only [List.length_map, List.length_append, List.length_take, List.length_cons, List.length_nil, List.length_replicate, List.length_range, fixedN_len, sealN_len]; omega)) ?_
  rintro _ η2 ⟨ya1, yn1, yc1, rfl, ok, ap⟩
  have ok := ok.cx (ys := (l).map bv) (by simp [bv])
  obtain rfl : yn1 = (l).length := ok.lenB
  refine .w 2 .asS <| .nil ?_
  refine .ret ⟨.slice ya1 ((l).length) yc1, Res.one rfl rfl, ok.toOwn⟩

set_option maxRecDepth 100000 in
set_option maxHeartbeats 2000000 in
theorem bclone_any {h : Heap} {F E : Nat → Prop} {a : Option Addr} {c : Nat} {l : List UInt8} (hl : RdL h F E (a, l.length, c) l) (hN : l.length ≤ 1000000000) :
    HC Try.prog 67 #[.slice a l.length c] h (fun v h' => Own h h' 1 5 v (l.map bv)) := by
  have hc2 := hl.m
  have hc1 : l.length ≤ c := hl.c
  simp only at hc2
  have ok := (Hp.nil h none_).arg hl
  refine HC.go Try.func67 8 ?_
  refine .seq <| .r <| .w 2 .asS <| .nil ?_
  refine .seq <| .seq <| .r <| .w 3 .mvS <| .w 4 (.sEq T.el22) <| .nil ?_
  refine .cond (fun C0 => ?_) (fun C0 => ?_)
  · --
    obtain rfl := RdL.isNone hl C0
    refine .seq <| .r <| .w 2 .asS <| .nil ?_
    refine .ret ⟨.slice none 0 0, Res.one rfl rfl, Own.nil ok.chg _ _⟩
  refine .skip <| .seq <| .r <| .a' 5 (.lit [] (cs := []) T.el22 T.sz5 T.zr5 ok trivial) ?_
  rintro _ η1 ⟨pb1, rfl, ok, xe⟩
  have ok := ok.cx (ys := ([] : List UInt8).map bv) rfl
  refine .w 6 .mvS <| .a' 7 (.app (news := l.map bv) T.el22 T.sz5 T.by5 T.zr5 ok (ok.r0).by bv_all (by simp only [List.length_map, List.length_append, List.length_take, List.length_cons, List.length_nil, List.length_replicate, List.length_range, fixedN_len, sealN_len]; omega)) ?_
  rintro _ η2 ⟨ya1, yn1, yc1, rfl, ok, ap⟩
  have ok := ok.cx (ys := (l).map bv) (by simp [bv])
  obtain rfl : yn1 = (l).length := ok.lenB
  refine .w 2 .asS <| .nil ?_
  refine .ret ⟨.slice ya1 ((l).length) yc1, Res.one rfl rfl, ok.toOwn⟩

set_option maxRecDepth 100000 in
set_option maxHeartbeats 2000000 in
theorem frame_no {h : Heap} {F E : Nat → Prop} {r c pos size prev salt : Nat} {a : Option Addr} {l : List UInt8} (hl : RdL h F E (a, l.length, c) l) (hb : (boxI r 92 [.slice a l.length c, .int .i64 (pos : Int), .int .i64 (size : Int), .int .u64 (prev : Int), .int .u64 (salt : Int)]).p h) (hd : ∀ j, F j ∨ E j → j ≠ r) (hpos : pos ≤ l.length) (hsz : size < 4294967296) (hpv : prev < 18446744073709551616) (hN : l.length ≤ 10000000) (hn : ¬ fits l size pos prev) :
    HC Try.prog 48 #[.pointer (some ⟨r, 0, none⟩)] h (fun v h' => v = .tuple #[.agg #[.int .i64 0, .int .i64 0, .slice none 0 0], .bool false] ∧ Chg (fun j => j = r) h h' ∧ (boxI r 92 [.slice a l.length c, .int .i64 (pos : Int), .int .i64 (size : Int), .int .u64 (prev : Int), .int .u64 (salt : Int)]).p h') := by
  have hc2 := hl.m
  have hc1 : l.length ≤ c := hl.c
  simp only at hc2
  have ok := ((Hp.nil h (fun j => j = r)).arg hl).obj (boxI r 92 [.slice a l.length c, .int .i64 (pos : Int), .int .i64 (size : Int), .int .u64 (prev : Int), .int .u64 (salt : Int)]) hb (fun j e => ⟨e ▸ block_lt hb, e⟩) (by simp) (by
    intro b hm j e hj
    rcases List.mem_cons.1 hm with rfl | hm
    · exact hd j (hj.imp And.left And.left) e
    · cases hm)
  have h81 := rdN_lt8 l (pos + 8)
  have h41 := rdN_lt4 l pos
  have h42 := rdN_lt4 l (pos + 4)
  refine HC.go Try.func48 83 ?_
  refine .seq <| .r <| .a' 2 (.alA T.zr38 ok) ?_
  rintro _ η1 ⟨pb1, rfl, ok, xe⟩
  refine .w 3 .asB <| .nil ?_
  refine .seq <| .q (hm := mixed) <| .w 7 .mvP <| .w 8 .nil <| .w 9 (.fa T.fd92_1) <| .w 10 (.ldx T.ag3 ok.m1) <| .w 11 (.addI (b := 16)) <| .w 12 .mvP <| .w 13 .nil <| .w 14 (.fa T.fd92_2) <| .w 15 (.ldx T.ag3 ok.m1) <| .w 16 .addI <| .w 4 .asI <| .nil ?_
  refine .seq <| .seq <| .r <| .w 17 .mvI <| .w 18 .mvP <| .w 19 .nil <| .w 20 (.fa T.fd92_0) <| .w 21 (.ldx T.ag22 ok.m1) <| .w 22 (.len T.el22) <| .w 23 .gtr <| .nil ?_
  refine .cd (fun C0 => ?_) (fun C0 => ?_)
  · --
    refine .seq <| .r <| .w 24 (.bd #[.int .i64 0, .int .i64 0, .slice none 0 0] T.zr38 T.pl38 rfl) <| .ur' (.stW (vs := [.int .i64 0, .int .i64 0, .slice none 0 0]) T.sz38 ok (oneL rfl)) ?_
    rintro η2 ⟨ok, cg⟩
    refine .w 3 .asB <| .nil ?_
    refine .ret ⟨.tuple #[.agg #[.int .i64 0, .int .i64 0, .slice none 0 0], .bool false], Res.many (vs := [.agg #[.int .i64 0, .int .i64 0, .slice none 0 0], .bool false]) rfl ⟨⟨_, rfl, load_ag T.ag38 ok.m0 T.sz38⟩, rfl, trivial⟩ rfl, ⟨rfl, ok.chg, ok.m1⟩⟩
  have hfit : pos + 16 + size ≤ l.length := by omega
  refine .skip <| .seq <| .join (fun s hh => ∃ (b5 : Nat) (a1 : Option Addr) (c1 : Nat), Has s [(0, .pointer (some ⟨r, 0, none⟩)), (2, .pointer (some ⟨pb1, 0, none⟩)), (4, .int .i64 (((pos + 16) + size : Nat) : Int)), (5, .pointer (some ⟨b5, 0, none⟩))] ∧ Hp h (fun j => j = r) [boxI b5 38 [.int .i64 ((rdN l pos 4 : Nat) : Int), .int .i64 ((rdN l (pos + 4) 4 : Nat) : Int), .slice a1 (((l.drop (pos + 16)).take size).length) c1], capI 1 5 (a1, ((l.drop (pos + 16)).take size).length, c1) (((l.drop (pos + 16)).take size).map bv), boxI pb1 38 [.int .i64 0, .int .i64 0, .slice none 0 0], boxI r 92 [.slice a l.length c, .int .i64 (pos : Int), .int .i64 (size : Int), .int .u64 (prev : Int), .int .u64 (salt : Int)]] [rdI (fun j => F j ∧ j < h.size) (fun j => E j ∧ j < h.size) (a, l.length, c) l] hh) ?_ ?_
  · --
    refine .a 29 (fun fl hh => cond fl True (Hp h (fun j => j = r) [boxI pb1 38 [.int .i64 0, .int .i64 0, .slice none 0 0], boxI r 92 [.slice a l.length c, .int .i64 (pos : Int), .int .i64 (size : Int), .int .u64 (prev : Int), .int .u64 (salt : Int)]] [rdI (fun j => F j ∧ j < h.size) (fun j => E j ∧ j < h.size) (a, l.length, c) l] hh)) mixed ?_
    have hS := ok
    refine .g 0 false rfl 25 hS (fun _ => .mvP) <| .g 1 false rfl 26 hS (fun _ => .mvP) <| .g 2 false rfl 27 hS (fun _ => .nil) <| .g 3 false rfl 28 hS (fun _ => .fa T.fd92_1) <| .l 4 false rfl 29 hS (fun _ hS => .ldx T.ag3 hS.m1) <| .g 7 false rfl 32 hS (fun _ => .mvP) <| .g 8 false rfl 33 hS (fun _ => .mvP) <| .g 9 false rfl 34 hS (fun _ => .nil) <| .g 10 false rfl 35 hS (fun _ => .fa T.fd92_1) <| .l 11 false rfl 36 hS (fun _ hS => .ldx T.ag3 hS.m1) <| .g 12 false rfl 37 hS (fun _ => .addI (b := 4)) <| .g 15 false rfl 40 hS (fun _ => .mvP) <| .g 16 false rfl 41 hS (fun _ => .nil) <| .g 17 false rfl 42 hS (fun _ => .fa T.fd92_0) <| .l 18 false rfl 43 hS (fun _ hS => .ldx T.ag22 hS.m1) <| .g 19 false rfl 44 hS (fun _ => .mvP) <| .g 20 false rfl 45 hS (fun _ => .nil) <| .g 21 false rfl 46 hS (fun _ => .fa T.fd92_1) <| .l 22 false rfl 47 hS (fun _ hS => .ldx T.ag3 hS.m1) <| .g 23 false rfl 48 hS (fun _ => .addI (b := 16)) <| .g 24 false rfl 49 hS (fun _ => .mvI) <| .g 25 false rfl 50 hS (fun _ => .slh (pos + 16) (pos + 16 + size) T.el22 T.sz5) <| ?_
    generalize hc1 : cutA a (pos + 16) c 1 = ca1
    generalize hn1 : (pos + 16 + size) - (pos + 16) = cn1
    obtain rfl : cn1 = ((l.drop (pos + 16)).take size).length := by rw [← hn1]; simp <;> omega
    have ok := ok.d0 (rdI (fun j => F j ∧ j < h.size) (fun j => E j ∧ j < h.size) (ca1, ((l.drop (pos + 16)).take size).length, c - (pos + 16)) ((l.drop (pos + 16)).take size)) (by have h1 := ok.r0.cut (i := (pos + 16)) (j := (pos + 16 + size)) (by omega) (by omega); rw [show ((l).drop (pos + 16)).take ((pos + 16 + size) - (pos + 16)) = (l.drop (pos + 16)).take size from by congr 1; omega] at h1; rw [← hc1, ← hn1]; exact h1) (fun _ h => h)
    refine .o2 5 28 ?_ ?_
    ·
      refine .k false rfl 30 .func (number_any (p := pos) (k := 4) (l := l) ok.r1 ok.m1 (by omega) (by omega) (by omega)) hS <| .g 6 false rfl 31 hS (fun _ => .cvi T.in3 T.in25) <| .o2 13 28 ?_ ?_
      ·
        refine .k false rfl 38 .func (number_any (p := (pos + 4)) (k := 4) (l := l) ok.r1 ok.m1 (by omega) (by omega) (by omega)) hS <| .g 14 false rfl 39 hS (fun _ => .cvi T.in3 T.in25) <| .o2 26 28 ?_ ?_
        ·
          refine .c' false rfl 51 .func (sclone_any (a := ca1) (c := c - (pos + 16)) (l := (l.drop (pos + 16)).take size) ok.r0 (by simp; omega)) ?_
          rintro _ η3 own
          obtain ⟨ya1, yc1, rfl⟩ := own.formB
          have ok := ok.own own
          refine ⟨ok.n2.n2.k2.tR, ?_⟩
          have hS := ok.n2.n2.k2.tR
          refine .g 27 false rfl 52 hS (fun _ => .bd #[.int .i64 (((rdN l pos 4) : Nat) : Int), .int .i64 (((rdN l (pos + 4) 4) : Nat) : Int), .slice ya1 (((l.drop (pos + 16)).take size).length) yc1] T.zr38 T.pl38 rfl) <| .o1 28 <| .a' false rfl 5 (.alA T.zr38 ok) ?_
          rintro _ η4 ⟨pb2, rfl, ok, xe⟩
          refine ⟨ok.n3.n3.k2.tR, ?_⟩
          have hS := ok.n3.n3.k2.tR
          refine .o1 29 <| .ur' true rfl (.stW (vs := [.int .i64 (((rdN l pos 4) : Nat) : Int), .int .i64 (((rdN l (pos + 4) 4) : Nat) : Int), .slice ya1 (((l.drop (pos + 16)).take size).length) yc1]) T.sz38 ok (oneL rfl)) ?_
          rintro η5 ⟨ok, cg⟩
          refine ⟨trivial, ?_⟩
          refine .e ?_
          refine .end <| ⟨pb2, ya1, yc1, ⟨rfl, rfl, rfl, rfl, trivial⟩, ok.n3.n3.n3.n3.tR⟩
        ·
          refine .a' false rfl 5 (.alA T.zr38 ok) ?_
          rintro _ η6 ⟨pb3, rfl, ok, xe⟩
          refine ⟨ok.n2.n2.k2.tR, ?_⟩
          have hS := ok.n2.n2.k2.tR
          refine .o1 26 <| .c' false rfl 51 .func (sclone_any (a := ca1) (c := c - (pos + 16)) (l := (l.drop (pos + 16)).take size) ok.r0 (by simp; omega)) ?_
          rintro _ η7 own
          obtain ⟨ya2, yc2, rfl⟩ := own.formB
          have ok := ok.own own
          refine ⟨ok.n3.n3.k2.tR, ?_⟩
          have hS := ok.n3.n3.k2.tR
          refine .g 27 false rfl 52 hS (fun _ => .bd #[.int .i64 (((rdN l pos 4) : Nat) : Int), .int .i64 (((rdN l (pos + 4) 4) : Nat) : Int), .slice ya2 (((l.drop (pos + 16)).take size).length) yc2] T.zr38 T.pl38 rfl) <| .o1 29 <| .ur' true rfl (.stW (vs := [.int .i64 (((rdN l pos 4) : Nat) : Int), .int .i64 (((rdN l (pos + 4) 4) : Nat) : Int), .slice ya2 (((l.drop (pos + 16)).take size).length) yc2]) T.sz38 ok.n1 (oneL rfl)) ?_
          rintro η8 ⟨ok, cg⟩
          refine ⟨trivial, ?_⟩
          refine .e ?_
          refine .end <| ⟨pb3, ya2, yc2, ⟨rfl, rfl, rfl, rfl, trivial⟩, ok.n3.n3.n3.n3.tR⟩
      ·
        refine .a' false rfl 5 (.alA T.zr38 ok) ?_
        rintro _ η9 ⟨pb4, rfl, ok, xe⟩
        refine ⟨ok.n2.n2.k2.tR, ?_⟩
        have hS := ok.n2.n2.k2.tR
        refine .o1 13 <| .k false rfl 38 .func (number_any (p := (pos + 4)) (k := 4) (l := l) ok.r1 ok.m2 (by omega) (by omega) (by omega)) hS <| .g 14 false rfl 39 hS (fun _ => .cvi T.in3 T.in25) <| .o1 26 <| .c' false rfl 51 .func (sclone_any (a := ca1) (c := c - (pos + 16)) (l := (l.drop (pos + 16)).take size) ok.r0 (by simp; omega)) ?_
        rintro _ η10 own
        obtain ⟨ya3, yc3, rfl⟩ := own.formB
        have ok := ok.own own
        refine ⟨ok.n3.n3.k2.tR, ?_⟩
        have hS := ok.n3.n3.k2.tR
        refine .g 27 false rfl 52 hS (fun _ => .bd #[.int .i64 (((rdN l pos 4) : Nat) : Int), .int .i64 (((rdN l (pos + 4) 4) : Nat) : Int), .slice ya3 (((l.drop (pos + 16)).take size).length) yc3] T.zr38 T.pl38 rfl) <| .o1 29 <| .ur' true rfl (.stW (vs := [.int .i64 (((rdN l pos 4) : Nat) : Int), .int .i64 (((rdN l (pos + 4) 4) : Nat) : Int), .slice ya3 (((l.drop (pos + 16)).take size).length) yc3]) T.sz38 ok.n1 (oneL rfl)) ?_
        rintro η11 ⟨ok, cg⟩
        refine ⟨trivial, ?_⟩
        refine .e ?_
        refine .end <| ⟨pb4, ya3, yc3, ⟨rfl, rfl, rfl, rfl, trivial⟩, ok.n3.n3.n3.n3.tR⟩
    ·
      refine .a' false rfl 5 (.alA T.zr38 ok) ?_
      rintro _ η12 ⟨pb5, rfl, ok, xe⟩
      refine ⟨ok.n2.n2.k2.tR, ?_⟩
      have hS := ok.n2.n2.k2.tR
      refine .o1 5 <| .k false rfl 30 .func (number_any (p := pos) (k := 4) (l := l) ok.r1 ok.m2 (by omega) (by omega) (by omega)) hS <| .g 6 false rfl 31 hS (fun _ => .cvi T.in3 T.in25) <| .o1 13 <| .k false rfl 38 .func (number_any (p := (pos + 4)) (k := 4) (l := l) ok.r1 ok.m2 (by omega) (by omega) (by omega)) hS <| .g 14 false rfl 39 hS (fun _ => .cvi T.in3 T.in25) <| .o1 26 <| .c' false rfl 51 .func (sclone_any (a := ca1) (c := c - (pos + 16)) (l := (l.drop (pos + 16)).take size) ok.r0 (by simp; omega)) ?_
      rintro _ η13 own
      obtain ⟨ya4, yc4, rfl⟩ := own.formB
      have ok := ok.own own
      refine ⟨ok.n3.n3.k2.tR, ?_⟩
      have hS := ok.n3.n3.k2.tR
      refine .g 27 false rfl 52 hS (fun _ => .bd #[.int .i64 (((rdN l pos 4) : Nat) : Int), .int .i64 (((rdN l (pos + 4) 4) : Nat) : Int), .slice ya4 (((l.drop (pos + 16)).take size).length) yc4] T.zr38 T.pl38 rfl) <| .o1 29 <| .ur' true rfl (.stW (vs := [.int .i64 (((rdN l pos 4) : Nat) : Int), .int .i64 (((rdN l (pos + 4) 4) : Nat) : Int), .slice ya4 (((l.drop (pos + 16)).take size).length) yc4]) T.sz38 ok.n1 (oneL rfl)) ?_
      rintro η14 ⟨ok, cg⟩
      refine ⟨trivial, ?_⟩
      refine .e ?_
      refine .end <| ⟨pb5, ya4, yc4, ⟨rfl, rfl, rfl, rfl, trivial⟩, ok.n3.n3.n3.n3.tR⟩
  rintro s η15 ⟨b5, a1, c1, hs, ok⟩
  refine .frame hs fun τ => ?_
  refine .seq <| .t 5 mixed ?_
  simp only [List.take_succ_cons, List.take_zero, List.drop_succ_cons, List.drop_zero]
  refine .w 53 .mvP <| .w 54 .nil <| .w 55 (.fa T.fd92_3) <| .w 56 (.ldx T.ag25 ok.m3) <| .w 57 (.ldb T.ag38 ok.m0 T.sz38) <| .nil ?_
  refine .c' 58 .func (link_any (p := (rdN l pos 4)) (q := (rdN l (pos + 4) 4)) (r := prev) (by omega) (by omega) (by omega) (by simp; omega) (a := a1) (c := c1) (l := ((l.drop (pos + 16)).take size)) (RdL.ofCapB (v := (a1, ((l.drop (pos + 16)).take size).length, c1)) (l := ((l.drop (pos + 16)).take size)) ok.m1)) ?_
  rintro _ η16 ⟨rfl, hx⟩
  have ok := ok.ext hx
  refine .w 6 .asI <| .nil ?_
  refine .seq <| .seq <| .r <| .w 59 (.ldb T.ag38 ok.m0 T.sz38) <| .c' 60 .func (isframe_any (z1 := ((rdN l pos 4 : Nat) : Int)) (z2 := ((rdN l (pos + 4) 4 : Nat) : Int)) (a := a1) (c := c1) (l := ((l.drop (pos + 16)).take size)) (RdL.ofCapB (v := (a1, ((l.drop (pos + 16)).take size).length, c1)) (l := ((l.drop (pos + 16)).take size)) ok.m1)) ?_
  rintro _ η17 ⟨rfl, hx⟩
  have ok := ok.ext hx
  refine .w 61 .not <| .w 62 .mvB <| .spl (fun G62 => ?_) (fun G62 => ?_)
  ·
    refine .x 63 <| .x 64 <| .x 65 <| .x 66 <| .x 67 <| .x 68 <| .x 69 <| .x 70 <| .x 71 <| .w 72 .pkt <| .nil ?_
    refine .ct <| .seq <| .r <| .w 73 (.bd #[.int .i64 0, .int .i64 0, .slice none 0 0] T.zr38 T.pl38 rfl) <| .ur' (.stW (vs := [.int .i64 0, .int .i64 0, .slice none 0 0]) T.sz38 ok.n2 (oneL rfl)) ?_
    rintro η18 ⟨ok, cg⟩
    refine .w 3 .asB <| .nil ?_
    refine .ret ⟨.tuple #[.agg #[.int .i64 0, .int .i64 0, .slice none 0 0], .bool false], Res.many (vs := [.agg #[.int .i64 0, .int .i64 0, .slice none 0 0], .bool false]) rfl ⟨⟨_, rfl, load_ag T.ag38 ok.m0 T.sz38⟩, rfl, trivial⟩ rfl, ⟨rfl, ok.chg, ok.m3⟩⟩
  refine .w 63 .mvI <| .w 64 .mvP <| .w 65 .mvP <| .w 66 .nil <| .w 67 (.fa T.fd92_1) <| .w 68 (.ldx T.ag3 ok.m3) <| .w 69 (.addI (b := 8)) <| .k 70 .func (number_any (p := (pos + 8)) (k := 8) (l := l) ok.r0 ok.m3 (by omega) (by omega) (by omega)) <| .w 71 .neq <| .w 72 .pkf <| .nil ?_
  refine .cd (fun C1 => ?_) (fun C1 => ?_)
  · --
    refine .seq <| .r <| .w 73 (.bd #[.int .i64 0, .int .i64 0, .slice none 0 0] T.zr38 T.pl38 rfl) <| .ur' (.stW (vs := [.int .i64 0, .int .i64 0, .slice none 0 0]) T.sz38 ok.n2 (oneL rfl)) ?_
    rintro η19 ⟨ok, cg⟩
    refine .w 3 .asB <| .nil ?_
    refine .ret ⟨.tuple #[.agg #[.int .i64 0, .int .i64 0, .slice none 0 0], .bool false], Res.many (vs := [.agg #[.int .i64 0, .int .i64 0, .slice none 0 0], .bool false]) rfl ⟨⟨_, rfl, load_ag T.ag38 ok.m0 T.sz38⟩, rfl, trivial⟩ rfl, ⟨rfl, ok.chg, ok.m3⟩⟩
  exact absurd ⟨hfit, by simpa [rawF] using G62, by simp only [rawF]; omega⟩ hn

set_option maxRecDepth 100000 in
set_option maxHeartbeats 2000000 in
theorem frame_ok {h : Heap} {F E : Nat → Prop} {r c pos size prev salt : Nat} {a : Option Addr} {l : List UInt8} (hl : RdL h F E (a, l.length, c) l) (hb : (boxI r 92 [.slice a l.length c, .int .i64 (pos : Int), .int .i64 (size : Int), .int .u64 (prev : Int), .int .u64 (salt : Int)]).p h) (hd : ∀ j, F j ∨ E j → j ≠ r) (hpos : pos ≤ l.length) (hsz : size < 4294967296) (hpv : prev < 18446744073709551616) (hN : l.length ≤ 10000000) (hf : fits l size pos prev) :
    HC Try.prog 48 #[.pointer (some ⟨r, 0, none⟩)] h (fun v h' => ∃ a' c', v = .tuple #[.agg #[.int .i64 (rawF l size pos).page, .int .i64 (rawF l size pos).commit, .slice a' (rawF l size pos).b.length c'], .bool true] ∧ Chg (fun j => j = r) h h' ∧
      (boxI r 92 [.slice a l.length c, .int .i64 ((pos + 16 + size : Nat) : Int), .int .i64 (size : Int), .int .u64 ((linkN prev (rawF l size pos) : Nat) : Int), .int .u64 (salt : Int)]).p h' ∧ Cap h' 1 5 (.slice a' (rawF l size pos).b.length c') ((rawF l size pos).b.map bv) ∧ ∀ j, blkC (.slice a' (rawF l size pos).b.length c') j → h.size ≤ j) := by
  have hc2 := hl.m
  have hc1 : l.length ≤ c := hl.c
  simp only at hc2
  have ok := ((Hp.nil h (fun j => j = r)).arg hl).obj (boxI r 92 [.slice a l.length c, .int .i64 (pos : Int), .int .i64 (size : Int), .int .u64 (prev : Int), .int .u64 (salt : Int)]) hb (fun j e => ⟨e ▸ block_lt hb, e⟩) (by simp) (by
    intro b hm j e hj
    rcases List.mem_cons.1 hm with rfl | hm
    · exact hd j (hj.imp And.left And.left) e
    · cases hm)
  have h81 := rdN_lt8 l (pos + 8)
  have h41 := rdN_lt4 l pos
  have h42 := rdN_lt4 l (pos + 4)
  refine HC.go Try.func48 83 ?_
  refine .seq <| .r <| .a' 2 (.alA T.zr38 ok) ?_
  rintro _ η1 ⟨pb1, rfl, ok, xe⟩
  refine .w 3 .asB <| .nil ?_
  refine .seq <| .q (hm := mixed) <| .w 7 .mvP <| .w 8 .nil <| .w 9 (.fa T.fd92_1) <| .w 10 (.ldx T.ag3 ok.m1) <| .w 11 (.addI (b := 16)) <| .w 12 .mvP <| .w 13 .nil <| .w 14 (.fa T.fd92_2) <| .w 15 (.ldx T.ag3 ok.m1) <| .w 16 .addI <| .w 4 .asI <| .nil ?_
  refine .seq <| .seq <| .r <| .w 17 .mvI <| .w 18 .mvP <| .w 19 .nil <| .w 20 (.fa T.fd92_0) <| .w 21 (.ldx T.ag22 ok.m1) <| .w 22 (.len T.el22) <| .w 23 .gtr <| .nil ?_
  refine .cd (fun C0 => ?_) (fun C0 => ?_)
  · --
    have := hf.1; omega
  have hfit : pos + 16 + size ≤ l.length := by omega
  refine .skip <| .seq <| .join (fun s hh => ∃ (b5 : Nat) (a1 : Option Addr) (c1 : Nat), Has s [(0, .pointer (some ⟨r, 0, none⟩)), (2, .pointer (some ⟨pb1, 0, none⟩)), (4, .int .i64 (((pos + 16) + size : Nat) : Int)), (5, .pointer (some ⟨b5, 0, none⟩))] ∧ Hp h (fun j => j = r) [boxI b5 38 [.int .i64 ((rdN l pos 4 : Nat) : Int), .int .i64 ((rdN l (pos + 4) 4 : Nat) : Int), .slice a1 (((l.drop (pos + 16)).take size).length) c1], capI 1 5 (a1, ((l.drop (pos + 16)).take size).length, c1) (((l.drop (pos + 16)).take size).map bv), boxI pb1 38 [.int .i64 0, .int .i64 0, .slice none 0 0], boxI r 92 [.slice a l.length c, .int .i64 (pos : Int), .int .i64 (size : Int), .int .u64 (prev : Int), .int .u64 (salt : Int)]] [rdI (fun j => F j ∧ j < h.size) (fun j => E j ∧ j < h.size) (a, l.length, c) l] hh) ?_ ?_
  · --
    refine .a 29 (fun fl hh => cond fl True (Hp h (fun j => j = r) [boxI pb1 38 [.int .i64 0, .int .i64 0, .slice none 0 0], boxI r 92 [.slice a l.length c, .int .i64 (pos : Int), .int .i64 (size : Int), .int .u64 (prev : Int), .int .u64 (salt : Int)]] [rdI (fun j => F j ∧ j < h.size) (fun j => E j ∧ j < h.size) (a, l.length, c) l] hh)) mixed ?_
    have hS := ok
    refine .g 0 false rfl 25 hS (fun _ => .mvP) <| .g 1 false rfl 26 hS (fun _ => .mvP) <| .g 2 false rfl 27 hS (fun _ => .nil) <| .g 3 false rfl 28 hS (fun _ => .fa T.fd92_1) <| .l 4 false rfl 29 hS (fun _ hS => .ldx T.ag3 hS.m1) <| .g 7 false rfl 32 hS (fun _ => .mvP) <| .g 8 false rfl 33 hS (fun _ => .mvP) <| .g 9 false rfl 34 hS (fun _ => .nil) <| .g 10 false rfl 35 hS (fun _ => .fa T.fd92_1) <| .l 11 false rfl 36 hS (fun _ hS => .ldx T.ag3 hS.m1) <| .g 12 false rfl 37 hS (fun _ => .addI (b := 4)) <| .g 15 false rfl 40 hS (fun _ => .mvP) <| .g 16 false rfl 41 hS (fun _ => .nil) <| .g 17 false rfl 42 hS (fun _ => .fa T.fd92_0) <| .l 18 false rfl 43 hS (fun _ hS => .ldx T.ag22 hS.m1) <| .g 19 false rfl 44 hS (fun _ => .mvP) <| .g 20 false rfl 45 hS (fun _ => .nil) <| .g 21 false rfl 46 hS (fun _ => .fa T.fd92_1) <| .l 22 false rfl 47 hS (fun _ hS => .ldx T.ag3 hS.m1) <| .g 23 false rfl 48 hS (fun _ => .addI (b := 16)) <| .g 24 false rfl 49 hS (fun _ => .mvI) <| .g 25 false rfl 50 hS (fun _ => .slh (pos + 16) (pos + 16 + size) T.el22 T.sz5) <| ?_
    generalize hc1 : cutA a (pos + 16) c 1 = ca1
    generalize hn1 : (pos + 16 + size) - (pos + 16) = cn1
    obtain rfl : cn1 = ((l.drop (pos + 16)).take size).length := by rw [← hn1]; simp <;> omega
    have ok := ok.d0 (rdI (fun j => F j ∧ j < h.size) (fun j => E j ∧ j < h.size) (ca1, ((l.drop (pos + 16)).take size).length, c - (pos + 16)) ((l.drop (pos + 16)).take size)) (by have h1 := ok.r0.cut (i := (pos + 16)) (j := (pos + 16 + size)) (by omega) (by omega); rw [show ((l).drop (pos + 16)).take ((pos + 16 + size) - (pos + 16)) = (l.drop (pos + 16)).take size from by congr 1; omega] at h1; rw [← hc1, ← hn1]; exact h1) (fun _ h => h)
    refine .o2 5 28 ?_ ?_
    ·
      refine .k false rfl 30 .func (number_any (p := pos) (k := 4) (l := l) ok.r1 ok.m1 (by omega) (by omega) (by omega)) hS <| .g 6 false rfl 31 hS (fun _ => .cvi T.in3 T.in25) <| .o2 13 28 ?_ ?_
      ·
        refine .k false rfl 38 .func (number_any (p := (pos + 4)) (k := 4) (l := l) ok.r1 ok.m1 (by omega) (by omega) (by omega)) hS <| .g 14 false rfl 39 hS (fun _ => .cvi T.in3 T.in25) <| .o2 26 28 ?_ ?_
        ·
          refine .c' false rfl 51 .func (sclone_any (a := ca1) (c := c - (pos + 16)) (l := (l.drop (pos + 16)).take size) ok.r0 (by simp; omega)) ?_
          rintro _ η2 own
          obtain ⟨ya1, yc1, rfl⟩ := own.formB
          have ok := ok.own own
          refine ⟨ok.n2.n2.k2.tR, ?_⟩
          have hS := ok.n2.n2.k2.tR
          refine .g 27 false rfl 52 hS (fun _ => .bd #[.int .i64 (((rdN l pos 4) : Nat) : Int), .int .i64 (((rdN l (pos + 4) 4) : Nat) : Int), .slice ya1 (((l.drop (pos + 16)).take size).length) yc1] T.zr38 T.pl38 rfl) <| .o1 28 <| .a' false rfl 5 (.alA T.zr38 ok) ?_
          rintro _ η3 ⟨pb2, rfl, ok, xe⟩
          refine ⟨ok.n3.n3.k2.tR, ?_⟩
          have hS := ok.n3.n3.k2.tR
          refine .o1 29 <| .ur' true rfl (.stW (vs := [.int .i64 (((rdN l pos 4) : Nat) : Int), .int .i64 (((rdN l (pos + 4) 4) : Nat) : Int), .slice ya1 (((l.drop (pos + 16)).take size).length) yc1]) T.sz38 ok (oneL rfl)) ?_
          rintro η4 ⟨ok, cg⟩
          refine ⟨trivial, ?_⟩
          refine .e ?_
          refine .end <| ⟨pb2, ya1, yc1, ⟨rfl, rfl, rfl, rfl, trivial⟩, ok.n3.n3.n3.n3.tR⟩
        ·
          refine .a' false rfl 5 (.alA T.zr38 ok) ?_
          rintro _ η5 ⟨pb3, rfl, ok, xe⟩
          refine ⟨ok.n2.n2.k2.tR, ?_⟩
          have hS := ok.n2.n2.k2.tR
          refine .o1 26 <| .c' false rfl 51 .func (sclone_any (a := ca1) (c := c - (pos + 16)) (l := (l.drop (pos + 16)).take size) ok.r0 (by simp; omega)) ?_
          rintro _ η6 own
          obtain ⟨ya2, yc2, rfl⟩ := own.formB
          have ok := ok.own own
          refine ⟨ok.n3.n3.k2.tR, ?_⟩
          have hS := ok.n3.n3.k2.tR
          refine .g 27 false rfl 52 hS (fun _ => .bd #[.int .i64 (((rdN l pos 4) : Nat) : Int), .int .i64 (((rdN l (pos + 4) 4) : Nat) : Int), .slice ya2 (((l.drop (pos + 16)).take size).length) yc2] T.zr38 T.pl38 rfl) <| .o1 29 <| .ur' true rfl (.stW (vs := [.int .i64 (((rdN l pos 4) : Nat) : Int), .int .i64 (((rdN l (pos + 4) 4) : Nat) : Int), .slice ya2 (((l.drop (pos + 16)).take size).length) yc2]) T.sz38 ok.n1 (oneL rfl)) ?_
          rintro η7 ⟨ok, cg⟩
          refine ⟨trivial, ?_⟩
          refine .e ?_
          refine .end <| ⟨pb3, ya2, yc2, ⟨rfl, rfl, rfl, rfl, trivial⟩, ok.n3.n3.n3.n3.tR⟩
      ·
        refine .a' false rfl 5 (.alA T.zr38 ok) ?_
        rintro _ η8 ⟨pb4, rfl, ok, xe⟩
        refine ⟨ok.n2.n2.k2.tR, ?_⟩
        have hS := ok.n2.n2.k2.tR
        refine .o1 13 <| .k false rfl 38 .func (number_any (p := (pos + 4)) (k := 4) (l := l) ok.r1 ok.m2 (by omega) (by omega) (by omega)) hS <| .g 14 false rfl 39 hS (fun _ => .cvi T.in3 T.in25) <| .o1 26 <| .c' false rfl 51 .func (sclone_any (a := ca1) (c := c - (pos + 16)) (l := (l.drop (pos + 16)).take size) ok.r0 (by simp; omega)) ?_
        rintro _ η9 own
        obtain ⟨ya3, yc3, rfl⟩ := own.formB
        have ok := ok.own own
        refine ⟨ok.n3.n3.k2.tR, ?_⟩
        have hS := ok.n3.n3.k2.tR
        refine .g 27 false rfl 52 hS (fun _ => .bd #[.int .i64 (((rdN l pos 4) : Nat) : Int), .int .i64 (((rdN l (pos + 4) 4) : Nat) : Int), .slice ya3 (((l.drop (pos + 16)).take size).length) yc3] T.zr38 T.pl38 rfl) <| .o1 29 <| .ur' true rfl (.stW (vs := [.int .i64 (((rdN l pos 4) : Nat) : Int), .int .i64 (((rdN l (pos + 4) 4) : Nat) : Int), .slice ya3 (((l.drop (pos + 16)).take size).length) yc3]) T.sz38 ok.n1 (oneL rfl)) ?_
        rintro η10 ⟨ok, cg⟩
        refine ⟨trivial, ?_⟩
        refine .e ?_
        refine .end <| ⟨pb4, ya3, yc3, ⟨rfl, rfl, rfl, rfl, trivial⟩, ok.n3.n3.n3.n3.tR⟩
    ·
      refine .a' false rfl 5 (.alA T.zr38 ok) ?_
      rintro _ η11 ⟨pb5, rfl, ok, xe⟩
      refine ⟨ok.n2.n2.k2.tR, ?_⟩
      have hS := ok.n2.n2.k2.tR
      refine .o1 5 <| .k false rfl 30 .func (number_any (p := pos) (k := 4) (l := l) ok.r1 ok.m2 (by omega) (by omega) (by omega)) hS <| .g 6 false rfl 31 hS (fun _ => .cvi T.in3 T.in25) <| .o1 13 <| .k false rfl 38 .func (number_any (p := (pos + 4)) (k := 4) (l := l) ok.r1 ok.m2 (by omega) (by omega) (by omega)) hS <| .g 14 false rfl 39 hS (fun _ => .cvi T.in3 T.in25) <| .o1 26 <| .c' false rfl 51 .func (sclone_any (a := ca1) (c := c - (pos + 16)) (l := (l.drop (pos + 16)).take size) ok.r0 (by simp; omega)) ?_
      rintro _ η12 own
      obtain ⟨ya4, yc4, rfl⟩ := own.formB
      have ok := ok.own own
      refine ⟨ok.n3.n3.k2.tR, ?_⟩
      have hS := ok.n3.n3.k2.tR
      refine .g 27 false rfl 52 hS (fun _ => .bd #[.int .i64 (((rdN l pos 4) : Nat) : Int), .int .i64 (((rdN l (pos + 4) 4) : Nat) : Int), .slice ya4 (((l.drop (pos + 16)).take size).length) yc4] T.zr38 T.pl38 rfl) <| .o1 29 <| .ur' true rfl (.stW (vs := [.int .i64 (((rdN l pos 4) : Nat) : Int), .int .i64 (((rdN l (pos + 4) 4) : Nat) : Int), .slice ya4 (((l.drop (pos + 16)).take size).length) yc4]) T.sz38 ok.n1 (oneL rfl)) ?_
      rintro η13 ⟨ok, cg⟩
      refine ⟨trivial, ?_⟩
      refine .e ?_
      refine .end <| ⟨pb5, ya4, yc4, ⟨rfl, rfl, rfl, rfl, trivial⟩, ok.n3.n3.n3.n3.tR⟩
  rintro s η14 ⟨b5, a1, c1, hs, ok⟩
  refine .frame hs fun τ => ?_
  refine .seq <| .t 5 mixed ?_
  simp only [List.take_succ_cons, List.take_zero, List.drop_succ_cons, List.drop_zero]
  refine .w 53 .mvP <| .w 54 .nil <| .w 55 (.fa T.fd92_3) <| .w 56 (.ldx T.ag25 ok.m3) <| .w 57 (.ldb T.ag38 ok.m0 T.sz38) <| .nil ?_
  refine .c' 58 .func (link_any (p := (rdN l pos 4)) (q := (rdN l (pos + 4) 4)) (r := prev) (by omega) (by omega) (by omega) (by simp; omega) (a := a1) (c := c1) (l := ((l.drop (pos + 16)).take size)) (RdL.ofCapB (v := (a1, ((l.drop (pos + 16)).take size).length, c1)) (l := ((l.drop (pos + 16)).take size)) ok.m1)) ?_
  rintro _ η15 ⟨rfl, hx⟩
  have ok := ok.ext hx
  refine .w 6 .asI <| .nil ?_
  refine .seq <| .seq <| .r <| .w 59 (.ldb T.ag38 ok.m0 T.sz38) <| .c' 60 .func (isframe_any (z1 := ((rdN l pos 4 : Nat) : Int)) (z2 := ((rdN l (pos + 4) 4 : Nat) : Int)) (a := a1) (c := c1) (l := ((l.drop (pos + 16)).take size)) (RdL.ofCapB (v := (a1, ((l.drop (pos + 16)).take size).length, c1)) (l := ((l.drop (pos + 16)).take size)) ok.m1)) ?_
  rintro _ η16 ⟨rfl, hx⟩
  have ok := ok.ext hx
  refine .w 61 .not <| .w 62 .mvB <| .spl (fun G62 => ?_) (fun G62 => ?_)
  ·
    have h9 := hf.2.1; simp only [rawF] at h9; rw [h9] at G62; cases G62
  refine .w 63 .mvI <| .w 64 .mvP <| .w 65 .mvP <| .w 66 .nil <| .w 67 (.fa T.fd92_1) <| .w 68 (.ldx T.ag3 ok.m3) <| .w 69 (.addI (b := 8)) <| .k 70 .func (number_any (p := (pos + 8)) (k := 8) (l := l) ok.r0 ok.m3 (by omega) (by omega) (by omega)) <| .w 71 .neq <| .w 72 .pkf <| .nil ?_
  refine .cd (fun C1 => ?_) (fun C1 => ?_)
  · --
    have h9 := hf.2.2; simp only [rawF] at h9; exact absurd (by rw [h9]) C1
  refine .skip <| .seq <| .r <| .w 74 .mvP <| .w 75 .mvP <| .w 76 .mvI <| .w 77 .mvI <| .w 78 .nil <| .w 79 (.fa T.fd92_1) <| .ur' (.stI T.sz3 ok.n3) ?_
  rintro η17 ⟨ok, cg⟩
  refine .w 80 .nil <| .w 81 (.fa T.fd92_3) <| .ur' (.stI T.sz25 ok) ?_
  rintro η18 ⟨ok, cg⟩
  refine .nil ?_
  refine .seq <| .r <| .w 82 (.ldb T.ag38 ok.m1 T.sz38) <| .ur' (.stW (vs := [.int .i64 ((rdN l pos 4 : Nat) : Int), .int .i64 ((rdN l (pos + 4) 4 : Nat) : Int), .slice a1 (((l.drop (pos + 16)).take size).length) c1]) T.sz38 ok.n3 (oneL rfl)) ?_
  rintro η19 ⟨ok, cg⟩
  refine .w 3 .asB <| .nil ?_
  refine .ret ⟨.tuple #[.agg #[.int .i64 ((rdN l pos 4 : Nat) : Int), .int .i64 ((rdN l (pos + 4) 4 : Nat) : Int), .slice a1 (((l.drop (pos + 16)).take size).length) c1], .bool true], Res.many (vs := [.agg #[.int .i64 ((rdN l pos 4 : Nat) : Int), .int .i64 ((rdN l (pos + 4) 4 : Nat) : Int), .slice a1 (((l.drop (pos + 16)).take size).length) c1], .bool true]) rfl ⟨⟨_, rfl, load_ag T.ag38 ok.m0 T.sz38⟩, rfl, trivial⟩ rfl, ⟨_, _, rfl, ok.chg, ok.m1, ok.m3, (ok.n1.n3).freshD⟩⟩

end Go.Proofs.Ytpebbkhainpfaaa
