/- Copies of bytes and of slices; the reader of a log: frame. Conditions: the bytes are readable and no part of the reader. append(b, make([]byte, k)...): as many noughts behind. Conditions: those that each rule names. The disk in memory: its box, its map, its files' boxes and changes as one item that turns; all bytes as one that is read. Conditions: those that each fact names. The disk's changes: long, done, kept, what is wrong with a call. Conditions: the bytes are readable, few. What is wrong with a call to a disk. Conditions: the disk's box is known, the numbers are readable. -/
import Derived.Test.YtpebbkhainpfaaaPk6
import Derived.Lib.AppendZerosOnto
namespace Go.Proofs.Ytpebbkhainpfaaa
open Go Go.HL
theorem RdL.isNone {α : Type} [Rep α] {h : Heap} {F E : Nat → Prop} {a : Option Addr} {n c : Nat} {l : List α} (r : RdL h F E (a, n, c) l) (ha : a.isNone = true) : l = [] := by
  rcases Nat.eq_zero_or_pos l.length with h0 | h0
  · exact List.eq_nil_of_length_eq_zero h0
  · obtain ⟨b, o, e, _⟩ := r.at' h0
    simp only at e
    subst e; cases ha

set_option maxRecDepth 100000 in
set_option maxHeartbeats 2000000 in
theorem sclone_any {h : Heap} {F E : Nat → Prop} {a : Option Addr} {c : Nat} {l : List UInt8} (hl : RdL h F E (a, l.length, c) l) (hN : l.length ≤ 1000000000) :
    HC Try.prog 54 #[.slice a l.length c] h (fun v h' => Own h h' 1 5 v (l.map bv)) := by
  have hc2 := hl.m
  have hc1 : l.length ≤ c := hl.c
  simp only at hc2
  have ok := (Hp.nil h none_).arg hl
  refine HC.go Try.func54 8 ?_
  refine .seq <| .r <| .w 2 .asS <| .nil ?_
  refine .seq <| .seq <| .r <| .w 3 .mvS <| .w 4 (.sEq T.el22) <| .nil ?_
  refine .cond (fun C0 => ?_) (fun C0 => ?_)
  · --
    obtain rfl := RdL.isNone hl C0
    refine .seq <| .r <| .w 2 .asS <| .nil ?_
    refine .ret ⟨.slice none 0 0, Res.one rfl rfl, Own.nil ok.chg _ _⟩
  refine .skip <| .seq <| .r <| .a' 5 (.lit [] (cs := []) T.el22 T.sz5 T.zr5 ok trivial) ?_
  rintro _ η1 ⟨pb1, rfl, ok, xe⟩
  have ok := ok.cx (ys := ([] : List UInt8).map bv) rfl
  refine .w 6 .mvS <| .a' 7 (.app (news := l.map bv) T.el22 T.sz5 T.by5 T.zr5 ok (ok.r0).by bv_all (by simp only [List.length_map, List.length_append, List.length_take, List.length_cons, List.length_nil, List.length_replicate, List.length_range, fixedN_len, sealN_len]; omega)) ?_
  rintro _ η2 ⟨ya1, yn1, yc1, rfl, ok, ap⟩
  have ok := ok.cx (ys := (l).map bv) (by simp [bv])
  obtain rfl : yn1 = (l).length := ok.lenB
  refine .w 2 .asS <| .nil ?_
  refine .ret ⟨.slice ya1 ((l).length) yc1, Res.one rfl rfl, ok.toOwn⟩

set_option maxRecDepth 100000 in
set_option maxHeartbeats 2000000 in
theorem bclone_any {h : Heap} {F E : Nat → Prop} {a : Option Addr} {c : Nat} {l : List UInt8} (hl : RdL h F E (a, l.length, c) l) (hN : l.length ≤ 1000000000) :
    HC Try.prog 67 #[.slice a l.length c] h (fun v h' => Own h h' 1 5 v (l.map bv)) := by
  have hc2 := hl.m
  have hc1 : l.length ≤ c := hl.c
  simp only at hc2
  have ok := (Hp.nil h none_).arg hl
  refine HC.go Try.func67 8 ?_
  refine .seq <| .r <| .w 2 .asS <| .nil ?_
  refine .seq <| .seq <| .r <| .w 3 .mvS <| .w 4 (.sEq T.el22) <| .nil ?_
  refine .cond (fun C0 => ?_) (fun C0 => ?_)
  · --
    obtain rfl := RdL.isNone hl C0
    refine .seq <| .r <| .w 2 .asS <| .nil ?_
    refine .ret ⟨.slice none 0 0, Res.one rfl rfl, Own.nil ok.chg _ _⟩
  refine .skip <| .seq <| .r <| .a' 5 (.lit [] (cs := []) T.el22 T.sz5 T.zr5 ok trivial) ?_
  rintro _ η1 ⟨pb1, rfl, ok, xe⟩
  have ok := ok.cx (ys := ([] : List UInt8).map bv) rfl
  refine .w 6 .mvS <| .a' 7 (.app (news := l.map bv) T.el22 T.sz5 T.by5 T.zr5 ok (ok.r0).by bv_all (by simp only [List.length_map, List.length_append, List.length_take, List.length_cons, List.length_nil, List.length_replicate, List.length_range, fixedN_len, sealN_len]; omega)) ?_
  rintro _ η2 ⟨ya1, yn1, yc1, rfl, ok, ap⟩
  have ok := ok.cx (ys := (l).map bv) (by simp [bv])
  obtain rfl : yn1 = (l).length := ok.lenB
  refine .w 2 .asS <| .nil ?_
  refine .ret ⟨.slice ya1 ((l).length) yc1, Res.one rfl rfl, ok.toOwn⟩

set_option maxRecDepth 100000 in
set_option maxHeartbeats 2000000 in
theorem frame_no {h : Heap} {F E : Nat → Prop} {r c pos size prev salt : Nat} {a : Option Addr} {l : List UInt8} (hl : RdL h F E (a, l.length, c) l) (hb : (boxI r 92 [.slice a l.length c, .int .i64 (pos : Int), .int .i64 (size : Int), .int .u64 (prev : Int), .int .u64 (salt : Int)]).p h) (hd : ∀ j, F j ∨ E j → j ≠ r) (hpos : pos ≤ l.length) (hsz : size < 4294967296) (hpv : prev < 18446744073709551616) (hN : l.length ≤ 10000000) (hn : ¬ fits l size pos prev) :
    HC Try.prog 48 #[.pointer (some ⟨r, 0, none⟩)] h (fun v h' => v = .tuple #[.agg #[.int .i64 0, .int .i64 0, .slice none 0 0], .bool false] ∧ Chg (fun j => j = r) h h' ∧ (boxI r 92 [.slice a l.length c, .int .i64 (pos : Int), .int .i64 (size : Int), .int .u64 (prev : Int), .int .u64 (salt : Int)]).p h') := by
  have hc2 := hl.m
  have hc1 : l.length ≤ c := hl.c
  simp only at hc2
  have ok := ((Hp.nil h (fun j => j = r)).arg hl).obj (boxI r 92 [.slice a l.length c, .int .i64 (pos : Int), .int .i64 (size : Int), .int .u64 (prev : Int), .int .u64 (salt : Int)]) hb (fun j e => ⟨e ▸ block_lt hb, e⟩) (by simp) (by
    intro b hm j e hj
    rcases List.mem_cons.1 hm with rfl | hm
    · exact hd j (hj.imp And.left And.left) e
    · cases hm)
  have h81 := rdN_lt8 l (pos + 8)
  have h41 := rdN_lt4 l pos
  have h42 := rdN_lt4 l (pos + 4)
  refine HC.go Try.func48 83 ?_
  refine .seq <| .r <| .a' 2 (.alA T.zr38 ok) ?_
  rintro _ η1 ⟨pb1, rfl, ok, xe⟩
  refine .w 3 .asB <| .nil ?_
  refine .seq <| .q (hm := mixed) <| .w 7 .mvP <| .w 8 .nil <| .w 9 (.fa T.fd92_1) <| .w 10 (.ldx T.ag3 ok.m1) <| .w 11 (.addI (b := 16)) <| .w 12 .mvP <| .w 13 .nil <| .w 14 (.fa T.fd92_2) <| .w 15 (.ldx T.ag3 ok.m1) <| .w 16 .addI <| .w 4 .asI <| .nil ?_
  refine .seq <| .seq <| .r <| .w 17 .mvI <| .w 18 .mvP <| .w 19 .nil <| .w 20 (.fa T.fd92_0) <| .w 21 (.ldx T.ag22 ok.m1) <| .w 22 (.len T.el22) <| .w 23 .gtr <| .nil ?_
  refine .cd (fun C0 => ?_) (fun C0 => ?_)
  · --
    refine .seq <| .r <| .w 24 (.bd #[.int .i64 0, .int .i64 0, .slice none 0 0] T.zr38 T.pl38 rfl) <| .ur' (.stW (vs := [.int .i64 0, .int .i64 0, .slice none 0 0]) T.sz38 ok (oneL rfl)) ?_
    rintro η2 ⟨ok, cg⟩
    refine .w 3 .asB <| .nil ?_
    refine .ret ⟨.tuple #[.agg #[.int .i64 0, .int .i64 0, .slice none 0 0], .bool false], Res.many (vs := [.agg #[.int .i64 0, .int .i64 0, .slice none 0 0], .bool false]) rfl ⟨⟨_, rfl, load_ag T.ag38 ok.m0 T.sz38⟩, rfl, trivial⟩ rfl, ⟨rfl, ok.chg, ok.m1⟩⟩
  have hfit : pos + 16 + size ≤ l.length := by omega
  refine .skip <| .seq <| .join (fun s hh => ∃ (b5 : Nat) (a1 : Option Addr) (c1 : Nat), Has s [(0, .pointer (some ⟨r, 0, none⟩)), (2, .pointer (some ⟨pb1, 0, none⟩)), (4, .int .i64 (((pos + 16) + size : Nat) : Int)), (5, .pointer (some ⟨b5, 0, none⟩))] ∧ Hp h (fun j => j = r) [boxI b5 38 [.int .i64 ((rdN l pos 4 : Nat) : Int), .int .i64 ((rdN l (pos + 4) 4 : Nat) : Int), .slice a1 (((l.drop (pos + 16)).take size).length) c1], capI 1 5 (a1, ((l.drop (pos + 16)).take size).length, c1) (((l.drop (pos + 16)).take size).map bv), boxI pb1 38 [.int .i64 0, .int .i64 0, .slice none 0 0], boxI r 92 [.slice a l.length c, .int .i64 (pos : Int), .int .i64 (size : Int), .int .u64 (prev : Int), .int .u64 (salt : Int)]] [rdI (fun j => F j ∧ j < h.size) (fun j => E j ∧ j < h.size) (a, l.length, c) l] hh) ?_ ?_
  · --
    refine .a 29 (fun fl hh => cond fl True (Hp h (fun j => j = r) [boxI pb1 38 [.int .i64 0, .int .i64 0, .slice none 0 0], boxI r 92 [.slice a l.length c, .int .i64 (pos : Int), .int .i64 (size : Int), .int .u64 (prev : Int), .int .u64 (salt : Int)]] [rdI (fun j => F j ∧ j < h.size) (fun j => E j ∧ j < h.size) (a, l.length, c) l] hh)) mixed ?_
    have hS := ok
    refine .g 0 false rfl 25 hS (fun _ => .mvP) <| .g 1 false rfl 26 hS (fun _ => .mvP) <| .g 2 false rfl 27 hS (fun _ => .nil) <| .g 3 false rfl 28 hS (fun _ => .fa T.fd92_1) <| .l 4 false rfl 29 hS (fun _ hS => .ldx T.ag3 hS.m1) <| .g 7 false rfl 32 hS (fun _ => .mvP) <| .g 8 false rfl 33 hS (fun _ => .mvP) <| .g 9 false rfl 34 hS (fun _ => .nil) <| .g 10 false rfl 35 hS (fun _ => .fa T.fd92_1) <| .l 11 false rfl 36 hS (fun _ hS => .ldx T.ag3 hS.m1) <| .g 12 false rfl 37 hS (fun _ => .addI (b := 4)) <| .g 15 false rfl 40 hS (fun _ => .mvP) <| .g 16 false rfl 41 hS (fun _ => .nil) <| .g 17 false rfl 42 hS (fun _ => .fa T.fd92_0) <| .l 18 false rfl 43 hS (fun _ hS => .ldx T.ag22 hS.m1) <| .g 19 false rfl 44 hS (fun _ => .mvP) <| .g 20 false rfl 45 hS (fun _ => .nil) <| .g 21 false rfl 46 hS (fun _ => .fa T.fd92_1) <| .l 22 false rfl 47 hS (fun _ hS => .ldx T.ag3 hS.m1) <| .g 23 false rfl 48 hS (fun _ => .addI (b := 16)) <| .g 24 false rfl 49 hS (fun _ => .mvI) <| .g 25 false rfl 50 hS (fun _ => .slh (pos + 16) (pos + 16 + size) T.el22 T.sz5) <| ?_
    generalize hc1 : cutA a (pos + 16) c 1 = ca1
    generalize hn1 : (pos + 16 + size) - (pos + 16) = cn1
    obtain rfl : cn1 = ((l.drop (pos + 16)).take size).length := by rw [← hn1]; simp <;> omega
    have ok := ok.d0 (rdI (fun j => F j ∧ j < h.size) (fun j => E j ∧ j < h.size) (ca1, ((l.drop (pos + 16)).take size).length, c - (pos + 16)) ((l.drop (pos + 16)).take size)) (by have h1 := ok.r0.cut (i := (pos + 16)) (j := (pos + 16 + size)) (by omega) (by omega); rw [show ((l).drop (pos + 16)).take ((pos + 16 + size) - (pos + 16)) = (l.drop (pos + 16)).take size from by congr 1; omega] at h1; rw [← hc1, ← hn1]; exact h1) (fun _ h => h)
    refine .o2 5 28 ?_ ?_
    ·
      refine .k false rfl 30 .func (number_any (p := pos) (k := 4) (l := l) ok.r1 ok.m1 (by omega) (by omega) (by omega)) hS <| .g 6 false rfl 31 hS (fun _ => .cvi T.in3 T.in25) <| .o2 13 28 ?_ ?_
      ·
        refine .k false rfl 38 .func (number_any (p := (pos + 4)) (k := 4) (l := l) ok.r1 ok.m1 (by omega) (by omega) (by omega)) hS <| .g 14 false rfl 39 hS (fun _ => .cvi T.in3 T.in25) <| .o2 26 28 ?_ ?_
        ·
          refine .c' false rfl 51 .func (sclone_any (a := ca1) (c := c - (pos + 16)) (l := (l.drop (pos + 16)).take size) ok.r0 (by simp; omega)) ?_
          rintro _ η3 own
          obtain ⟨ya1, yc1, rfl⟩ := own.formB
          have ok := ok.own own
          refine ⟨ok.n2.n2.k2.tR, ?_⟩
          have hS := ok.n2.n2.k2.tR
          refine .g 27 false rfl 52 hS (fun _ => .bd #[.int .i64 (((rdN l pos 4) : Nat) : Int), .int .i64 (((rdN l (pos + 4) 4) : Nat) : Int), .slice ya1 (((l.drop (pos + 16)).take size).length) yc1] T.zr38 T.pl38 rfl) <| .o1 28 <| .a' false rfl 5 (.alA T.zr38 ok) ?_
          rintro _ η4 ⟨pb2, rfl, ok, xe⟩
          refine ⟨ok.n3.n3.k2.tR, ?_⟩
          have hS := ok.n3.n3.k2.tR
          refine .o1 29 <| .ur' true rfl (.stW (vs := [.int .i64 (((rdN l pos 4) : Nat) : Int), .int .i64 (((rdN l (pos + 4) 4) : Nat) : Int), .slice ya1 (((l.drop (pos + 16)).take size).length) yc1]) T.sz38 ok (oneL rfl)) ?_
          rintro η5 ⟨ok, cg⟩
          refine ⟨trivial, ?_⟩
          refine .e ?_
          refine .end <| ⟨pb2, ya1, yc1, ⟨rfl, rfl, rfl, rfl, trivial⟩, ok.n3.n3.n3.n3.tR⟩
        ·
          refine .a' false rfl 5 (.alA T.zr38 ok) ?_
          rintro _ η6 ⟨pb3, rfl, ok, xe⟩
          refine ⟨ok.n2.n2.k2.tR, ?_⟩
          have hS := ok.n2.n2.k2.tR
          refine .o1 26 <| .c' false rfl 51 .func (sclone_any (a := ca1) (c := c - (pos + 16)) (l := (l.drop (pos + 16)).take size) ok.r0 (by simp; omega)) ?_
          rintro _ η7 own
          obtain ⟨ya2, yc2, rfl⟩ := own.formB
          have ok := ok.own own
          refine ⟨ok.n3.n3.k2.tR, ?_⟩
          have hS := ok.n3.n3.k2.tR
          refine .g 27 false rfl 52 hS (fun _ => .bd #[.int .i64 (((rdN l pos 4) : Nat) : Int), .int .i64 (((rdN l (pos + 4) 4) : Nat) : Int), .slice ya2 (((l.drop (pos + 16)).take size).length) yc2] T.zr38 T.pl38 rfl) <| .o1 29 <| .ur' true rfl (.stW (vs := [.int .i64 (((rdN l pos 4) : Nat) : Int), .int .i64 (((rdN l (pos + 4) 4) : Nat) : Int), .slice ya2 (((l.drop (pos + 16)).take size).length) yc2]) T.sz38 ok.n1 (oneL rfl)) ?_
          rintro η8 ⟨ok, cg⟩
          refine ⟨trivial, ?_⟩
          refine .e ?_
          refine .end <| ⟨pb3, ya2, yc2, ⟨rfl, rfl, rfl, rfl, trivial⟩, ok.n3.n3.n3.n3.tR⟩
      ·
        refine .a' false rfl 5 (.alA T.zr38 ok) ?_
        rintro _ η9 ⟨pb4, rfl, ok, xe⟩
        refine ⟨ok.n2.n2.k2.tR, ?_⟩
        have hS := ok.n2.n2.k2.tR
        refine .o1 13 <| .k false rfl 38 .func (number_any (p := (pos + 4)) (k := 4) (l := l) ok.r1 ok.m2 (by omega) (by omega) (by omega)) hS <| .g 14 false rfl 39 hS (fun _ => .cvi T.in3 T.in25) <| .o1 26 <| .c' false rfl 51 .func (sclone_any (a := ca1) (c := c - (pos + 16)) (l := (l.drop (pos + 16)).take size) ok.r0 (by simp; omega)) ?_
        rintro _ η10 own
        obtain ⟨ya3, yc3, rfl⟩ := own.formB
        have ok := ok.own own
        refine ⟨ok.n3.n3.k2.tR, ?_⟩
        have hS := ok.n3.n3.k2.tR
        refine .g 27 false rfl 52 hS (fun _ => .bd #[.int .i64 (((rdN l pos 4) : Nat) : Int), .int .i64 (((rdN l (pos + 4) 4) : Nat) : Int), .slice ya3 (((l.drop (pos + 16)).take size).length) yc3] T.zr38 T.pl38 rfl) <| .o1 29 <| .ur' true rfl (.stW (vs := [.int .i64 (((rdN l pos 4) : Nat) : Int), .int .i64 (((rdN l (pos + 4) 4) : Nat) : Int), .slice ya3 (((l.drop (pos + 16)).take size).length) yc3]) T.sz38 ok.n1 (oneL rfl)) ?_
        rintro η11 ⟨ok, cg⟩
        refine ⟨trivial, ?_⟩
        refine .e ?_
        refine .end <| ⟨pb4, ya3, yc3, ⟨rfl, rfl, rfl, rfl, trivial⟩, ok.n3.n3.n3.n3.tR⟩
    ·
      refine .a' false rfl 5 (.alA T.zr38 ok) ?_
      rintro _ η12 ⟨pb5, rfl, ok, xe⟩
      refine ⟨ok.n2.n2.k2.tR, ?_⟩
      have hS := ok.n2.n2.k2.tR
      refine .o1 5 <| .k false rfl 30 .func (number_any (p := pos) (k := 4) (l := l) ok.r1 ok.m2 (by omega) (by omega) (by omega)) hS <| .g 6 false rfl 31 hS (fun _ => .cvi T.in3 T.in25) <| .o1 13 <| .k false rfl 38 .func (number_any (p := (pos + 4)) (k := 4) (l := l) ok.r1 ok.m2 (by omega) (by omega) (by omega)) hS <| .g 14 false rfl 39 hS (fun _ => .cvi T.in3 T.in25) <| .o1 26 <| .c' false rfl 51 .func (sclone_any (a := ca1) (c := c - (pos + 16)) (l := (l.drop (pos + 16)).take size) ok.r0 (by simp; omega)) ?_
      rintro _ η13 own
      obtain ⟨ya4, yc4, rfl⟩ := own.formB
      have ok := ok.own own
      refine ⟨ok.n3.n3.k2.tR, ?_⟩
      have hS := ok.n3.n3.k2.tR
      refine .g 27 false rfl 52 hS (fun _ => .bd #[.int .i64 (((rdN l pos 4) : Nat) : Int), .int .i64 (((rdN l (pos + 4) 4) : Nat) : Int), .slice ya4 (((l.drop (pos + 16)).take size).length) yc4] T.zr38 T.pl38 rfl) <| .o1 29 <| .ur' true rfl (.stW (vs := [.int .i64 (((rdN l pos 4) : Nat) : Int), .int .i64 (((rdN l (pos + 4) 4) : Nat) : Int), .slice ya4 (((l.drop (pos + 16)).take size).length) yc4]) T.sz38 ok.n1 (oneL rfl)) ?_
      rintro η14 ⟨ok, cg⟩
      refine ⟨trivial, ?_⟩
      refine .e ?_
      refine .end <| ⟨pb5, ya4, yc4, ⟨rfl, rfl, rfl, rfl, trivial⟩, ok.n3.n3.n3.n3.tR⟩
  rintro s η15 ⟨b5, a1, c1, hs, ok⟩
  refine .frame hs fun τ => ?_
  refine .seq <| .t 5 mixed ?_
  simp only [List.take_succ_cons, List.take_zero, List.drop_succ_cons, List.drop_zero]
  refine .w 53 .mvP <| .w 54 .nil <| .w 55 (.fa T.fd92_3) <| .w 56 (.ldx T.ag25 ok.m3) <| .w 57 (.ldb T.ag38 ok.m0 T.sz38) <| .nil ?_
  refine .c' 58 .func (link_any (p := (rdN l pos 4)) (q := (rdN l (pos + 4) 4)) (r := prev) (by omega) (by omega) (by omega) (by simp; omega) (a := a1) (c := c1) (l := ((l.drop (pos + 16)).take size)) (RdL.ofCapB (v := (a1, ((l.drop (pos + 16)).take size).length, c1)) (l := ((l.drop (pos + 16)).take size)) ok.m1)) ?_
  rintro _ η16 ⟨rfl, hx⟩
  have ok := ok.ext hx
  refine .w 6 .asI <| .nil ?_
  refine .seq <| .seq <| .r <| .w 59 (.ldb T.ag38 ok.m0 T.sz38) <| .c' 60 .func (isframe_any (z1 := ((rdN l pos 4 : Nat) : Int)) (z2 := ((rdN l (pos + 4) 4 : Nat) : Int)) (a := a1) (c := c1) (l := ((l.drop (pos + 16)).take size)) (RdL.ofCapB (v := (a1, ((l.drop (pos + 16)).take size).length, c1)) (l := ((l.drop (pos + 16)).take size)) ok.m1)) ?_
  rintro _ η17 ⟨rfl, hx⟩
  have ok := ok.ext hx
  refine .w 61 .not <| .w 62 .mvB <| .spl (fun G62 => ?_) (fun G62 => ?_)
  ·
    refine .x 63 <| .x 64 <| .x 65 <| .x 66 <| .x 67 <| .x 68 <| .x 69 <| .x 70 <| .x 71 <| .w 72 .pkt <| .nil ?_
    refine .ct <| .seq <| .r <| .w 73 (.bd #[.int .i64 0, .int .i64 0, .slice none 0 0] T.zr38 T.pl38 rfl) <| .ur' (.stW (vs := [.int .i64 0, .int .i64 0, .slice none 0 0]) T.sz38 ok.n2 (oneL rfl)) ?_
    rintro η18 ⟨ok, cg⟩
    refine .w 3 .asB <| .nil ?_
    refine .ret ⟨.tuple #[.agg #[.int .i64 0, .int .i64 0, .slice none 0 0], .bool false], Res.many (vs := [.agg #[.int .i64 0, .int .i64 0, .slice none 0 0], .bool false]) rfl ⟨⟨_, rfl, load_ag T.ag38 ok.m0 T.sz38⟩, rfl, trivial⟩ rfl, ⟨rfl, ok.chg, ok.m3⟩⟩
  refine .w 63 .mvI <| .w 64 .mvP <| .w 65 .mvP <| .w 66 .nil <| .w 67 (.fa T.fd92_1) <| .w 68 (.ldx T.ag3 ok.m3) <| .w 69 (.addI (b := 8)) <| .k 70 .func (number_any (p := (pos + 8)) (k := 8) (l := l) ok.r0 ok.m3 (by omega) (by omega) (by omega)) <| .w 71 .neq <| .w 72 .pkf <| .nil ?_
  refine .cd (fun C1 => ?_) (fun C1 => ?_)
  · --
    refine .seq <| .r <| .w 73 (.bd #[.int .i64 0, .int .i64 0, .slice none 0 0] T.zr38 T.pl38 rfl) <| .ur' (.stW (vs := [.int .i64 0, .int .i64 0, .slice none 0 0]) T.sz38 ok.n2 (oneL rfl)) ?_
    rintro η19 ⟨ok, cg⟩
    refine .w 3 .asB <| .nil ?_
    refine .ret ⟨.tuple #[.agg #[.int .i64 0, .int .i64 0, .slice none 0 0], .bool false], Res.many (vs := [.agg #[.int .i64 0, .int .i64 0, .slice none 0 0], .bool false]) rfl ⟨⟨_, rfl, load_ag T.ag38 ok.m0 T.sz38⟩, rfl, trivial⟩ rfl, ⟨rfl, ok.chg, ok.m3⟩⟩
  exact absurd ⟨hfit, by simpa [rawF] using G62, by simp only [rawF]; omega⟩ hn

set_option maxRecDepth 100000 in
set_option maxHeartbeats 2000000 in
theorem frame_ok {h : Heap} {F E : Nat → Prop} {r c pos size prev salt : Nat} {a : Option Addr} {l : List UInt8} (hl : RdL h F E (a, l.length, c) l) (hb : (boxI r 92 [.slice a l.length c, .int .i64 (pos : Int), .int .i64 (size : Int), .int .u64 (prev : Int), .int .u64 (salt : Int)]).p h) (hd : ∀ j, F j ∨ E j → j ≠ r) (hpos : pos ≤ l.length) (hsz : size < 4294967296) (hpv : prev < 18446744073709551616) (hN : l.length ≤ 10000000) (hf : fits l size pos prev) :
    HC Try.prog 48 #[.pointer (some ⟨r, 0, none⟩)] h (fun v h' => ∃ a' c', v = .tuple #[.agg #[.int .i64 (rawF l size pos).page, .int .i64 (rawF l size pos).commit, .slice a' (rawF l size pos).b.length c'], .bool true] ∧ Chg (fun j => j = r) h h' ∧
      (boxI r 92 [.slice a l.length c, .int .i64 ((pos + 16 + size : Nat) : Int), .int .i64 (size : Int), .int .u64 ((linkN prev (rawF l size pos) : Nat) : Int), .int .u64 (salt : Int)]).p h' ∧ Cap h' 1 5 (.slice a' (rawF l size pos).b.length c') ((rawF l size pos).b.map bv) ∧ ∀ j, blkC (.slice a' (rawF l size pos).b.length c') j → h.size ≤ j) := by
  have hc2 := hl.m
  have hc1 : l.length ≤ c := hl.c
  simp only at hc2
  have ok := ((Hp.nil h (fun j => j = r)).arg hl).obj (boxI r 92 [.slice a l.length c, .int .i64 (pos : Int), .int .i64 (size : Int), .int .u64 (prev : Int), .int .u64 (salt : Int)]) hb (fun j e => ⟨e ▸ block_lt hb, e⟩) (by simp) (by
    intro b hm j e hj
    rcases List.mem_cons.1 hm with rfl | hm
    · exact hd j (hj.imp And.left And.left) e
    · cases hm)
  have h81 := rdN_lt8 l (pos + 8)
  have h41 := rdN_lt4 l pos
  have h42 := rdN_lt4 l (pos + 4)
  refine HC.go Try.func48 83 ?_
  refine .seq <| .r <| .a' 2 (.alA T.zr38 ok) ?_
  rintro _ η1 ⟨pb1, rfl, ok, xe⟩
  refine .w 3 .asB <| .nil ?_
  refine .seq <| .q (hm := mixed) <| .w 7 .mvP <| .w 8 .nil <| .w 9 (.fa T.fd92_1) <| .w 10 (.ldx T.ag3 ok.m1) <| .w 11 (.addI (b := 16)) <| .w 12 .mvP <| .w 13 .nil <| .w 14 (.fa T.fd92_2) <| .w 15 (.ldx T.ag3 ok.m1) <| .w 16 .addI <| .w 4 .asI <| .nil ?_
  refine .seq <| .seq <| .r <| .w 17 .mvI <| .w 18 .mvP <| .w 19 .nil <| .w 20 (.fa T.fd92_0) <| .w 21 (.ldx T.ag22 ok.m1) <| .w 22 (.len T.el22) <| .w 23 .gtr <| .nil ?_
  refine .cd (fun C0 => ?_) (fun C0 => ?_)
  · --
    have := hf.1; omega
  have hfit : pos + 16 + size ≤ l.length := by omega
  refine .skip <| .seq <| .join (fun s hh => ∃ (b5 : Nat) (a1 : Option Addr) (c1 : Nat), Has s [(0, .pointer (some ⟨r, 0, none⟩)), (2, .pointer (some ⟨pb1, 0, none⟩)), (4, .int .i64 (((pos + 16) + size : Nat) : Int)), (5, .pointer (some ⟨b5, 0, none⟩))] ∧ Hp h (fun j => j = r) [boxI b5 38 [.int .i64 ((rdN l pos 4 : Nat) : Int), .int .i64 ((rdN l (pos + 4) 4 : Nat) : Int), .slice a1 (((l.drop (pos + 16)).take size).length) c1], capI 1 5 (a1, ((l.drop (pos + 16)).take size).length, c1) (((l.drop (pos + 16)).take size).map bv), boxI pb1 38 [.int .i64 0, .int .i64 0, .slice none 0 0], boxI r 92 [.slice a l.length c, .int .i64 (pos : Int), .int .i64 (size : Int), .int .u64 (prev : Int), .int .u64 (salt : Int)]] [rdI (fun j => F j ∧ j < h.size) (fun j => E j ∧ j < h.size) (a, l.length, c) l] hh) ?_ ?_
  · --
    refine .a 29 (fun fl hh => cond fl True (Hp h (fun j => j = r) [boxI pb1 38 [.int .i64 0, .int .i64 0, .slice none 0 0], boxI r 92 [.slice a l.length c, .int .i64 (pos : Int), .int .i64 (size : Int), .int .u64 (prev : Int), .int .u64 (salt : Int)]] [rdI (fun j => F j ∧ j < h.size) (fun j => E j ∧ j < h.size) (a, l.length, c) l] hh)) mixed ?_
    have hS := ok
    refine .g 0 false rfl 25 hS (fun _ => .mvP) <| .g 1 false rfl 26 hS (fun _ => .mvP) <| .g 2 false rfl 27 hS (fun _ => .nil) <| .g 3 false rfl 28 hS (fun _ => .fa T.fd92_1) <| .l 4 false rfl 29 hS (fun _ hS => .ldx T.ag3 hS.m1) <| .g 7 false rfl 32 hS (fun _ => .mvP) <| .g 8 false rfl 33 hS (fun _ => .mvP) <| .g 9 false rfl 34 hS (fun _ => .nil) <| .g 10 false rfl 35 hS (fun _ => .fa T.fd92_1) <| .l 11 false rfl 36 hS (fun _ hS => .ldx T.ag3 hS.m1) <| .g 12 false rfl 37 hS (fun _ => .addI (b := 4)) <| .g 15 false rfl 40 hS (fun _ => .mvP) <| .g 16 false rfl 41 hS (fun _ => .nil) <| .g 17 false rfl 42 hS (fun _ => .fa T.fd92_0) <| .l 18 false rfl 43 hS (fun _ hS => .ldx T.ag22 hS.m1) <| .g 19 false rfl 44 hS (fun _ => .mvP) <| .g 20 false rfl 45 hS (fun _ => .nil) <| .g 21 false rfl 46 hS (fun _ => .fa T.fd92_1) <| .l 22 false rfl 47 hS (fun _ hS => .ldx T.ag3 hS.m1) <| .g 23 false rfl 48 hS (fun _ => .addI (b := 16)) <| .g 24 false rfl 49 hS (fun _ => .mvI) <| .g 25 false rfl 50 hS (fun _ => .slh (pos + 16) (pos + 16 + size) T.el22 T.sz5) <| ?_
    generalize hc1 : cutA a (pos + 16) c 1 = ca1
    generalize hn1 : (pos + 16 + size) - (pos + 16) = cn1
    obtain rfl : cn1 = ((l.drop (pos + 16)).take size).length := by rw [← hn1]; simp <;> omega
    have ok := ok.d0 (rdI (fun j => F j ∧ j < h.size) (fun j => E j ∧ j < h.size) (ca1, ((l.drop (pos + 16)).take size).length, c - (pos + 16)) ((l.drop (pos + 16)).take size)) (by have h1 := ok.r0.cut (i := (pos + 16)) (j := (pos + 16 + size)) (by omega) (by omega); rw [show ((l).drop (pos + 16)).take ((pos + 16 + size) - (pos + 16)) = (l.drop (pos + 16)).take size from by congr 1; omega] at h1; rw [← hc1, ← hn1]; exact h1) (fun _ h => h)
    refine .o2 5 28 ?_ ?_
    ·
      refine .k false rfl 30 .func (number_any (p := pos) (k := 4) (l := l) ok.r1 ok.m1 (by omega) (by omega) (by omega)) hS <| .g 6 false rfl 31 hS (fun _ => .cvi T.in3 T.in25) <| .o2 13 28 ?_ ?_
      ·
        refine .k false rfl 38 .func (number_any (p := (pos + 4)) (k := 4) (l := l) ok.r1 ok.m1 (by omega) (by omega) (by omega)) hS <| .g 14 false rfl 39 hS (fun _ => .cvi T.in3 T.in25) <| .o2 26 28 ?_ ?_
        ·
          refine .c' false rfl 51 .func (sclone_any (a := ca1) (c := c - (pos + 16)) (l := (l.drop (pos + 16)).take size) ok.r0 (by simp; omega)) ?_
          rintro _ η2 own
          obtain ⟨ya1, yc1, rfl⟩ := own.formB
          have ok := ok.own own
          refine ⟨ok.n2.n2.k2.tR, ?_⟩
          have hS := ok.n2.n2.k2.tR
          refine .g 27 false rfl 52 hS (fun _ => .bd #[.int .i64 (((rdN l pos 4) : Nat) : Int), .int .i64 (((rdN l (pos + 4) 4) : Nat) : Int), .slice ya1 (((l.drop (pos + 16)).take size).length) yc1] T.zr38 T.pl38 rfl) <| .o1 28 <| .a' false rfl 5 (.alA T.zr38 ok) ?_
          rintro _ η3 ⟨pb2, rfl, ok, xe⟩
          refine ⟨ok.n3.n3.k2.tR, ?_⟩
          have hS := ok.n3.n3.k2.tR
          refine .o1 29 <| .ur' true rfl (.stW (vs := [.int .i64 (((rdN l pos 4) : Nat) : Int), .int .i64 (((rdN l (pos + 4) 4) : Nat) : Int), .slice ya1 (((l.drop (pos + 16)).take size).length) yc1]) T.sz38 ok (oneL rfl)) ?_
          rintro η4 ⟨ok, cg⟩
          refine ⟨trivial, ?_⟩
          refine .e ?_
          refine .end <| ⟨pb2, ya1, yc1, ⟨rfl, rfl, rfl, rfl, trivial⟩, ok.n3.n3.n3.n3.tR⟩
        ·
          refine .a' false rfl 5 (.alA T.zr38 ok) ?_
          rintro _ η5 ⟨pb3, rfl, ok, xe⟩
          refine ⟨ok.n2.n2.k2.tR, ?_⟩
          have hS := ok.n2.n2.k2.tR
          refine .o1 26 <| .c' false rfl 51 .func (sclone_any (a := ca1) (c := c - (pos + 16)) (l := (l.drop (pos + 16)).take size) ok.r0 (by simp; omega)) ?_
          rintro _ η6 own
          obtain ⟨ya2, yc2, rfl⟩ := own.formB
          have ok := ok.own own
          refine ⟨ok.n3.n3.k2.tR, ?_⟩
          have hS := ok.n3.n3.k2.tR
          refine .g 27 false rfl 52 hS (fun _ => .bd #[.int .i64 (((rdN l pos 4) : Nat) : Int), .int .i64 (((rdN l (pos + 4) 4) : Nat) : Int), .slice ya2 (((l.drop (pos + 16)).take size).length) yc2] T.zr38 T.pl38 rfl) <| .o1 29 <| .ur' true rfl (.stW (vs := [.int .i64 (((rdN l pos 4) : Nat) : Int), .int .i64 (((rdN l (pos + 4) 4) : Nat) : Int), .slice ya2 (((l.drop (pos + 16)).take size).length) yc2]) T.sz38 ok.n1 (oneL rfl)) ?_
          rintro η7 ⟨ok, cg⟩
          refine ⟨trivial, ?_⟩
          refine .e ?_
          refine .end <| ⟨pb3, ya2, yc2, ⟨rfl, rfl, rfl, rfl, trivial⟩, ok.n3.n3.n3.n3.tR⟩
      ·
        refine .a' false rfl 5 (.alA T.zr38 ok) ?_
        rintro _ η8 ⟨pb4, rfl, ok, xe⟩
        refine ⟨ok.n2.n2.k2.tR, ?_⟩
        have hS := ok.n2.n2.k2.tR
        refine .o1 13 <| .k false rfl 38 .func (number_any (p := (pos + 4)) (k := 4) (l := l) ok.r1 ok.m2 (by omega) (by omega) (by omega)) hS <| .g 14 false rfl 39 hS (fun _ => .cvi T.in3 T.in25) <| .o1 26 <| .c' false rfl 51 .func (sclone_any (a := ca1) (c := c - (pos + 16)) (l := (l.drop (pos + 16)).take size) ok.r0 (by simp; omega)) ?_
        rintro _ η9 own
        obtain ⟨ya3, yc3, rfl⟩ := own.formB
        have ok := ok.own own
        refine ⟨ok.n3.n3.k2.tR, ?_⟩
        have hS := ok.n3.n3.k2.tR
        refine .g 27 false rfl 52 hS (fun _ => .bd #[.int .i64 (((rdN l pos 4) : Nat) : Int), .int .i64 (((rdN l (pos + 4) 4) : Nat) : Int), .slice ya3 (((l.drop (pos + 16)).take size).length) yc3] T.zr38 T.pl38 rfl) <| .o1 29 <| .ur' true rfl (.stW (vs := [.int .i64 (((rdN l pos 4) : Nat) : Int), .int .i64 (((rdN l (pos + 4) 4) : Nat) : Int), .slice ya3 (((l.drop (pos + 16)).take size).length) yc3]) T.sz38 ok.n1 (oneL rfl)) ?_
        rintro η10 ⟨ok, cg⟩
        refine ⟨trivial, ?_⟩
        refine .e ?_
        refine .end <| ⟨pb4, ya3, yc3, ⟨rfl, rfl, rfl, rfl, trivial⟩, ok.n3.n3.n3.n3.tR⟩
    ·
      refine .a' false rfl 5 (.alA T.zr38 ok) ?_
      rintro _ η11 ⟨pb5, rfl, ok, xe⟩
      refine ⟨ok.n2.n2.k2.tR, ?_⟩
      have hS := ok.n2.n2.k2.tR
      refine .o1 5 <| .k false rfl 30 .func (number_any (p := pos) (k := 4) (l := l) ok.r1 ok.m2 (by omega) (by omega) (by omega)) hS <| .g 6 false rfl 31 hS (fun _ => .cvi T.in3 T.in25) <| .o1 13 <| .k false rfl 38 .func (number_any (p := (pos + 4)) (k := 4) (l := l) ok.r1 ok.m2 (by omega) (by omega) (by omega)) hS <| .g 14 false rfl 39 hS (fun _ => .cvi T.in3 T.in25) <| .o1 26 <| .c' false rfl 51 .func (sclone_any (a := ca1) (c := c - (pos + 16)) (l := (l.drop (pos + 16)).take size) ok.r0 (by simp; omega)) ?_
      rintro _ η12 own
      obtain ⟨ya4, yc4, rfl⟩ := own.formB
      have ok := ok.own own
      refine ⟨ok.n3.n3.k2.tR, ?_⟩
      have hS := ok.n3.n3.k2.tR
      refine .g 27 false rfl 52 hS (fun _ => .bd #[.int .i64 (((rdN l pos 4) : Nat) : Int), .int .i64 (((rdN l (pos + 4) 4) : Nat) : Int), .slice ya4 (((l.drop (pos + 16)).take size).length) yc4] T.zr38 T.pl38 rfl) <| .o1 29 <| .ur' true rfl (.stW (vs := [.int .i64 (((rdN l pos 4) : Nat) : Int), .int .i64 (((rdN l (pos + 4) 4) : Nat) : Int), .slice ya4 (((l.drop (pos + 16)).take size).length) yc4]) T.sz38 ok.n1 (oneL rfl)) ?_
      rintro η13 ⟨ok, cg⟩
      refine ⟨trivial, ?_⟩
      refine .e ?_
      refine .end <| ⟨pb5, ya4, yc4, ⟨rfl, rfl, rfl, rfl, trivial⟩, ok.n3.n3.n3.n3.tR⟩
  rintro s η14 ⟨b5, a1, c1, hs, ok⟩
  refine .frame hs fun τ => ?_
  refine .seq <| .t 5 mixed ?_
  simp only [List.take_succ_cons, List.take_zero, List.drop_succ_cons, List.drop_zero]
  refine .w 53 .mvP <| .w 54 .nil <| .w 55 (.fa T.fd92_3) <| .w 56 (.ldx T.ag25 ok.m3) <| .w 57 (.ldb T.ag38 ok.m0 T.sz38) <| .nil ?_
  refine .c' 58 .func (link_any (p := (rdN l pos 4)) (q := (rdN l (pos + 4) 4)) (r := prev) (by omega) (by omega) (by omega) (by simp; omega) (a := a1) (c := c1) (l := ((l.drop (pos + 16)).take size)) (RdL.ofCapB (v := (a1, ((l.drop (pos + 16)).take size).length, c1)) (l := ((l.drop (pos + 16)).take size)) ok.m1)) ?_
  rintro _ η15 ⟨rfl, hx⟩
  have ok := ok.ext hx
  refine .w 6 .asI <| .nil ?_
  refine .seq <| .seq <| .r <| .w 59 (.ldb T.ag38 ok.m0 T.sz38) <| .c' 60 .func (isframe_any (z1 := ((rdN l pos 4 : Nat) : Int)) (z2 := ((rdN l (pos + 4) 4 : Nat) : Int)) (a := a1) (c := c1) (l := ((l.drop (pos + 16)).take size)) (RdL.ofCapB (v := (a1, ((l.drop (pos + 16)).take size).length, c1)) (l := ((l.drop (pos + 16)).take size)) ok.m1)) ?_
  rintro _ η16 ⟨rfl, hx⟩
  have ok := ok.ext hx
  refine .w 61 .not <| .w 62 .mvB <| .spl (fun G62 => ?_) (fun G62 => ?_)
  ·
    have h9 := hf.2.1; simp only [rawF] at h9; rw [h9] at G62; cases G62
  refine .w 63 .mvI <| .w 64 .mvP <| .w 65 .mvP <| .w 66 .nil <| .w 67 (.fa T.fd92_1) <| .w 68 (.ldx T.ag3 ok.m3) <| .w 69 (.addI (b := 8)) <| .k 70 .func (number_any (p := (pos + 8)) (k := 8) (l := l) ok.r0 ok.m3 (by omega) (by omega) (by omega)) <| .w 71 .neq <| .w 72 .pkf <| .nil ?_
  refine .cd (fun C1 => ?_) (fun C1 => ?_)
  · --
    have h9 := hf.2.2; simp only [rawF] at h9; exact absurd (by rw [h9]) C1
  refine .skip <| .seq <| .r <| .w 74 .mvP <| .w 75 .mvP <| .w 76 .mvI <| .w 77 .mvI <| .w 78 .nil <| .w 79 (.fa T.fd92_1) <| .ur' (.stI T.sz3 ok.n3) ?_
  rintro η17 ⟨ok, cg⟩
  refine .w 80 .nil <| .w 81 (.fa T.fd92_3) <| .ur' (.stI T.sz25 ok) ?_
  rintro η18 ⟨ok, cg⟩
  refine .nil ?_
  refine .seq <| .r <| .w 82 (.ldb T.ag38 ok.m1 T.sz38) <| .ur' (.stW (vs := [.int .i64 ((rdN l pos 4 : Nat) : Int), .int .i64 ((rdN l (pos + 4) 4 : Nat) : Int), .slice a1 (((l.drop (pos + 16)).take size).length) c1]) T.sz38 ok.n3 (oneL rfl)) ?_
  rintro η19 ⟨ok, cg⟩
  refine .w 3 .asB <| .nil ?_
  refine .ret ⟨.tuple #[.agg #[.int .i64 ((rdN l pos 4 : Nat) : Int), .int .i64 ((rdN l (pos + 4) 4 : Nat) : Int), .slice a1 (((l.drop (pos + 16)).take size).length) c1], .bool true], Res.many (vs := [.agg #[.int .i64 ((rdN l pos 4 : Nat) : Int), .int .i64 ((rdN l (pos + 4) 4 : Nat) : Int), .slice a1 (((l.drop (pos + 16)).take size).length) c1], .bool true]) rfl ⟨⟨_, rfl, load_ag T.ag38 ok.m0 T.sz38⟩, rfl, trivial⟩ rfl, ⟨_, _, rfl, ok.chg, ok.m1, ok.m3, (ok.n1.n3).freshD⟩⟩

end Go.Proofs.Ytpebbkhainpfaaa

namespace Go.HL
open Go
theorem zeroCells_eq (v : Value) (n : Nat) (hv : v.cells = #[v]) : (Builtin.zeroCells v.cells n).toList = List.replicate n v := by
  apply List.ext_getElem?
  intro i
  rw [hv]
  simp [Builtin.zeroCells]
  by_cases hi : i < n
  · simp [hi, List.getElem?_replicate, Nat.mod_one]
  · simp [hi, List.getElem?_replicate]
theorem run_appendZ {P : Program} {t tn e ty : TypeId} {kn kq : IntKind} (ht : elB P t = some e) (htn : inB P tn = some kn) (hk : szB P e = some 1) (hby : byB P e = some 1) (hz : zrB P e = some (.int .u8 0))
    {h : Heap} {v : Value} {xs : List Value} {m : Nat} (hv : Cap h 1 e v xs) (hfit : xs.length + m ≤ 140737488355328) {E : Env} {w : World} (at' : At E h w) :
    ∃ v' h' w', (Cap h' 1 e v' (xs ++ List.replicate m (.int .u8 0)) ∧ Chg (blkC v) h h' ∧ ∀ b, blkC v' b → blkC v b ∨ h.size ≤ b) ∧ At E h' w' ∧ (Builtin.append_ #[t, tn] ty #[v, .int kq m]).run P w = .ok v' w' := by
  obtain ⟨i, hi, hik⟩ := szB_iff hk
  have hib : i.bytes = 1 := by
    obtain ⟨i', hi', e'⟩ := byB_iff hby
    rw [hi] at hi'; injection hi' with hi'; subst hi'; exact e'
  have hiz : i.zero = some (.int .u8 0) := by
    obtain ⟨i', hi', e'⟩ := zrB_iff hz
    rw [hi] at hi'; injection hi' with hi'; subst hi'; exact e'
  have hut := elB_iff ht
  have hutn := inB_iff htn
  obtain ⟨a, n, c, rfl, hnc, hc, hl, hr⟩ := hv
  have hl : xs.length = n := by simpa using hl
  by_cases hm0 : m = 0
  · subst hm0
    refine ⟨.slice a n c, h, w, ⟨by simpa using ⟨a, n, c, rfl, hnc, hc, by simpa using hl, hr⟩, Chg.refl _ _, fun b hb => .inl hb⟩, at', ?_⟩
    cases a with
    | none => simp [Builtin.append_, run_underlying hut, run_underlying hutn, sizeOf, typeInfo, hi, asInt, asIntOf, IntKind.wrap_i64, hnc, hib]
    | some ad => simp [Builtin.append_, run_underlying hut, run_underlying hutn, sizeOf, typeInfo, hi, asInt, asIntOf, IntKind.wrap_i64, hnc, hib, storeCells]
  have hw : IntKind.i64.wrap (m : Int) = m := by rw [IntKind.wrap_i64]; omega
  have hneg : ¬ ((m : Int) < 0) := by omega
  have h48i : ¬ (281474976710656 < (m : Int)) := by omega
  have grow : c < n + m → (Builtin.firstCells i.size n (.slice a n c)).run P w.drew = .ok xs.toArray w.drew → ∃ v' h' w', (Cap h' 1 e v' (xs ++ List.replicate m (.int .u8 0)) ∧ Chg (blkC (.slice a n c)) h h' ∧ ∀ b, blkC v' b → blkC (.slice a n c) b ∨ h.size ≤ b) ∧ At E h' w' ∧ (Builtin.append_ #[t, tn] ty #[.slice a n c, .int kq m]).run P w = .ok v' w' := by
    intro hg hold
    have hrun := Lib.run_append_grow_zeros (P := P) w t tn ty e i (.int .u8 0) kq kn hut hutn hi hiz a n c xs hold m (by omega) (by omega) hg (by omega) (by rw [hib]; omega) (growslice_fits (by omega) (by rw [hib]; omega))
    have hge := grownCap_ge w (n + m) c e
    have hcm := grownCap_le_maxLen w (n + m) c e (by simp only [maxLen]; omega)
    simp only [maxLen] at hcm
    refine ⟨_, _, _, ⟨⟨_, n + m, _, rfl, hge, hcm, by simp [hl], .inr ⟨w.heap.size, 0, _, (0, 0), rfl, by rw [at'.heap]; exact push_same _ _, ?_, fzOk_zero _, ?_⟩⟩, (Ext.push _ _).to, ?_⟩, (at'.drew).alloc _, hrun⟩
    · simp only [Array.size_append, List.size_toArray, size_zeroCells, hl]
      simp [Value.cells]; omega
    · simp only [List.drop_zero, Array.toList_append, Nat.mul_one]
      rw [zeroCells_eq _ m rfl]
      have : n + m = (xs ++ List.replicate m (Value.int .u8 0)).length := by simp [hl]
      rw [this]
      exact List.take_left
    · rintro bb ⟨oo, nn, cc, hv⟩
      right
      injection hv with h1; injection h1 with h1; injection h1 with h1
      rw [← h1, at'.heap]; exact Nat.le_refl _
  rcases hr with ⟨rfl, rfl⟩ | ⟨b, o, cs, fz, rfl, hb, hs, hf, hx⟩
  · have hn0 : n = 0 := by omega
    subst hn0
    have hx0 : xs = [] := List.eq_nil_of_length_eq_zero hl
    subst hx0
    exact grow (by omega) (by rw [hik]; exact run_firstCells_none _ _ _ _ _)
  · by_cases hroom : n + m ≤ c
    · have hwb : w.heap[b]? = some (.cells cs e fz) := by rw [at'.heap]; exact hb
      have hst := run_storeCells_cells (P := P) b (o + n) (List.replicate m (.int .u8 0)) 0 w (fun j hj => by rw [cell?_eq, cell_of hwb]; simp at hj ⊢; omega) (fun j hj => frozen?_eq hwb hf (by simp at hj; omega)) (fun u hu => by rw [List.eq_of_mem_replicate hu]; rfl)
      rw [Nat.add_zero, setCells_row b e fz _ (o + n) w cs hwb (by simp; omega)] at hst
      have hz2 : (Builtin.zeroCells (Value.int .u8 0).cells m).toList = List.replicate m (.int .u8 0) := zeroCells_eq _ m rfl
      refine ⟨.slice (some ⟨b, o, none⟩) (n + m) c, _, _, ⟨⟨_, n + m, c, rfl, hroom, hc, by simp [hl], .inr ⟨b, o, (spl cs.toList (o + n) (List.replicate m (.int .u8 0))).toArray, fz, rfl, hput_same hb, ?_, ?_, ?_⟩⟩, ?_, ?_⟩, at'.setRow _ _, ?_⟩
      · simp only [List.size_toArray]; rw [spl_length (by simp; omega)]; simpa using hs
      · simp only [List.size_toArray]; rw [spl_length (by simp; omega)]; simpa using hf
      · apply List.ext_getElem?
        intro j
        rw [List.getElem?_take]
        split
        · rename_i hj
          rw [List.getElem?_drop]
          by_cases hjn : j < n
          · rw [spl_lt (by omega) (by simp; omega), List.getElem?_append_left (by omega), ← hx, List.getElem?_take, if_pos (by omega), List.getElem?_drop]
          · have e1 : o + j = o + n + (j - n) := by omega
            rw [e1, spl_mid (by simp; omega) (by simp; omega), List.getElem?_append_right (by omega), hl]
        · rename_i hj
          rw [List.getElem?_eq_none]
          simp [hl]; omega
      · exact (hput_chg h b _).mono fun x _ hxb => by subst hxb; exact ⟨o, n, c, rfl⟩
      · rintro bb ⟨oo, nn, cc, hv⟩
        left
        injection hv with h1 h2 h3; injection h1 with h1; injection h1 with h1 h4
        subst h1
        exact ⟨o, n, c, rfl⟩
      · have hns : ¬ (m * i.size = 0) := by rw [hik]; omega
        simp [Builtin.append_, run_underlying hut, run_underlying hutn, sizeOf, typeInfo, zeroValue, hi, hiz, asInt, asIntOf, hw, hneg, hns, hib, h48i, hroom, hz2, Addr.add_lit, hik, hst, hm0]
    · have holds : ∀ j u, xs[j]? = some u → w.cell? ((⟨b, o, none⟩ : Addr).add j) = some u := fun j u hj => by
        rw [Addr.add_lit, cell?_eq, at'.heap, cell_of hb, ← Array.getElem?_toList]
        rw [← hx, List.getElem?_take] at hj
        split at hj
        · rwa [List.getElem?_drop] at hj
        · cases hj
      exact grow (by omega) (run_firstCells_some (P := P) w.drew i.size n ⟨b, o, none⟩ n c xs (by rw [hl, hik]; simp) (by simpa using holds))
theorem bv_zeros {l : List UInt8} {m : Nat} : l.map bv ++ List.replicate m (.int .u8 0) = (l ++ List.replicate m 0).map bv := by simp [bv]
section
variable {P : Program} {s : Slots} {h : Heap} {d : Option Tmp} {ty : TypeId} {pos : String} {af : Array Edge} {g : Option (Nat × Bool)} {x y : Operand} {t u : TypeId}
theorem OpV.maxn {a b : Nat} (hx : ev s x = .int .i64 (a : Int) := by exact rfl) (hy : ev s y = .int .i64 (b : Int) := by exact rfl) : OpV P ⟨d, .call ⟨.builtin .max, #[x, y], #[t, u]⟩, ty, pos, af, g⟩ s h (.int .i64 ((max a b : Nat) : Int)) := by
  have : ((max a b : Nat) : Int) = max (a : Int) (b : Int) := by omega
  rw [this]; exact OpV.max2 hx hy
/-- A function value is made. -/
theorem OpV.mkf {f : FuncId} {xs : Array Operand} {vs : List Value} (hx : xs.toList.map (ev s) = vs := by exact rfl) : OpV P ⟨d, .makeFunc (.func f) #[] xs, ty, pos, af, g⟩ s h (.func (.func f) #[] vs.toArray) := fun w _ => by
  have e : xs.map (ev s) = vs.toArray := by rw [← hx]; apply Array.ext'; simp
  simp [execOp, Instr.makeFunc, e]
end
/-- append(b, make([]byte, m)...). -/
theorem OpA.apz {P : Program} {s : Slots} {h0 h : Heap} {D : Nat → Prop} {M R : List Itm} {d : Option Tmp} {ty : TypeId} {pos : String} {af : Array Edge} {g : Option (Nat × Bool)} {x y : Operand} {t tn e : TypeId} {kn kq : IntKind} {a : Option Addr} {n c : Nat} {l : List UInt8} {z : Int} (m : Nat)
    (ht : elB P t = some e) (htn : inB P tn = some kn) (hk : szB P e = some 1) (hby : byB P e = some 1) (hz : zrB P e = some (.int .u8 0)) (ok : Hp h0 D (capI 1 e (a, n, c) (l.map bv) :: M) R h) (hm : z = m) (hfit : l.length + m ≤ 140737488355328)
    (hx : ev s x = .slice a n c := by exact rfl) (hy : ev s y = .int kq z := by exact rfl) :
    OpA P ⟨d, .call ⟨.builtin .append, #[x, y], #[t, tn]⟩, ty, pos, af, g⟩ s h (fun v' h' => ∃ a' c', v' = .slice a' (l ++ List.replicate m 0).length c' ∧ Hp h0 D (capI 1 e (a', (l ++ List.replicate m 0).length, c') ((l ++ List.replicate m 0).map bv) :: M) R h') := fun E w at' => by
  obtain ⟨v', h', w', ⟨q1, q2, q3⟩, at2, hr⟩ := run_appendZ (ty := ty) (kq := kq) ht htn hk hby hz ok.m0 (m := m) (by simpa using hfit) at'
  refine ⟨v', h', w', ?_, at2, by subst hm; simp [execOp, resolve, invoke, builtin, hx, hy, hr]⟩
  rw [bv_zeros] at q1
  obtain ⟨x', rfl⟩ := q1.form
  obtain ⟨a', n', c'⟩ := x'
  have hn : n' = (l ++ List.replicate m (0 : UInt8)).length := by
    have := q1.sl.cells.1
    simp only [List.length_map, Nat.mul_one] at this; exact this.symm
  subst hn
  exact ⟨a', c', rfl, ok.upd q2 (fun _ x => x) _ q1 fun j hj => (q3 j hj).elim .inl fun h1 => .inr ⟨h1, q1.lt hj⟩⟩
/-- copy(s[i:], src), where all of the source has room, whatever s is. -/
theorem OpA.cpyA {P : Program} {s : Slots} {h0 h : Heap} {D : Nat → Prop} {M R : List Itm} {d : Option Tmp} {ty : TypeId} {pos : String} {af : Array Edge} {g : Option (Nat × Bool)} {x y : Operand} {t t' e : TypeId} {a : Option Addr} {n c k : Nat} {a' : Option Addr} {m c' : Nat} {xs ys : List Value} (i : Nat)
    (ht : elB P t = some e) (hk : szB P e = some k) (ok : Hp h0 D (capI k e (a, n, c) xs :: M) R h) (hn : Sl h k (.slice a' m c') ys) (h1 : ∀ u ∈ ys, u.oneCell' = true)
    (hx : ev s x = .slice (cutA a i c k) (n - i) (c - i)) (hy : ev s y = .slice a' m c' := by exact rfl) (him : i + m ≤ n := by omega) :
    OpA P ⟨d, .call ⟨.builtin .copy, #[x, y], #[t, t']⟩, ty, pos, af, g⟩ s h (fun v h' => v = .int .i64 (m : Int) ∧ Hp h0 D (capI k e (a, n, c) (spl xs (i * k) ys) :: M) R h' ∧ Chg (blkC (sv (a, n, c))) h h') := by
  have hc : Cap h k e (.slice a n c) xs := ok.m0
  obtain ⟨a1, n1, c1, hv, hnc, _, hl, hr⟩ := id hc
  injection hv with e1 e2 e3; subst e1 e2 e3
  rcases hr with ⟨rfl, rfl⟩ | ⟨b, o, cs, fz, rfl, _⟩
  · have hm0 : m = 0 := by omega
    have hi0 : i = 0 := by omega
    have hn0 : n = 0 := by omega
    subst hm0 hi0 hn0
    have hr0 := hn.cells
    have hys : ys = [] := List.eq_nil_of_length_eq_zero (by simpa using hr0.1)
    subst hys
    have hxs : xs = [] := List.eq_nil_of_length_eq_zero (by simpa using hl)
    subst hxs
    refine fun E w at' => ⟨_, h, w, ⟨rfl, by simpa [spl] using ok, Chg.refl _ _⟩, at', ?_⟩
    have hf : (Builtin.firstCells k 0 (.slice a' 0 c')).run P w = .ok #[] w := by cases a' <;> simp [Builtin.firstCells, loadCells, loadCellsFrom]
    have hx' : ev s x = .slice none 0 0 := by rw [hx]; simp [cutA]
    simp [execOp, resolve, invoke, builtin, hx', hy, Builtin.copy_, run_und (elB_iff ht), Builtin.lenOf, run_szB hk, hf, goInt, storeCells]
  · exact OpA.mk (OpA.cpy (t' := t') i ht hk ok hn h1 hx hy him) fun v h' q => ⟨q.1, q.2.1, q.2.2.mono fun x _ hx => ⟨o, n, c, by rw [show x = b from hx]⟩⟩
end Go.HL

namespace Go.Proofs.Ytpebbkhainpfaaa
open Go Go.HL
structure RC where
  kind : Nat
  pos : Nat
  ba : Option Addr
  bc : Nat
  bl : List UInt8
def RC.abs (c : RC) : Chn := ⟨c.kind, c.pos, c.bl⟩
def RC.cells (c : RC) : List Value := [.int .i64 (c.kind : Int), .int .i64 (c.pos : Int), .slice c.ba c.bl.length c.bc]
theorem RC.cells_len (c : RC) : c.cells.length = 3 := rfl
structure RF where
  blk : Nat
  na : Option Addr
  nc : Nat
  nl : List UInt8
  sa : Option Addr
  sc : Nat
  sl : List UInt8
  here : Bool
  was : Bool
  oa : Option Addr
  oc : Nat
  ol : List RC
def RF.abs (f : RF) : Fl := ⟨f.nl, f.sl, f.here, f.was, f.ol.map RC.abs⟩
@[reducible] def fboxI (f : RF) : Itm := boxI f.blk 122 [.slice f.na f.nl.length f.nc, .slice f.sa f.sl.length f.sc, .bool f.here, .bool f.was, .slice f.oa f.ol.length f.oc]
@[reducible] def fopnI (f : RF) : Itm := capI 3 117 (f.oa, f.ol.length, f.oc) (f.ol.flatMap RC.cells)
def fileI (f : RF) : List Itm := [fboxI f, fopnI f]
abbrev Fs := List (List UInt8 × RF)
def flsI (fs : Fs) : Itm := starI (fs.flatMap fun p => fileI p.2)
def ptrF (f : RF) : Value := .pointer (some ⟨f.blk, 0, none⟩)
def ents (fs : Fs) : List (List UInt8 × Value) := fs.map fun p => (p.1, ptrF p.2)
def bget (fs : Fs) (n : List UInt8) : Option RF := (fs.find? fun p => p.1 = n).map (·.2)
def bput : Fs → List UInt8 → RF → Fs
  | [], n, f => [(n, f)]
  | p :: l, n, f => if p.1 = n then (n, f) :: l else p :: bput l n f
def bdel (fs : Fs) (n : List UInt8) : Fs := fs.filter fun p => decide (p.1 ≠ n)
structure RD where
  m : Nat
  fs : Fs
  dark : Bool
  left : Int
  chg : Int
def RD.abs (r : RD) : Dk := ⟨fun n => (bget r.fs n).map RF.abs, r.dark, r.left, r.chg⟩
@[reducible] def dboxI (d : Nat) (r : RD) : Itm := boxI d 113 [.map (some r.m), .bool r.dark, .int .i64 r.left, .int .i64 r.chg]
def dskI (d : Nat) (r : RD) : Itm := starI (dboxI d r :: mapI kvB r.m (ents r.fs) :: r.fs.flatMap fun p => fileI p.2)
section
variable {fs : Fs} {n m : List UInt8} {f g : RF}
theorem bget_mem : ∀ {fs : Fs}, bget fs n = some f → (n, f) ∈ fs
  | [], h => by simp [bget] at h
  | p :: l, h => by
    by_cases hp : p.1 = n
    · subst hp; simp [bget] at h; subst h; exact List.mem_cons_self
    · exact List.mem_cons_of_mem _ (bget_mem (fs := l) (by simpa [bget, hp] using h))
theorem bget_of (hn : (fs.map (·.1)).Nodup) (h : (n, f) ∈ fs) : bget fs n = some f := by
  induction fs with
  | nil => cases h
  | cons p l ih =>
    rcases List.mem_cons.1 h with rfl | h
    · simp [bget]
    · have h1 := List.nodup_cons.1 hn
      have : p.1 ≠ n := fun e => h1.1 (List.mem_map.2 ⟨_, h, e.symm⟩)
      simpa [bget, this] using ih h1.2 h
theorem bget_cons (p : List UInt8 × RF) (l : Fs) (n : List UInt8) : bget (p :: l) n = if p.1 = n then some p.2 else bget l n := by
  by_cases h : p.1 = n <;> simp [bget, h]
theorem bput_cons (p : List UInt8 × RF) (l : Fs) (n : List UInt8) (f : RF) : bput (p :: l) n f = if p.1 = n then (n, f) :: l else p :: bput l n f := rfl
theorem bget_put : bget (bput fs n f) m = if m = n then some f else bget fs m := by
  induction fs with
  | nil => by_cases h : n = m <;> simp [bput, bget, h, eq_comm]
  | cons p l ih =>
    rw [bput_cons]
    split
    · rename_i h
      rw [bget_cons, bget_cons]
      by_cases h2 : n = m
      · subst h2; simp
      · rw [if_neg h2, if_neg (by intro e; exact h2 e.symm), if_neg (by rw [h]; exact h2)]
    · rename_i h
      rw [bget_cons, bget_cons, ih]
      by_cases h2 : p.1 = m
      · rw [if_pos h2, if_pos h2, if_neg (by intro e; exact h (h2.trans e))]
      · rw [if_neg h2, if_neg h2]
theorem bget_del : bget (bdel fs n) m = if m = n then none else bget fs m := by
  induction fs with
  | nil => simp [bdel, bget]
  | cons p l ih =>
    rw [bget_cons]
    unfold bdel at ih ⊢
    rw [List.filter_cons]
    by_cases h : p.1 = n
    · simp only [h, ne_eq, not_true, decide_false]
      by_cases h2 : m = n
      · subst h2; simpa using ih
      · have h3 : ¬ n = m := fun e => h2 e.symm
        rw [if_neg h3]; simpa using ih
    · simp only [h, ne_eq, not_false_iff, decide_true, if_true]
      rw [bget_cons, ih]
      by_cases h2 : p.1 = m
      · have h3 : ¬ m = n := fun e => h (h2.trans e)
        simp [h2, h3]
      · simp [h2]
theorem bget_none_iff : bget fs n = none ↔ ∀ p ∈ fs, p.1 ≠ n := by
  induction fs with
  | nil => simp [bget]
  | cons p l ih =>
    rw [bget_cons]
    by_cases h : p.1 = n
    · simp [h]
    · simp [h, ih]
theorem bdel_none (h : bget fs n = none) : bdel fs n = fs := by
  unfold bdel
  rw [List.filter_eq_self]
  intro p hp
  simpa using bget_none_iff.1 h p hp
theorem perm_get (hn : (fs.map (·.1)).Nodup) (h : bget fs n = some f) : fs.Perm ((n, f) :: bdel fs n) := by
  induction fs with
  | nil => simp [bget] at h
  | cons p l ih =>
    have h1 := List.nodup_cons.1 hn
    rw [bget_cons] at h
    by_cases hp : p.1 = n
    · rw [if_pos hp] at h
      injection h with h
      have e : bdel (p :: l) n = l := by
        have : bget l n = none := bget_none_iff.2 fun q hq e => h1.1 (List.mem_map.2 ⟨q, hq, e.trans hp.symm⟩)
        have h2 := bdel_none this
        unfold bdel at h2 ⊢
        rw [List.filter_cons]; simp [hp]
        simpa using h2
      rw [e, ← h, ← hp]
    · rw [if_neg hp] at h
      have e : bdel (p :: l) n = p :: bdel l n := by unfold bdel; rw [List.filter_cons]; simp [hp]
      rw [e]
      exact ((ih h1.2 h).cons p).trans (.swap _ _ _)
theorem bdel_put : bdel (bput fs n f) n = bdel fs n := by
  induction fs with
  | nil => simp [bput, bdel]
  | cons p l ih =>
    rw [bput_cons]
    split
    · rename_i h; simp [bdel, h]
    · rename_i h; unfold bdel at ih ⊢; rw [List.filter_cons, List.filter_cons, ih]
theorem keys_put (f : RF) (h : bget fs n = some g) : (bput fs n f).map (·.1) = fs.map (·.1) := by
  induction fs with
  | nil => simp [bget] at h
  | cons p l ih =>
    rw [bput_cons]
    split
    · rename_i hp; simp [hp]
    · rename_i hp; rw [bget_cons, if_neg hp] at h; simp [ih h]
theorem bput_none (h : bget fs n = none) : bput fs n f = fs ++ [(n, f)] := by
  induction fs with
  | nil => rfl
  | cons p l ih =>
    rw [bget_cons] at h
    split at h
    · cases h
    · rename_i hp; rw [bput_cons, if_neg hp, ih h]; rfl
theorem nodup_put (hn : (fs.map (·.1)).Nodup) : ((bput fs n f).map (·.1)).Nodup := by
  cases h : bget fs n with
  | some g => rw [keys_put f h]; exact hn
  | none =>
    rw [bput_none h, List.map_append]
    refine List.nodup_append.2 ⟨hn, by simp, fun a ha b hb => ?_⟩
    obtain ⟨p, hp, rfl⟩ := List.mem_map.1 ha
    simp at hb; subst hb
    exact bget_none_iff.1 h p hp
theorem perm_put (hn : (fs.map (·.1)).Nodup) : (bput fs n f).Perm ((n, f) :: bdel fs n) := by
  have h := perm_get (fs := bput fs n f) (n := n) (f := f) (nodup_put hn) (by rw [bget_put, if_pos rfl])
  rwa [bdel_put] at h
theorem ents_keys : (ents fs).map (·.1) = fs.map (·.1) := by simp [ents, Function.comp_def]
theorem ents_get : aget (ents fs) n = (bget fs n).map ptrF := by
  induction fs with
  | nil => rfl
  | cons p l ih =>
    rw [bget_cons]
    by_cases h : p.1 = n
    · simp [ents, aget, h]
    · simpa [ents, aget, h] using ih
theorem ents_put : aput (ents fs) n (ptrF f) = ents (bput fs n f) := by
  induction fs with
  | nil => rfl
  | cons p l ih =>
    rw [bput_cons]
    by_cases h : p.1 = n
    · simp [ents, aput, h]
    · simpa [ents, aput, h] using ih
theorem ents_same (h : bget fs n = some g) (hb : f.blk = g.blk) : ents (bput fs n f) = ents fs := by
  induction fs with
  | nil => simp [bget] at h
  | cons p l ih =>
    rw [bput_cons]
    rw [bget_cons] at h
    by_cases hp : p.1 = n
    · rw [if_pos hp] at h ⊢
      injection h with h
      subst h
      simp [ents, hp, ptrF, hb]
    · rw [if_neg hp] at h ⊢
      simpa [ents] using ih h
theorem ents_del : adel (ents fs) n = ents (bdel fs n) := by simp [adel, ents, bdel, List.filter_map, Function.comp_def]
end
end Go.Proofs.Ytpebbkhainpfaaa
namespace Go.HL
open Go Go.Proofs.Ytpebbkhainpfaaa
section
variable {h0 h h' : Heap} {D G : Nat → Prop} {M R : List Itm} {d : Nat} {r r' : RD} {fs : Fs} {n : List UInt8} {f : RF} {E E' : Nat → Prop}
theorem Hp.dopn (ok : Hp h0 D (dskI d r :: M) R h) : Hp h0 D (dboxI d r :: mapI kvB r.m (ents r.fs) :: flsI r.fs :: M) R h := Hp.star2 ok
theorem Hp.dcls (ok : Hp h0 D (dboxI d r :: mapI kvB r.m (ents r.fs) :: flsI r.fs :: M) R h) : Hp h0 D (dskI d r :: M) R h := Hp.unstar2 ok
theorem Hp.fopn (hn : (fs.map (·.1)).Nodup) (hg : bget fs n = some f) (ok : Hp h0 D (flsI fs :: M) R h) : Hp h0 D (fboxI f :: fopnI f :: flsI (bdel fs n) :: M) R h :=
  Hp.star2 (Hp.starP (l' := ((n, f) :: bdel fs n).flatMap fun p : List UInt8 × RF => fileI p.2) ok ((perm_get hn hg).flatMap_right _).symm)
theorem Hp.fcls (hn : (fs.map (·.1)).Nodup) (ok : Hp h0 D (fboxI f :: fopnI f :: flsI (bdel fs n) :: M) R h) : Hp h0 D (flsI (bput fs n f) :: M) R h :=
  Hp.starP (l' := (bput fs n f).flatMap fun p : List UInt8 × RF => fileI p.2) (Hp.unstar2 ok) ((perm_put hn).flatMap_right _)
theorem MapT.nod {κ : Type} {kv : κ → Value} {l : List (κ × Value)} {k : Nat} (hm : MapT kv h k l) : (l.map (·.1)).Nodup := hm.nodup
structure ByF (h : Heap) (E : Nat → Prop) (f : RF) : Prop where
  now : RdL h E E (f.na, f.nl.length, f.nc) f.nl
  safe : RdL h E E (f.sa, f.sl.length, f.sc) f.sl
  opn : ∀ c ∈ f.ol, RdL h E E (c.ba, c.bl.length, c.bc) c.bl
theorem ByF.st (c : Chg G h h') (hE : ∀ j, E j → ¬ G j) (b : ByF h E f) : ByF h' E f := ⟨b.now.st c hE hE, b.safe.st c hE hE, fun x hx => (b.opn x hx).st c hE hE⟩
theorem ByF.mono (hE : ∀ j, E j → E' j) (b : ByF h E f) : ByF h E' f := ⟨b.now.mono hE hE, b.safe.mono hE hE, fun x hx => (b.opn x hx).mono hE hE⟩
def Bys (h : Heap) (E : Nat → Prop) (fs : Fs) : Prop := ∀ p ∈ fs, ByF h E p.2
@[reducible] def bysI (E : Nat → Prop) (fs : Fs) : Itm := ⟨fun h => Bys h E fs, E, fun _ _ _ c d b p hp => (b p hp).st c d⟩
theorem Bys.get (b : Bys h E fs) (hg : bget fs n = some f) : ByF h E f := b _ (bget_mem hg)
theorem Bys.mono (hE : ∀ j, E j → E' j) (b : Bys h E fs) : Bys h E' fs := fun p hp => (b p hp).mono hE
theorem mem_bput {fs : Fs} {n : List UInt8} {f : RF} {p : List UInt8 × RF} (h : p ∈ bput fs n f) : p = (n, f) ∨ p ∈ fs := by
  induction fs with
  | nil => simp [bput] at h; exact .inl h
  | cons q l ih =>
    rw [bput_cons] at h
    split at h
    · rcases List.mem_cons.1 h with h | h
      · exact .inl h
      · exact .inr (List.mem_cons_of_mem _ h)
    · rcases List.mem_cons.1 h with h | h
      · exact .inr (by rw [h]; exact List.mem_cons_self)
      · exact (ih h).imp id (List.mem_cons_of_mem _)
theorem Bys.put (b : Bys h E fs) (hf : ByF h E f) : Bys h E (bput fs n f) := fun p hp => by
  rcases mem_bput hp with rfl | hp
  · exact hf
  · exact b p hp
theorem Bys.del (b : Bys h E fs) : Bys h E (bdel fs n) := fun p hp => b p ((List.mem_filter.1 hp).1)
/-- What a call leaves of a disk. -/
structure DUp (h h' : Heap) (d : Nat) (r r' : RD) (E E' : Nat → Prop) : Prop where
  hp : Hp h (dskI d r).F [dskI d r'] [bysI E' r'.fs] h'
  new : ∀ j, E' j → E j ∨ h.size ≤ j
theorem Hp.loc1 {a b : Itm} (ok : Hp h0 D (a :: M) (b :: R) h) : Hp h a.F [a] [b] h :=
  ⟨Chg.refl _ _, fun i hi => by
    rw [List.mem_singleton.1 hi]
    exact ⟨ok.m0, fun j hj => ⟨((ok.m a List.mem_cons_self).2 j hj).1, .inl hj⟩⟩, fun i hi => by
    rw [List.mem_singleton.1 hi]
    exact ok.r b List.mem_cons_self, List.pairwise_singleton _ _, fun x hx y hy => by
    rw [List.mem_singleton.1 hx, List.mem_singleton.1 hy]
    exact ok.mr a List.mem_cons_self b List.mem_cons_self⟩
theorem Hp.loc2 {a b c : Itm} (ok : Hp h0 D (a :: M) (b :: c :: R) h) : Hp h a.F [a] [b, c] h :=
  ⟨Chg.refl _ _, fun i hi => by
    rw [List.mem_singleton.1 hi]
    exact ⟨ok.m0, fun j hj => ⟨((ok.m a List.mem_cons_self).2 j hj).1, .inl hj⟩⟩, fun i hi => ok.r i (by simp at hi ⊢; rcases hi with h | h <;> simp [h]), List.pairwise_singleton _ _, fun x hx y hy => by
    rw [List.mem_singleton.1 hx]
    exact ok.mr a List.mem_cons_self y (by simp at hy ⊢; rcases hy with h | h <;> simp [h])⟩
theorem Hp.rdo {a b : Itm} (ok : Hp h0 D (a :: M) (b :: R) h) : Hp h none_ [] [a, b] h :=
  ⟨Chg.refl _ _, by simp, fun i hi => by
    rcases List.mem_cons.1 hi with rfl | hi
    · exact ⟨ok.m0, fun j hj => ((ok.m i List.mem_cons_self).2 j hj).1⟩
    · rw [List.mem_singleton.1 hi]; exact ok.r b List.mem_cons_self, .nil, by simp⟩
theorem Hp.dsk (ok : Hp h0 D (dskI d r :: M) (bysI E r.fs :: R) h) (q : DUp h h' d r r' E E') : Hp h0 D (dskI d r' :: M) (bysI E' r'.fs :: R) h' := by
  have o := ok.upd q.hp.chg (fun _ x => x) (dskI d r') q.hp.m0 fun j hj => by
    have h1 := (q.hp.m _ List.mem_cons_self).2 j hj
    exact h1.2.imp id fun h => ⟨h, h1.1⟩
  refine ⟨o.chg, o.m, fun i hi => ?_, o.mm, fun x hx y hy j hj hj2 => ?_⟩
  · rcases List.mem_cons.1 hi with rfl | hi
    · exact q.hp.r _ List.mem_cons_self
    · exact o.r i (List.mem_cons_of_mem _ hi)
  · rcases List.mem_cons.1 hy with rfl | hy
    · rcases List.mem_cons.1 hx with rfl | hx
      · exact q.hp.mr _ List.mem_cons_self _ List.mem_cons_self j hj hj2
      · rcases q.new j hj2 with h1 | h1
        · exact ok.mr x (List.mem_cons_of_mem _ hx) _ List.mem_cons_self j hj h1
        · have := ((ok.m x (List.mem_cons_of_mem _ hx)).2 j hj).1
          omega
    · exact o.mr x hx y (List.mem_cons_of_mem _ hy) j hj hj2
theorem Hp.up {R' : List Itm} (q : Hp h (dskI d r).F [dskI d r'] (bysI E' r'.fs :: R') h') (hE : ∀ j, E' j → E j ∨ h.size ≤ j) : DUp h h' d r r' E E' := ⟨q.sub (by simp), hE⟩
/-- One item turned into another. -/
theorem Hp.lift1 {a b : Itm} (ok : Hp h0 D (a :: M) R h) (q : Hp h a.F [b] [] h') : Hp h0 D (b :: M) R h' :=
  ok.upd q.chg (fun _ x => x) b q.m0 fun j hj => by
    have h1 := (q.m _ List.mem_cons_self).2 j hj
    exact h1.2.imp id fun h => ⟨h, h1.1⟩
theorem Hp.loc0 {a : Itm} (ok : Hp h0 D (a :: M) R h) : Hp h a.F [a] [] h :=
  ⟨Chg.refl _ _, fun i hi => by
    rw [List.mem_singleton.1 hi]
    exact ⟨ok.m0, fun j hj => ⟨((ok.m a List.mem_cons_self).2 j hj).1, .inl hj⟩⟩, by simp, List.pairwise_singleton _ _, by simp⟩
end
end Go.HL

namespace Go.Proofs.Ytpebbkhainpfaaa
open Go Go.HL
theorem long_cut {h0 h : Heap} {D : Nat → Prop} {M R : List Itm} {e : TypeId} {a : Option Addr} {c n : Nat} {l : List UInt8} (ok : Hp h0 D (capI 1 e (a, l.length, c) (l.map bv) :: M) R h) (hn : n ≤ l.length) : Hp h0 D (capI 1 e (a, (longN l n).length, n) ((longN l n).map bv) :: M) R h := by
  have h1 := Cap.clip (Cap.pre ok.m0 hn)
  rw [Nat.mul_one, ← List.map_take, ← longN_le hn] at h1
  refine ok.re _ (by simp only [longN_len]; exact h1) fun j hj => ?_
  obtain ⟨o, n', c', hv⟩ := hj
  injection hv with h1 h2 h3
  exact ⟨o, _, _, by rw [← h1]⟩

set_option maxRecDepth 100000 in
set_option maxHeartbeats 2000000 in
theorem long_any {h : Heap} {n : Nat} {a : Option Addr} {c : Nat} {l : List UInt8} (ok : Hp h (blkC (sv (a, l.length, c))) [capI 1 5 (a, l.length, c) (l.map bv)] [] h) (hN : l.length ≤ 100000000) (hn : n ≤ 100000000) :
    HC Try.prog 109 #[.slice a l.length c, .int .i64 (n : Int)] h (fun v h' => ∃ a' c', v = .slice a' (longN l n).length c' ∧ Hp h (blkC (sv (a, l.length, c))) [capI 1 5 (a', (longN l n).length, c') ((longN l n).map bv)] [] h') := by
  have hle : l.length ≤ c := Cap.le ok.m0
  refine HC.go Try.func109 19 ?_
  refine .seq <| .r <| .w 4 .asS <| .nil ?_
  refine .seq <| .seq <| .r <| .w 5 .mvI <| .w 6 .mvS <| .w 7 (.len T.el22) <| .w 8 .leq <| .nil ?_
  refine .cd (fun C0 => ?_) (fun C0 => ?_)
  · --
    refine .seq <| .r <| .w 9 .mvS <| .w 10 .mvI <| .w 11 .mvI <| .w 12 (.slhm n n T.el22 T.sz5) <| .w 4 .asS <| .nil ?_
    refine .ret ⟨.slice a n n, Res.one rfl rfl, ⟨a, n, by rw [longN_len], long_cut ok (by omega)⟩⟩
  refine .skip <| .seq <| .r <| .w 13 .mvS <| .w 14 .mvI <| .w 15 .mvS <| .w 16 (.len T.el22) <| .w 17 .sub <| .a' 18 (.apz (z := ((n : Int) - (l.length : Int))) (n - l.length) T.el22 T.in3 T.sz5 T.by5 T.zr5 ok (by omega) (by omega)) ?_
  rintro _ η1 ⟨ya1, yc1, rfl, ok⟩
  refine .w 4 .asS <| .nil ?_
  refine .ret ⟨.slice ya1 ((l ++ List.replicate (n - l.length) 0).length) yc1, Res.one rfl rfl, ⟨_, _, by rw [longN_ge (by omega)], by rw [longN_ge (by omega)]; exact ok⟩⟩

theorem done0 {pos : Nat} {bl l : List UInt8} {here : Bool} : doneN ⟨0, pos, bl⟩ l here = (patchN (longN l (max l.length (pos + bl.length))) pos bl, true) := by simp [doneN]
theorem done1 {pos : Nat} {bl l : List UInt8} : doneN ⟨1, pos, bl⟩ l true = (longN l pos, true) := by simp [doneN]
theorem done2 {kind pos : Nat} {bl l : List UInt8} {here : Bool} (h1 : kind ≠ 0) (h2 : kind = 1 → here = false) : doneN ⟨kind, pos, bl⟩ l here = ([], false) := by
  unfold doneN
  rw [if_neg h1, if_neg]
  rintro ⟨h3, h4⟩
  simp only at h3
  rw [h2 h3] at h4; cases h4
theorem spl_patch {o b : List UInt8} {p : Nat} : spl (o.map bv) (p * 1) (b.map bv) = (patchN o p b).map bv := by simp [spl, patchN]

set_option maxRecDepth 100000 in
set_option maxHeartbeats 2000000 in
theorem done_any {h : Heap} {F E F2 E2 : Nat → Prop} {kind pos : Nat} {ba a : Option Addr} {bc c : Nat} {bl l : List UInt8} {here : Bool} (hb : RdL h F2 E2 (ba, bl.length, bc) bl) (hl : RdL h F E (a, l.length, c) l) (hp : pos + bl.length ≤ 16777216) (hL : l.length ≤ 16777216) :
    HC Try.prog 84 #[.agg #[.int .i64 (kind : Int), .int .i64 (pos : Int), .slice ba bl.length bc], .slice a l.length c, .bool here] h (fun v h' => ∃ w, v = .tuple #[w, .bool (doneN ⟨kind, pos, bl⟩ l here).2] ∧ Own h h' 1 5 w ((doneN ⟨kind, pos, bl⟩ l here).1.map bv)) := by
  have ok := ((Hp.nil h none_).arg hb).arg hl
  refine HC.go Try.func84 45 ?_
  refine .seq <| .r <| .a' 3 (.bxA (cs := [.int .i64 (kind : Int), .int .i64 (pos : Int), .slice ba bl.length bc]) ok) ?_
  rintro _ η1 ⟨pb1, rfl, ok, xe⟩
  refine .w 6 .asS <| .w 7 .asB <| .nil ?_
  refine .seq <| .block fun K0 hK0 => .seq <| .r <| .w 10 (.fa T.fd117_0) <| .w 11 (.ldx T.ag3 ok.m0) <| .w 12 .eql <| .w 9 .asB <| .nil ?_
  refine .cd (fun C0 => ?_) (fun C0 => ?_)
  · --
    refine .seq <| .a 13 (fun fl hh => Hp h none_ [boxI pb1 117 [.int .i64 (kind : Int), .int .i64 (pos : Int), .slice ba bl.length bc]] [rdI (fun j => F j ∧ j < h.size) (fun j => E j ∧ j < h.size) (a, l.length, c) l, rdI (fun j => F2 j ∧ j < h.size) (fun j => E2 j ∧ j < h.size) (ba, bl.length, bc) bl] hh) mixed ?_
    have hS := ok
    refine .g 0 false rfl 13 hS (fun _ => .mvS) <| .g 2 false rfl 15 hS (fun _ => .mvS) <| .g 3 false rfl 16 hS (fun _ => .len T.el22) <| .g 4 false rfl 17 hS (fun _ => .fa T.fd117_1) <| .lw 5 false rfl 18 hS (fun _ _ hS => .ldx T.ag3 hS.m0) <| .g 6 false rfl 19 hS (fun _ => .fa T.fd117_2) <| .lw 7 false rfl 20 hS (fun _ _ hS => .ldx T.ag22 hS.m0) <| .g 8 false rfl 21 hS (fun _ => .len T.el22) <| .g 9 false rfl 22 hS (fun _ => .addI) <| .g 10 false rfl 23 hS (fun _ => .maxn) <| .o1 1 <| .c' false rfl 14 .func (bclone_any (a := a) (c := c) (l := l) ok.r0 (by omega)) ?_
    rintro _ η2 own
    obtain ⟨ya1, yc1, rfl⟩ := own.formB
    have ok := ok.own own
    refine ⟨ok.n1.k1, ?_⟩
    have hS := ok.n1.k1
    refine .o1 11 <| .c' false rfl 24 .func (long_any (n := (max l.length (pos + bl.length))) (ok).loc0 (by omega) (by omega)) ?_
    rintro _ η3 ⟨ya2, yc2, rfl, q⟩
    have ok := (ok).lift1 q
    refine ⟨ok.n1.k1, ?_⟩
    have hS := ok.n1.k1
    refine .g 12 false rfl 8 hS (fun _ => .asS) <| .e ?_
    refine .seq <| .t 6 mixed ?_
    simp only [List.take_succ_cons, List.take_zero, List.drop_succ_cons, List.drop_zero]
    refine .w 25 .mvS <| .w 26 (.fa T.fd117_1) <| .w 27 (.ldx T.ag3 ok.m1) <| .w 28 (.sll pos T.el22 T.sz5 (hb := by rw [longN_len]; omega)) <| .w 29 (.fa T.fd117_2) <| .w 30 (.ldx T.ag22 ok.m1) <| .nil ?_
    refine .a' 31 (.cpyA (n := (longN l (max l.length (pos + bl.length))).length) (ys := bl.map bv) (m := bl.length) pos T.el22 T.sz5 ok ok.r1.by bv_all rfl (him := by rw [longN_len]; omega)) ?_
    rintro _ η4 ⟨rfl, ok, cg⟩
    refine .nil ?_
    refine .seq <| .r <| .w 32 .mvS <| .w 6 .asS <| .w 7 .asB <| .nil ?_
    refine .ret ⟨.tuple #[.slice ya2 ((longN l (max l.length (pos + bl.length))).length) yc2, .bool true], Res.two rfl rfl rfl, ⟨_, by rw [show kind = 0 from by omega, done0], by rw [show kind = 0 from by omega, done0]; have ok := (ok).cx spl_patch; exact ok.toOwn⟩⟩
  refine .seq <| .r <| .w 34 (.fa T.fd117_0) <| .w 35 (.ldx T.ag3 ok.m0) <| .w 36 .eql <| .w 37 .mvB <| .sd (fun G37 => ?_) (fun G37 => ?_)
  ·
    refine .w 38 .mvB <| .w 39 .pkt <| .w 33 .asB <| .nil ?_
    refine .cond (fun C1 => ?_) (fun C1 => ?_)
    · --
      refine .seq <| .a 4 (fun fl hh => cond fl True (Hp h none_ [boxI pb1 117 [.int .i64 (kind : Int), .int .i64 (pos : Int), .slice ba bl.length bc]] [rdI (fun j => F j ∧ j < h.size) (fun j => E j ∧ j < h.size) (a, l.length, c) l, rdI (fun j => F2 j ∧ j < h.size) (fun j => E2 j ∧ j < h.size) (ba, bl.length, bc) bl] hh)) mixed ?_
      have hS := ok
      refine .g 0 false rfl 40 hS (fun _ => .mvS) <| .g 2 false rfl 42 hS (fun _ => .fa T.fd117_1) <| .l 3 false rfl 43 hS (fun _ hS => .ldx T.ag3 hS.m0) <| .o1 1 <| .c' false rfl 41 .func (bclone_any (a := a) (c := c) (l := l) ok.r0 (by omega)) ?_
      rintro _ η5 own
      obtain ⟨ya3, yc3, rfl⟩ := own.formB
      have ok := ok.own own
      refine ⟨ok.n1.k1, ?_⟩
      have hS := ok.n1.k1
      refine .o1 4 <| .c' true rfl 44 .func (long_any (n := pos) (ok).loc0 (by omega) (by omega)) ?_
      rintro _ η6 ⟨ya4, yc4, rfl, q⟩
      have ok := (ok).lift1 q
      refine ⟨trivial, ?_⟩
      refine .g 5 true rfl 6 trivial (fun _ => .asS) <| .g 6 true rfl 7 trivial (fun _ => .asB) <| .e ?_
      refine .ret ⟨.tuple #[.slice ya4 ((longN l pos).length) yc4, .bool true], Res.two rfl rfl rfl, ⟨_, by rw [show kind = 1 from by omega, C1, done1], by rw [show kind = 1 from by omega, C1, done1]; exact (ok).toOwn⟩⟩
    refine .skip <| .end <| hK0 _ _ <| .seq <| .r <| .w 6 .asS <| .w 7 .asB <| .nil ?_
    refine .ret ⟨.tuple #[.slice none 0 0, .bool false], Res.two rfl rfl rfl, ⟨_, by rw [done2 (by omega) (by intro h1; first | exact absurd h1 (by omega) | simpa using C1)], by rw [done2 (by omega) (by intro h1; first | exact absurd h1 (by omega) | simpa using C1)]; exact ok.tM.nilC.toOwn⟩⟩
  refine .x 38 <| .w 39 .pkf <| .w 33 .asB <| .nil ?_
  refine .cf <| .skip <| .end <| hK0 _ _ <| .seq <| .r <| .w 6 .asS <| .w 7 .asB <| .nil ?_
  refine .ret ⟨.tuple #[.slice none 0 0, .bool false], Res.two rfl rfl rfl, ⟨_, by rw [done2 (by omega) (by intro h1; first | exact absurd h1 (by omega) | simpa using C1)], by rw [done2 (by omega) (by intro h1; first | exact absurd h1 (by omega) | simpa using C1)]; exact ok.tM.nilC.toOwn⟩⟩

theorem kept0 {kind pos k : Nat} {bl : List UInt8} (h : kind ≠ 0) : keptN ⟨kind, pos, bl⟩ k = (⟨kind, pos, bl⟩, decide (128 ≤ k)) := by simp [keptN, h]
theorem kept1 {kind pos k : Nat} {bl : List UInt8} (h : kind = 0) (hk : k ≠ 255) : keptN ⟨kind, pos, bl⟩ k = (⟨kind, pos, bl.take (bl.length * k / 255)⟩, decide (k ≠ 0)) := by simp [keptN, h, hk]
theorem kept2 {kind pos k : Nat} {bl : List UInt8} (h : kind = 0) (hk : k = 255) : keptN ⟨kind, pos, bl⟩ k = (⟨kind, pos, bl⟩, decide (k ≠ 0)) := by simp [keptN, h, hk]

set_option maxRecDepth 100000 in
set_option maxHeartbeats 2000000 in
theorem kept_any {h : Heap} {kind pos k : Nat} {ba : Option Addr} {bc : Nat} {bl : List UInt8} (hL : bl.length ≤ 16777216) (hbc : bl.length ≤ bc) (hk : k < 256) :
    HC Try.prog 83 #[.agg #[.int .i64 (kind : Int), .int .i64 (pos : Int), .slice ba bl.length bc], .int .u8 (k : Int)] h (fun v h' => v = .tuple #[.agg #[.int .i64 ((keptN ⟨kind, pos, bl⟩ k).1.kind : Int), .int .i64 ((keptN ⟨kind, pos, bl⟩ k).1.pos : Int), .slice ba (keptN ⟨kind, pos, bl⟩ k).1.b.length bc], .bool (keptN ⟨kind, pos, bl⟩ k).2] ∧ Ext h h') := by
  have ok := Hp.nil h none_
  have hm : bl.length * k ≤ 16777216 * 255 := Nat.mul_le_mul hL (by omega)
  have hq : bl.length * k / 255 ≤ bl.length := by
    have : bl.length * k ≤ bl.length * 255 := Nat.mul_le_mul_left _ (by omega)
    omega
  refine HC.go Try.func83 28 ?_
  refine .seq <| .r <| .a' 2 (.bxA (cs := [.int .i64 (kind : Int), .int .i64 (pos : Int), .slice ba bl.length bc]) ok) ?_
  rintro _ η1 ⟨pb1, rfl, ok, xe⟩
  refine .a' 4 (.alA T.zr117 ok) ?_
  rintro _ η2 ⟨pb2, rfl, ok, xe⟩
  refine .w 5 .asB <| .nil ?_
  refine .seq <| .seq <| .r <| .w 6 (.fa T.fd117_0) <| .w 7 (.ldx T.ag3 ok.m1) <| .w 8 .neq <| .nil ?_
  refine .cd (fun C0 => ?_) (fun C0 => ?_)
  · --
    refine .seq <| .r <| .w 9 (.ldb T.ag117 ok.m1 T.sz117) <| .w 10 .mvI <| .w 11 .geq <| .ur' (.stW (vs := [.int .i64 (kind : Int), .int .i64 (pos : Int), .slice ba bl.length bc]) T.sz117 ok (oneL rfl)) ?_
    rintro η3 ⟨ok, cg⟩
    refine .w 5 .asB <| .nil ?_
    refine .ret ⟨.tuple #[.agg #[.int .i64 (kind : Int), .int .i64 (pos : Int), .slice ba bl.length bc], .bool (decide (128 ≤ (k : Int)))], Res.many (vs := [.agg #[.int .i64 (kind : Int), .int .i64 (pos : Int), .slice ba bl.length bc], .bool (decide (128 ≤ (k : Int)))]) rfl ⟨⟨_, rfl, load_ag T.ag117 ok.m0 T.sz117⟩, rfl, trivial⟩ rfl, ⟨(by rw [kept0 (by omega)]; refine congrArg (fun b => Value.tuple #[_, Value.bool b]) ?_; exact decide_eq_decide.2 (by omega)), ok.chg⟩⟩
  refine .skip <| .seq <| .seq <| .r <| .w 12 .mvI <| .w 13 .neq <| .nil ?_
  refine .cd (fun C1 => ?_) (fun C1 => ?_)
  · --
    refine .r <| .w 14 (.fa T.fd117_2) <| .w 15 (.ldx T.ag22 ok.m1) <| .w 16 (.fa T.fd117_2) <| .w 17 (.ldx T.ag22 ok.m1) <| .w 18 (.len T.el22) <| .w 19 .mvI <| .w 20 (.cvi T.in3 T.in5) <| .w 21 (.mulI (hr := (by omega))) <| .w 22 .quo <| .w 23 (.sl_h (bl.length * k / 255) T.el22 T.sz5) <| .w 24 (.fa T.fd117_2) <| .ur' (.stS T.sz22 ok.n1) ?_
    rintro η4 ⟨ok, cg⟩
    refine .nil ?_
    refine .seq <| .r <| .w 25 (.ldb T.ag117 ok.m0 T.sz117) <| .w 26 .mvI <| .w 27 .neq <| .ur' (.stW (vs := [.int .i64 (kind : Int), .int .i64 (pos : Int), .slice ba (bl.length * k / 255) bc]) T.sz117 ok.n1 (oneL rfl)) ?_
    rintro η5 ⟨ok, cg⟩
    refine .w 5 .asB <| .nil ?_
    refine .ret ⟨.tuple #[.agg #[.int .i64 (kind : Int), .int .i64 (pos : Int), .slice ba (bl.length * k / 255) bc], .bool (decide ((k : Int) ≠ 0))], Res.many (vs := [.agg #[.int .i64 (kind : Int), .int .i64 (pos : Int), .slice ba (bl.length * k / 255) bc], .bool (decide ((k : Int) ≠ 0))]) rfl ⟨⟨_, rfl, load_ag T.ag117 ok.m0 T.sz117⟩, rfl, trivial⟩ rfl, ⟨(by rw [kept1 (by omega) (by omega)]; simp only [List.length_take, Nat.min_eq_left hq]; refine congrArg (fun b => Value.tuple #[_, Value.bool b]) ?_; exact decide_eq_decide.2 (by omega)), ok.chg⟩⟩
  refine .skip <| .seq <| .r <| .w 25 (.ldb T.ag117 ok.m1 T.sz117) <| .w 26 .mvI <| .w 27 .neq <| .ur' (.stW (vs := [.int .i64 (kind : Int), .int .i64 (pos : Int), .slice ba bl.length bc]) T.sz117 ok (oneL rfl)) ?_
  rintro η6 ⟨ok, cg⟩
  refine .w 5 .asB <| .nil ?_
  refine .ret ⟨.tuple #[.agg #[.int .i64 (kind : Int), .int .i64 (pos : Int), .slice ba bl.length bc], .bool (decide ((k : Int) ≠ 0))], Res.many (vs := [.agg #[.int .i64 (kind : Int), .int .i64 (pos : Int), .slice ba bl.length bc], .bool (decide ((k : Int) ≠ 0))]) rfl ⟨⟨_, rfl, load_ag T.ag117 ok.m0 T.sz117⟩, rfl, trivial⟩ rfl, ⟨(by rw [kept2 (by omega) (by omega)]; refine congrArg (fun b => Value.tuple #[_, Value.bool b]) ?_; exact decide_eq_decide.2 (by omega)), ok.chg⟩⟩

end Go.Proofs.Ytpebbkhainpfaaa

namespace Go.Proofs.Ytpebbkhainpfaaa
open Go Go.HL
theorem RdL.ofCapI {h : Heap} {e : TypeId} {v : SV} {l : List Int} (c : Cap h 1 e (sv v) (l.map iv)) : RdL h any_ any_ v l := (RdL.of_cap1 (E := any_) (f := iv) rfl (fun _ _ _ => rfl) c).mono (fun _ _ => trivial) (fun _ h => h)
theorem wrong1 {d : Dk} {n : List UInt8} {zs : List Int} (h : n.length < 1 ∨ 32 < n.length ∨ ∃ z ∈ zs, z < 0) : wrongN d n zs = 1 := by unfold wrongN; rw [if_pos h]
theorem wrong13 {d : Dk} {n : List UInt8} {zs : List Int} (h : ¬ (n.length < 1 ∨ 32 < n.length ∨ ∃ z ∈ zs, z < 0)) (hd : d.dark = true) : wrongN d n zs = 13 := by unfold wrongN; rw [if_neg h, if_pos hd]
theorem wrong0 {d : Dk} {n : List UInt8} {zs : List Int} (h : ¬ (n.length < 1 ∨ 32 < n.length ∨ ∃ z ∈ zs, z < 0)) (hd : ¬ d.dark = true) : wrongN d n zs = 0 := by unfold wrongN; rw [if_neg h, if_neg hd]

set_option maxRecDepth 100000 in
set_option maxHeartbeats 2000000 in
theorem neg_any {h : Heap} {z : Int} :
    HC Try.prog 98 #[.int .i64 z] h (fun v h' => v = .bool (decide (z < 0)) ∧ h' = h) := by
  refine HC.go Try.func98 5 ?_
  refine .seq <| .r <| .w 2 .asB <| .nil ?_
  refine .seq <| .r <| .w 3 .mvI <| .w 4 .lss <| .w 2 .asB <| .nil ?_
  refine .ret ⟨.bool (decide (z < 0)), Res.one rfl rfl, ⟨rfl, rfl⟩⟩

set_option maxRecDepth 100000 in
set_option maxHeartbeats 2000000 in
theorem ixf_any {h : Heap} {F E : Nat → Prop} {a : Option Addr} {c : Nat} {l : List Int} (hl : RdL h F E (a, l.length, c) l) :
    HC Try.prog 117 #[.slice a l.length c, .func (.func 98) #[] #[]] h (fun v h' => ∃ i : Int, v = .int .i64 i ∧ ((0 ≤ i ∧ ∃ z ∈ l, z < 0) ∨ (i < 0 ∧ ¬ ∃ z ∈ l, z < 0)) ∧ h' = h) := by
  have hc2 := hl.m
  have hc1 : l.length ≤ c := hl.c
  simp only at hc2
  refine HC.go Try.func117 19 ?_
  refine .seq <| .r <| .w 4 .asI <| .nil ?_
  refine .seq <| .seq <| .r <| .w 6 .mvS <| .w 7 (.len T.el101) <| .w 8 .mvI <| .nil ?_
  refine .block fun K0 hK0 => .loop (fun m s hh => ∃ (i : Nat), Has s [(0, .slice a l.length c), (1, .func (.func 98) #[] #[]), (7, .int .i64 (l.length : Int)), (8, .int .i64 (i : Int))] ∧ h = hh ∧ i ≤ l.length ∧ (∀ j (hj : j < l.length), j < i → ¬ l[j] < 0) ∧ m = l.length - i) ?_ ?_
  · exact ⟨_, 0, ⟨rfl, rfl, rfl, rfl, trivial⟩, rfl, Nat.zero_le _, fun _ _ h => absurd h (by omega), rfl⟩
  rintro _ _ _ ⟨i, hs, rfl, hi, hz, rfl⟩ J0 hJ0
  refine .frame hs fun τ => ?_
  refine .seq <| .r <| .w 9 .lss <| .nil ?_
  refine .seq <| .cdr (fun C0 => ?_) (fun C0 => ?_)
  · --
    have hil : i = l.length := by omega
    refine .exit <| hK0 _ _ <| .seq <| .r <| .w 4 .asI <| .nil ?_
    refine .ret ⟨.int .i64 (-1), Res.one rfl rfl, ⟨_, rfl, .inr ⟨by decide, fun ⟨z, hzm, hz0⟩ => (by obtain ⟨j, hj, rfl⟩ := List.mem_iff_getElem.1 hzm; exact hz j hj (by omega) hz0)⟩, rfl⟩⟩
  have hil : i < l.length := by omega
  refine .skip <| .seq <| .block fun K1 hK1 => .seq <| .r <| .w 10 .mvI <| .w 5 .asI <| .nil ?_
  refine .seq <| .r <| .w 11 .mvF <| .w 12 .mvS <| .w 13 .mvI <| ?_
  obtain ⟨bb1, oo1, rfl, fb1⟩ := hl.pos (by omega)
  refine .w 14 (.ix1 i T.el101 T.sz3) <| .w 15 (.ld T.ag3 (hl.i64 (i := i) (by omega))) <| .k 16 .dyn (neg_any (z := l[i])) <| .nil ?_
  refine .cd (fun C1 => ?_) (fun C1 => ?_)
  · --
    refine .seq <| .r <| .w 17 .mvI <| .w 4 .asI <| .nil ?_
    refine .ret ⟨.int .i64 (i : Int), Res.one rfl rfl, ⟨_, rfl, .inl ⟨by omega, _, List.getElem_mem hil, C1⟩, rfl⟩⟩
  refine .skip <| .end <| hK1 _ _ <| .r <| .w 18 (.addI (b := 1)) <| .w 8 .mvI <| .nil ?_
  refine .end <| hJ0 _ _ _ ⟨i + 1, ⟨rfl, rfl, rfl, rfl, trivial⟩, rfl, by omega, fun j hj h => (by by_cases hji : j = i; (subst hji; exact C1); exact hz j hj (by omega)), rfl⟩ (by omega)

set_option maxRecDepth 100000 in
set_option maxHeartbeats 2000000 in
theorem anyneg_any {h : Heap} {F E : Nat → Prop} {a : Option Addr} {c : Nat} {l : List Int} (hl : RdL h F E (a, l.length, c) l) :
    HC Try.prog 97 #[.slice a l.length c, .func (.func 98) #[] #[]] h (fun v h' => v = .bool (decide (∃ z ∈ l, z < 0)) ∧ h' = h) := by
  have hc2 := hl.m
  have hc1 : l.length ≤ c := hl.c
  simp only at hc2
  refine HC.go Try.func97 9 ?_
  refine .seq <| .r <| .w 4 .asB <| .nil ?_
  refine .seq <| .r <| .w 5 .mvS <| .w 6 .mvF <| .c' 7 .func (ixf_any (a := a) (c := c) (l := l) hl) ?_
  rintro _ _ ⟨ix1, rfl, hix1, heq⟩
  obtain rfl := heq.symm
  refine .w 8 .geq <| .w 4 .asB <| .nil ?_
  refine .ret ⟨.bool (decide (0 ≤ ix1)), Res.one rfl rfl, ⟨congrArg Value.bool (decide_eq_decide.2 ⟨fun h1 => hix1.elim (·.2) fun h2 => absurd h1 (by omega), fun h1 => hix1.elim (·.1) fun h2 => absurd h1 h2.2⟩), rfl⟩⟩

set_option maxRecDepth 100000 in
set_option maxHeartbeats 2000000 in
theorem wrong_any {h : Heap} {F E : Nat → Prop} {d : Nat} {r : RD} {n : List UInt8} {a : Option Addr} {c : Nat} {l : List Int} (hd : (dboxI d r).p h) (hl : RdL h F E (a, l.length, c) l) :
    HC Try.prog 65 #[.pointer (some ⟨d, 0, none⟩), .string (BA n), .slice a l.length c] h (fun v h' => v = .int .i64 (wrongN r.abs n l : Int) ∧ h' = h) := by
  have hc2 := hl.m
  have hc1 : l.length ≤ c := hl.c
  simp only at hc2
  refine HC.go Try.func65 28 ?_
  refine .seq <| .r <| .w 6 .asI <| .nil ?_
  refine .seq <| .block fun K0 hK0 => .seq <| .r <| .w 8 .mvP <| .w 9 (.pEqS T.pt57) <| .w 7 .asB <| .nil ?_
  refine .cf <| .seq <| .r <| .w 11 .mvT <| .w 12 (.lenT T.st9) <| .w 13 .lss <| .w 14 .mvB <| .sd (fun G14 => ?_) (fun G14 => ?_)
  ·
    refine .x 15 <| .x 16 <| .x 17 <| .w 18 .pkt <| .w 19 .mvB <| .x 20 <| .x 21 <| .w 22 .pkt <| .w 10 .asB <| .nil ?_
    refine .ct <| .seq <| .r <| .w 6 .asI <| .nil ?_
    refine .ret ⟨.int .i64 1, Res.one rfl rfl, ⟨by rw [wrong1 (by first | exact .inl (by omega) | exact .inr (.inl (by omega)) | exact .inr (.inr C1))]; rfl, rfl⟩⟩
  refine .w 15 .mvT <| .w 16 (.lenT T.st9) <| .w 17 .gtr <| .w 18 .pkf <| .w 19 .mvB <| .sd (fun G19 => ?_) (fun G19 => ?_)
  ·
    refine .x 20 <| .x 21 <| .w 22 .pkt <| .w 10 .asB <| .nil ?_
    refine .ct <| .seq <| .r <| .w 6 .asI <| .nil ?_
    refine .ret ⟨.int .i64 1, Res.one rfl rfl, ⟨by rw [wrong1 (by first | exact .inl (by omega) | exact .inr (.inl (by omega)) | exact .inr (.inr C1))]; rfl, rfl⟩⟩
  refine .w 20 .mvS <| .k 21 .func (anyneg_any (a := a) (c := c) (l := l) hl) <| .w 22 .pkf <| .w 10 .asB <| .nil ?_
  refine .cd (fun C1 => ?_) (fun C1 => ?_)
  · --
    refine .seq <| .r <| .w 6 .asI <| .nil ?_
    refine .ret ⟨.int .i64 1, Res.one rfl rfl, ⟨by rw [wrong1 (by first | exact .inl (by omega) | exact .inr (.inl (by omega)) | exact .inr (.inr C1))]; rfl, rfl⟩⟩
  refine .seq <| .r <| .w 24 .mvP <| .w 25 .nil <| .w 26 (.fa T.fd113_1) <| .w 27 (.ldx T.ag4 hd) <| .w 23 .asB <| .nil ?_
  refine .cond (fun C2 => ?_) (fun C2 => ?_)
  · --
    refine .seq <| .r <| .w 6 .asI <| .nil ?_
    refine .ret ⟨.int .i64 13, Res.one rfl rfl, ⟨by rw [wrong13 (by rintro (h1 | h1 | h1); (omega); (omega); exact absurd h1 C1) (by show r.dark = true; exact C2)]; rfl, rfl⟩⟩
  refine .skip <| .end <| hK0 _ _ <| .seq <| .r <| .w 6 .asI <| .nil ?_
  refine .ret ⟨.int .i64 0, Res.one rfl rfl, ⟨by rw [wrong0 (by rintro (h1 | h1 | h1); (omega); (omega); exact absurd h1 C1) (by show ¬ r.dark = true; rw [C2]; decide)]; rfl, rfl⟩⟩

set_option maxRecDepth 100000 in
set_option maxHeartbeats 2000000 in
theorem wrongNil_any {h : Heap} {n : List UInt8} {v : Value} :
    HC Try.prog 65 #[.pointer none, .string (BA n), v] h (fun v h' => v = .int .i64 2 ∧ h' = h) := by
  refine HC.go Try.func65 28 ?_
  refine .seq <| .r <| .w 6 .asI <| .nil ?_
  refine .seq <| .block fun K0 hK0 => .seq <| .r <| .w 8 .mvP <| .w 9 (.pEqN T.pt57) <| .w 7 .asB <| .nil ?_
  refine .ct <| .seq <| .r <| .w 6 .asI <| .nil ?_
  refine .ret ⟨.int .i64 2, Res.one rfl rfl, ⟨rfl, rfl⟩⟩

end Go.Proofs.Ytpebbkhainpfaaa
