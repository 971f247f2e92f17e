/- Logs: links and what is put, of the program and of the document. Conditions: the slices are readable, numbers in their ranges. -/
import Derived.Test.YtpebbkhainpfaaaWfImp
namespace Go.Proofs.Ytpebbkhainpfaaa
open Go Go.HL
theorem linkN_eq (p q : Nat) (r : Nat) (l : List UInt8) : linkN r ⟨(p : Int), (q : Int), l⟩ = nextN r (fixedN p 4 ++ fixedN q 4 ++ l) := rfl

set_option maxRecDepth 100000 in
set_option maxHeartbeats 2000000 in
theorem link_any {h : Heap} {F E : Nat → Prop} {p q r : Nat} {a : Option Addr} {c : Nat} {l : List UInt8} (hp : p < 9223372036854775808) (hq : q < 9223372036854775808) (hr : r < 18446744073709551616) (hN : l.length ≤ 100000000) (hl : RdL h F E (a, l.length, c) l) :
    HC Try.prog 64 #[.int .u64 (r : Int), .agg #[.int .i64 (p : Int), .int .i64 (q : Int), .slice a l.length c]] h (fun v h' => v = .int .u64 ((linkN r ⟨(p : Int), (q : Int), l⟩ : Nat) : Int) ∧ Ext h h') := by
  have hc2 := hl.m
  have hc1 : l.length ≤ c := hl.c
  simp only at hc2
  have ok := (Hp.nil h none_).arg hl
  refine HC.go Try.func64 17 ?_
  refine .seq <| .r <| .a' 3 (.bxA (cs := [.int .i64 (p : Int), .int .i64 (q : Int), .slice a l.length c]) ok) ?_
  rintro _ η1 ⟨pb1, rfl, ok, xe⟩
  refine .w 4 .asI <| .nil ?_
  refine .seq <| .a 13 (fun fl hh => Hp h none_ [boxI pb1 38 [.int .i64 (p : Int), .int .i64 (q : Int), .slice a l.length c]] [rdI (fun j => F j ∧ j < h.size) (fun j => E j ∧ j < h.size) (a, l.length, c) l] hh) mixed ?_
  have hS := ok
  refine .g 0 false rfl 5 hS (fun _ => .mvI) <| .g 1 false rfl 6 hS (fun _ => .fa T.fd38_0) <| .lw 2 false rfl 7 hS (fun _ _ hS => .ldx T.ag3 hS.m0) <| .g 4 false rfl 9 hS (fun _ => .fa T.fd38_1) <| .lw 5 false rfl 10 hS (fun _ _ hS => .ldx T.ag3 hS.m0) <| .g 7 false rfl 12 hS (fun _ => .fa T.fd38_2) <| .lw 8 false rfl 13 hS (fun _ _ hS => .ldx T.ag22 hS.m0) <| .o1 3 <| .c' false rfl 8 .func (four_any (n := p) (by omega)) ?_
  rintro _ η2 own
  obtain ⟨ya1, yc1, rfl⟩ := own.formB
  have ok := ok.own own
  refine ⟨ok.n1.k1, ?_⟩
  have hS := ok.n1.k1
  refine .o1 6 <| .c' false rfl 11 .func (four_any (n := q) (by omega)) ?_
  rintro _ η3 own
  obtain ⟨ya2, yc2, rfl⟩ := own.formB
  have ok := ok.own own
  refine ⟨ok.n2.k1, ?_⟩
  have hS := ok.n2.k1
  refine .o1 9 <| .a' false rfl 14 (.lit [.tmp 8, .tmp 11, .tmp 13] (cs := [.slice ya1 ((fixedN p 4).length) yc1, .slice ya2 ((fixedN q 4).length) yc2, .slice a l.length c]) T.el143 T.sz22 T.zr22 ok ⟨rfl, rfl, rfl, trivial⟩) ?_
  rintro _ η4 ⟨pb2, rfl, ok, xe⟩
  refine ⟨ok.n3.k1, ?_⟩
  have hS := ok.n3.k1
  refine .o1 10 <| .c' false rfl 15 .func (njoin_any (a := some ⟨pb2, 0, none⟩) (c := 3) (L := [(fixedN p 4), (fixedN q 4), l]) (RdL.rows (v := (some ⟨pb2, 0, none⟩, 3, 3)) (xs := [(ya1, (fixedN p 4).length, yc1), (ya2, (fixedN q 4).length, yc2), (a, l.length, c)]) (ls := [(fixedN p 4), (fixedN q 4), l]) ok.m0 ⟨⟨_, _, (RdL.ofCapB (v := (ya1, (fixedN p 4).length, yc1)) (l := (fixedN p 4)) ok.m2)⟩, ⟨_, _, (RdL.ofCapB (v := (ya2, (fixedN q 4).length, yc2)) (l := (fixedN q 4)) ok.m1)⟩, ⟨_, _, ok.r0⟩, trivial⟩) (by simp [fixedN_len] <;> omega)) ?_
  rintro _ η5 own
  obtain ⟨ya3, yc3, rfl⟩ := own.formB
  have ok := ok.own own
  refine ⟨ok.n4.k1, ?_⟩
  have hS := ok.n4.k1
  refine .o1 11 <| .k false rfl 16 .func (next_any (by omega) (a := ya3) (c := yc3) (l := ([(fixedN p 4), (fixedN q 4), l]).flatten) (RdL.ofCapB (v := (ya3, (([(fixedN p 4), (fixedN q 4), l]).flatten).length, yc3)) (l := (([(fixedN p 4), (fixedN q 4), l]).flatten)) ok.m0)) hS <| .g 12 false rfl 4 hS (fun _ => .asI) <| .e ?_
  refine .ret ⟨.int .u64 ((nextN r (([(fixedN p 4), (fixedN q 4), l]).flatten) : Nat) : Int), Res.one rfl rfl, ⟨by rw [linkN_eq]; simp, ok.chg⟩⟩

set_option maxRecDepth 100000 in
set_option maxHeartbeats 2000000 in
theorem rlink_any {h : Heap} {F E : Nat → Prop} {p q r : Nat} {a : Option Addr} {c : Nat} {l : List UInt8} (hp : p < 9223372036854775808) (hq : q < 9223372036854775808) (hr : r < 18446744073709551616) (hN : l.length ≤ 100000000) (hl : RdL h F E (a, l.length, c) l) :
    HC Try.prog 51 #[.int .u64 (r : Int), .agg #[.int .i64 (p : Int), .int .i64 (q : Int), .slice a l.length c]] h (fun v h' => v = .int .u64 ((linkN r ⟨(p : Int), (q : Int), l⟩ : Nat) : Int) ∧ Ext h h') := by
  have hc2 := hl.m
  have hc1 : l.length ≤ c := hl.c
  simp only at hc2
  have ok := (Hp.nil h none_).arg hl
  refine HC.go Try.func51 21 ?_
  refine .seq <| .r <| .a' 3 (.bxA (cs := [.int .i64 (p : Int), .int .i64 (q : Int), .slice a l.length c]) ok) ?_
  rintro _ η1 ⟨pb1, rfl, ok, xe⟩
  refine .w 4 .asI <| .nil ?_
  refine .seq <| .a 10 (fun fl hh => Hp h none_ [boxI pb1 38 [.int .i64 (p : Int), .int .i64 (q : Int), .slice a l.length c]] [rdI (fun j => F j ∧ j < h.size) (fun j => E j ∧ j < h.size) (a, l.length, c) l] hh) mixed ?_
  have hS := ok
  refine .g 0 false rfl 6 hS (fun _ => .fa T.fd38_0) <| .lw 1 false rfl 7 hS (fun _ _ hS => .ldx T.ag3 hS.m0) <| .g 2 false rfl 8 hS (fun _ => .cvs T.in25 T.in3 (M := 18446744073709551616) rfl rfl) <| .g 4 false rfl 10 hS (fun _ => .fa T.fd38_1) <| .lw 5 false rfl 11 hS (fun _ _ hS => .ldx T.ag3 hS.m0) <| .g 6 false rfl 12 hS (fun _ => .cvs T.in25 T.in3 (M := 18446744073709551616) rfl rfl) <| .o1 3 <| .c' false rfl 9 .func (rfixed_any (n := p) (size := 4) (by omega) (by omega) (by omega)) ?_
  rintro _ η2 own
  obtain ⟨ya1, yc1, rfl⟩ := own.formB
  have ok := ok.own own
  refine ⟨ok.n1.k1, ?_⟩
  have hS := ok.n1.k1
  refine .o1 7 <| .c' false rfl 13 .func (rfixed_any (n := q) (size := 4) (by omega) (by omega) (by omega)) ?_
  rintro _ η3 own
  obtain ⟨ya2, yc2, rfl⟩ := own.formB
  have ok := ok.own own
  refine ⟨ok.n2.k1, ?_⟩
  have hS := ok.n2.k1
  refine .o1 8 <| .a' false rfl 14 (.app (news := (fixedN q 4).map bv) T.el22 T.sz5 T.by5 T.zr5 ok.n1 (ok.n1.m1).sl bv_all (by simp only [List.length_map, List.length_append, List.length_take, List.length_cons, List.length_nil, List.length_replicate, List.length_range, fixedN_len, sealN_len]; omega)) ?_
  rintro _ η4 ⟨ya3, yn3, yc3, rfl, ok, ap⟩
  have ok := ok.cx (ys := ((fixedN p 4) ++ (fixedN q 4)).map bv) (by simp [bv])
  obtain rfl : yn3 = ((fixedN p 4) ++ (fixedN q 4)).length := ok.lenB
  refine ⟨ok.n2.k1, ?_⟩
  have hS := ok.n2.k1
  refine .g 9 false rfl 5 hS (fun _ => .asS) <| .e ?_
  refine .seq <| .r <| .w 15 .mvI <| .w 16 .mvS <| .w 17 (.fa T.fd38_2) <| .w 18 (.ldx T.ag22 ok.m2) <| .a' 19 (.app (news := l.map bv) T.el22 T.sz5 T.by5 T.zr5 ok (ok.r0).by bv_all (by simp only [List.length_map, List.length_append, List.length_take, List.length_cons, List.length_nil, List.length_replicate, List.length_range, fixedN_len, sealN_len]; omega)) ?_
  rintro _ η5 ⟨ya4, yn4, yc4, rfl, ok, ap⟩
  have ok := ok.cx (ys := ((fixedN p 4) ++ (fixedN q 4) ++ l).map bv) (by simp [bv])
  obtain rfl : yn4 = ((fixedN p 4) ++ (fixedN q 4) ++ l).length := ok.lenB
  refine .k 20 .func (rnext_any (by omega) (a := ya4) (c := yc4) (l := (fixedN p 4) ++ (fixedN q 4) ++ l) (RdL.ofCapB (v := (ya4, ((fixedN p 4) ++ (fixedN q 4) ++ l).length, yc4)) (l := ((fixedN p 4) ++ (fixedN q 4) ++ l)) ok.m0)) <| .w 4 .asI <| .nil ?_
  refine .ret ⟨.int .u64 ((nextN r ((fixedN p 4) ++ (fixedN q 4) ++ l) : Nat) : Int), Res.one rfl rfl, ⟨by rw [linkN_eq], ok.chg⟩⟩

set_option maxRecDepth 100000 in
set_option maxHeartbeats 2000000 in
theorem put_ok {h : Heap} {F E : Nat → Prop} {p q r : Nat} {a : Option Addr} {c : Nat} {l : List UInt8} (hp : p < 9223372036854775808) (hq : q < 9223372036854775808) (hr : r < 18446744073709551616) (hF : okF ⟨(p : Int), (q : Int), l⟩ = true) (hN : l.length ≤ 100000000) (hl : RdL h F E (a, l.length, c) l) :
    HC Try.prog 22 #[.int .u64 (r : Int), .agg #[.int .i64 (p : Int), .int .i64 (q : Int), .slice a l.length c]] h (fun v h' => ∃ w, v = .tuple #[w, .int .u64 ((linkN r ⟨(p : Int), (q : Int), l⟩ : Nat) : Int), .int .i64 0] ∧ Own h h' 1 5 w ((putN r ⟨(p : Int), (q : Int), l⟩).map bv)) := by
  have hc2 := hl.m
  have hc1 : l.length ≤ c := hl.c
  simp only at hc2
  have ok := (Hp.nil h none_).arg hl
  have hlk : linkN r ⟨(p : Int), (q : Int), l⟩ < 18446744073709551616 := nextN_lt hr _
  refine HC.go Try.func22 27 ?_
  refine .seq <| .r <| .a' 3 (.bxA (cs := [.int .i64 (p : Int), .int .i64 (q : Int), .slice a l.length c]) ok) ?_
  rintro _ η1 ⟨pb1, rfl, ok, xe⟩
  refine .w 4 .asS <| .w 5 .asI <| .w 6 .asI <| .nil ?_
  refine .seq <| .seq <| .r <| .w 8 (.ldb T.ag38 ok.m0 T.sz38) <| .c' 9 .func (isframe_any (z1 := (p : Int)) (z2 := (q : Int)) (a := a) (c := c) (l := l) ok.r0) ?_
  rintro _ η2 ⟨rfl, hx⟩
  have ok := ok.ext hx
  refine .w 10 .not <| .nil ?_
  refine .cond (fun C0 => ?_) (fun C0 => ?_)
  · --
    rw [hF] at C0; exact absurd C0 (by decide)
  refine .skip <| .seq <| .r <| .w 11 .mvI <| .w 12 (.ldb T.ag38 ok.m0 T.sz38) <| .c' 13 .func (link_any (p := p) (q := q) (r := r) (by omega) (by omega) (by omega) (by omega) (a := a) (c := c) (l := l) ok.r0) ?_
  rintro _ η3 ⟨rfl, hx⟩
  have ok := ok.ext hx
  refine .w 7 .asI <| .nil ?_
  refine .seq <| .a 16 (fun fl hh => Hp h none_ [boxI pb1 38 [.int .i64 (p : Int), .int .i64 (q : Int), .slice a l.length c]] [rdI (fun j => F j ∧ j < h.size) (fun j => E j ∧ j < h.size) (a, l.length, c) l] hh) mixed ?_
  have hS := ok
  refine .g 0 false rfl 14 hS (fun _ => .fa T.fd38_0) <| .lw 1 false rfl 15 hS (fun _ _ hS => .ldx T.ag3 hS.m0) <| .g 3 false rfl 17 hS (fun _ => .fa T.fd38_1) <| .lw 4 false rfl 18 hS (fun _ _ hS => .ldx T.ag3 hS.m0) <| .g 6 false rfl 20 hS (fun _ => .mvI) <| .g 8 false rfl 22 hS (fun _ => .fa T.fd38_2) <| .lw 9 false rfl 23 hS (fun _ _ hS => .ldx T.ag22 hS.m0) <| .g 12 false rfl 26 hS (fun _ => .mvI) <| .o1 2 <| .c' false rfl 16 .func (four_any (n := p) (by omega)) ?_
  rintro _ η4 own
  obtain ⟨ya1, yc1, rfl⟩ := own.formB
  have ok := ok.own own
  refine ⟨ok.n1.k1, ?_⟩
  have hS := ok.n1.k1
  refine .o1 5 <| .c' false rfl 19 .func (four_any (n := q) (by omega)) ?_
  rintro _ η5 own
  obtain ⟨ya2, yc2, rfl⟩ := own.formB
  have ok := ok.own own
  refine ⟨ok.n2.k1, ?_⟩
  have hS := ok.n2.k1
  refine .o1 7 <| .c' false rfl 21 .func (fixed_any (n := (linkN r ⟨(p : Int), (q : Int), l⟩)) (size := 8) (by omega) (by omega) (by omega)) ?_
  rintro _ η6 own
  obtain ⟨ya3, yc3, rfl⟩ := own.formB
  have ok := ok.own own
  refine ⟨ok.n3.k1, ?_⟩
  have hS := ok.n3.k1
  refine .o1 10 <| .a' false rfl 24 (.lit [.tmp 16, .tmp 19, .tmp 21, .tmp 23] (cs := [.slice ya1 ((fixedN p 4).length) yc1, .slice ya2 ((fixedN q 4).length) yc2, .slice ya3 ((fixedN (linkN r ⟨(p : Int), (q : Int), l⟩) 8).length) yc3, .slice a l.length c]) T.el143 T.sz22 T.zr22 ok ⟨rfl, rfl, rfl, rfl, trivial⟩) ?_
  rintro _ η7 ⟨pb2, rfl, ok, xe⟩
  refine ⟨ok.n4.k1, ?_⟩
  have hS := ok.n4.k1
  refine .o1 11 <| .c' false rfl 25 .func (njoin_any (a := some ⟨pb2, 0, none⟩) (c := 4) (L := [(fixedN p 4), (fixedN q 4), (fixedN (linkN r ⟨(p : Int), (q : Int), l⟩) 8), l]) (RdL.rows (v := (some ⟨pb2, 0, none⟩, 4, 4)) (xs := [(ya1, (fixedN p 4).length, yc1), (ya2, (fixedN q 4).length, yc2), (ya3, (fixedN (linkN r ⟨(p : Int), (q : Int), l⟩) 8).length, yc3), (a, l.length, c)]) (ls := [(fixedN p 4), (fixedN q 4), (fixedN (linkN r ⟨(p : Int), (q : Int), l⟩) 8), l]) ok.m0 ⟨⟨_, _, (RdL.ofCapB (v := (ya1, (fixedN p 4).length, yc1)) (l := (fixedN p 4)) ok.m3)⟩, ⟨_, _, (RdL.ofCapB (v := (ya2, (fixedN q 4).length, yc2)) (l := (fixedN q 4)) ok.m2)⟩, ⟨_, _, (RdL.ofCapB (v := (ya3, (fixedN (linkN r ⟨(p : Int), (q : Int), l⟩) 8).length, yc3)) (l := (fixedN (linkN r ⟨(p : Int), (q : Int), l⟩) 8)) ok.m1)⟩, ⟨_, _, ok.r0⟩, trivial⟩) (by simp [fixedN_len] <;> omega)) ?_
  rintro _ η8 own
  obtain ⟨ya4, yc4, rfl⟩ := own.formB
  have ok := ok.own own
  refine ⟨ok.n5.k1, ?_⟩
  have hS := ok.n5.k1
  refine .g 13 false rfl 4 hS (fun _ => .asS) <| .g 14 false rfl 5 hS (fun _ => .asI) <| .g 15 false rfl 6 hS (fun _ => .asI) <| .e ?_
  refine .ret ⟨.tuple #[.slice ya4 ((([(fixedN p 4), (fixedN q 4), (fixedN (linkN r ⟨(p : Int), (q : Int), l⟩) 8), l]).flatten).length) yc4, .int .u64 ((linkN r ⟨(p : Int), (q : Int), l⟩ : Nat) : Int), .int .i64 0], Res.three rfl rfl rfl rfl, _, rfl, by have := ok.toOwn; simpa [putN] using this⟩

set_option maxRecDepth 100000 in
set_option maxHeartbeats 2000000 in
theorem put_bad {h : Heap} {F E : Nat → Prop} {z1 z2 : Int} {r : Nat} {a : Option Addr} {c : Nat} {l : List UInt8} (hF : okF ⟨z1, z2, l⟩ = false) (hl : RdL h F E (a, l.length, c) l) :
    HC Try.prog 22 #[.int .u64 (r : Int), .agg #[.int .i64 z1, .int .i64 z2, .slice a l.length c]] h (fun v h' => v = .tuple #[.slice none 0 0, .int .u64 0, .int .i64 1] ∧ Ext h h') := by
  have hc2 := hl.m
  have hc1 : l.length ≤ c := hl.c
  simp only at hc2
  have ok := (Hp.nil h none_).arg hl
  refine HC.go Try.func22 27 ?_
  refine .seq <| .r <| .a' 3 (.bxA (cs := [.int .i64 z1, .int .i64 z2, .slice a l.length c]) ok) ?_
  rintro _ η1 ⟨pb1, rfl, ok, xe⟩
  refine .w 4 .asS <| .w 5 .asI <| .w 6 .asI <| .nil ?_
  refine .seq <| .seq <| .r <| .w 8 (.ldb T.ag38 ok.m0 T.sz38) <| .c' 9 .func (isframe_any (z1 := z1) (z2 := z2) (a := a) (c := c) (l := l) ok.r0) ?_
  rintro _ η2 ⟨rfl, hx⟩
  have ok := ok.ext hx
  refine .w 10 .not <| .nil ?_
  refine .cond (fun C0 => ?_) (fun C0 => ?_)
  · --
    refine .seq <| .r <| .w 4 .asS <| .w 5 .asI <| .w 6 .asI <| .nil ?_
    refine .ret ⟨.tuple #[.slice none 0 0, .int .u64 0, .int .i64 1], Res.three rfl rfl rfl rfl, ⟨rfl, ok.chg⟩⟩
  rw [hF] at C0; exact absurd C0 (by decide)

set_option maxRecDepth 100000 in
set_option maxHeartbeats 2000000 in
theorem rput_ok {h : Heap} {F E : Nat → Prop} {p q r : Nat} {a : Option Addr} {c : Nat} {l : List UInt8} (hp : p < 9223372036854775808) (hq : q < 9223372036854775808) (hr : r < 18446744073709551616) (hF : okF ⟨(p : Int), (q : Int), l⟩ = true) (hN : l.length ≤ 100000000) (hl : RdL h F E (a, l.length, c) l) :
    HC Try.prog 23 #[.int .u64 (r : Int), .agg #[.int .i64 (p : Int), .int .i64 (q : Int), .slice a l.length c]] h (fun v h' => ∃ w, v = .tuple #[w, .int .u64 ((linkN r ⟨(p : Int), (q : Int), l⟩ : Nat) : Int), .int .i64 0] ∧ Own h h' 1 5 w ((putN r ⟨(p : Int), (q : Int), l⟩).map bv)) := by
  have hc2 := hl.m
  have hc1 : l.length ≤ c := hl.c
  simp only at hc2
  have ok := (Hp.nil h none_).arg hl
  have hlk : linkN r ⟨(p : Int), (q : Int), l⟩ < 18446744073709551616 := nextN_lt hr _
  refine HC.go Try.func23 33 ?_
  refine .seq <| .r <| .a' 3 (.bxA (cs := [.int .i64 (p : Int), .int .i64 (q : Int), .slice a l.length c]) ok) ?_
  rintro _ η1 ⟨pb1, rfl, ok, xe⟩
  refine .w 4 .asS <| .w 5 .asI <| .w 6 .asI <| .nil ?_
  refine .seq <| .seq <| .r <| .w 9 (.ldb T.ag38 ok.m0 T.sz38) <| .c' 10 .func (may_any (z1 := (p : Int)) (z2 := (q : Int)) (a := a) (c := c) (l := l) ok.r0) ?_
  rintro _ η2 ⟨rfl, hx⟩
  have ok := ok.ext hx
  refine .w 11 .not <| .nil ?_
  refine .cond (fun C0 => ?_) (fun C0 => ?_)
  · --
    rw [hF] at C0; exact absurd C0 (by decide)
  refine .skip <| .seq <| .r <| .w 12 .mvI <| .w 13 (.ldb T.ag38 ok.m0 T.sz38) <| .c' 14 .func (rlink_any (p := p) (q := q) (r := r) (by omega) (by omega) (by omega) (by omega) (a := a) (c := c) (l := l) ok.r0) ?_
  rintro _ η3 ⟨rfl, hx⟩
  have ok := ok.ext hx
  refine .w 7 .asI <| .nil ?_
  refine .seq <| .a 10 (fun fl hh => Hp h none_ [boxI pb1 38 [.int .i64 (p : Int), .int .i64 (q : Int), .slice a l.length c]] [rdI (fun j => F j ∧ j < h.size) (fun j => E j ∧ j < h.size) (a, l.length, c) l] hh) mixed ?_
  have hS := ok
  refine .g 0 false rfl 15 hS (fun _ => .fa T.fd38_0) <| .lw 1 false rfl 16 hS (fun _ _ hS => .ldx T.ag3 hS.m0) <| .g 2 false rfl 17 hS (fun _ => .cvs T.in25 T.in3 (M := 18446744073709551616) rfl rfl) <| .g 4 false rfl 19 hS (fun _ => .fa T.fd38_1) <| .lw 5 false rfl 20 hS (fun _ _ hS => .ldx T.ag3 hS.m0) <| .g 6 false rfl 21 hS (fun _ => .cvs T.in25 T.in3 (M := 18446744073709551616) rfl rfl) <| .o1 3 <| .c' false rfl 18 .func (rfixed_any (n := p) (size := 4) (by omega) (by omega) (by omega)) ?_
  rintro _ η4 own
  obtain ⟨ya1, yc1, rfl⟩ := own.formB
  have ok := ok.own own
  refine ⟨ok.n1.k1, ?_⟩
  have hS := ok.n1.k1
  refine .o1 7 <| .c' false rfl 22 .func (rfixed_any (n := q) (size := 4) (by omega) (by omega) (by omega)) ?_
  rintro _ η5 own
  obtain ⟨ya2, yc2, rfl⟩ := own.formB
  have ok := ok.own own
  refine ⟨ok.n2.k1, ?_⟩
  have hS := ok.n2.k1
  refine .o1 8 <| .a' false rfl 23 (.app (news := (fixedN q 4).map bv) T.el22 T.sz5 T.by5 T.zr5 ok.n1 (ok.n1.m1).sl bv_all (by simp only [List.length_map, List.length_append, List.length_take, List.length_cons, List.length_nil, List.length_replicate, List.length_range, fixedN_len, sealN_len]; omega)) ?_
  rintro _ η6 ⟨ya3, yn3, yc3, rfl, ok, ap⟩
  have ok := ok.cx (ys := ((fixedN p 4) ++ (fixedN q 4)).map bv) (by simp [bv])
  obtain rfl : yn3 = ((fixedN p 4) ++ (fixedN q 4)).length := ok.lenB
  refine ⟨ok.n2.k1, ?_⟩
  have hS := ok.n2.k1
  refine .g 9 false rfl 8 hS (fun _ => .asS) <| .e ?_
  refine .seq <| .r <| .w 24 .mvS <| .w 25 .mvI <| .c' 26 .func (rfixed_any (n := (linkN r ⟨(p : Int), (q : Int), l⟩)) (size := 8) (by omega) (by omega) (by omega)) ?_
  rintro _ η7 own
  obtain ⟨ya4, yc4, rfl⟩ := own.formB
  have ok := ok.own own
  refine .a' 27 (.app (news := (fixedN (linkN r ⟨(p : Int), (q : Int), l⟩) 8).map bv) T.el22 T.sz5 T.by5 T.zr5 ok.n1 (ok.n1.m1).sl bv_all (by simp only [List.length_map, List.length_append, List.length_take, List.length_cons, List.length_nil, List.length_replicate, List.length_range, fixedN_len, sealN_len]; omega)) ?_
  rintro _ η8 ⟨ya5, yn5, yc5, rfl, ok, ap⟩
  have ok := ok.cx (ys := ((fixedN p 4) ++ (fixedN q 4) ++ (fixedN (linkN r ⟨(p : Int), (q : Int), l⟩) 8)).map bv) (by simp [bv])
  obtain rfl : yn5 = ((fixedN p 4) ++ (fixedN q 4) ++ (fixedN (linkN r ⟨(p : Int), (q : Int), l⟩) 8)).length := ok.lenB
  refine .w 8 .asS <| .nil ?_
  refine .seq <| .r <| .w 28 .mvS <| .w 29 (.fa T.fd38_2) <| .w 30 (.ldx T.ag22 ok.m3) <| .a' 31 (.app (news := l.map bv) T.el22 T.sz5 T.by5 T.zr5 ok (ok.r0).by bv_all (by simp only [List.length_map, List.length_append, List.length_take, List.length_cons, List.length_nil, List.length_replicate, List.length_range, fixedN_len, sealN_len]; omega)) ?_
  rintro _ η9 ⟨ya6, yn6, yc6, rfl, ok, ap⟩
  have ok := ok.cx (ys := ((fixedN p 4) ++ (fixedN q 4) ++ (fixedN (linkN r ⟨(p : Int), (q : Int), l⟩) 8) ++ l).map bv) (by simp [bv])
  obtain rfl : yn6 = ((fixedN p 4) ++ (fixedN q 4) ++ (fixedN (linkN r ⟨(p : Int), (q : Int), l⟩) 8) ++ l).length := ok.lenB
  refine .w 32 .mvI <| .w 4 .asS <| .w 5 .asI <| .w 6 .asI <| .nil ?_
  refine .ret ⟨.tuple #[.slice ya6 (((fixedN p 4) ++ (fixedN q 4) ++ (fixedN (linkN r ⟨(p : Int), (q : Int), l⟩) 8) ++ l).length) yc6, .int .u64 ((linkN r ⟨(p : Int), (q : Int), l⟩ : Nat) : Int), .int .i64 0], Res.three rfl rfl rfl rfl, _, rfl, by have := ok.toOwn; simpa [putN] using this⟩

set_option maxRecDepth 100000 in
set_option maxHeartbeats 2000000 in
theorem rput_bad {h : Heap} {F E : Nat → Prop} {z1 z2 : Int} {r : Nat} {a : Option Addr} {c : Nat} {l : List UInt8} (hF : okF ⟨z1, z2, l⟩ = false) (hl : RdL h F E (a, l.length, c) l) :
    HC Try.prog 23 #[.int .u64 (r : Int), .agg #[.int .i64 z1, .int .i64 z2, .slice a l.length c]] h (fun v h' => v = .tuple #[.slice none 0 0, .int .u64 0, .int .i64 1] ∧ Ext h h') := by
  have hc2 := hl.m
  have hc1 : l.length ≤ c := hl.c
  simp only at hc2
  have ok := (Hp.nil h none_).arg hl
  refine HC.go Try.func23 33 ?_
  refine .seq <| .r <| .a' 3 (.bxA (cs := [.int .i64 z1, .int .i64 z2, .slice a l.length c]) ok) ?_
  rintro _ η1 ⟨pb1, rfl, ok, xe⟩
  refine .w 4 .asS <| .w 5 .asI <| .w 6 .asI <| .nil ?_
  refine .seq <| .seq <| .r <| .w 9 (.ldb T.ag38 ok.m0 T.sz38) <| .c' 10 .func (may_any (z1 := z1) (z2 := z2) (a := a) (c := c) (l := l) ok.r0) ?_
  rintro _ η2 ⟨rfl, hx⟩
  have ok := ok.ext hx
  refine .w 11 .not <| .nil ?_
  refine .cond (fun C0 => ?_) (fun C0 => ?_)
  · --
    refine .seq <| .r <| .w 4 .asS <| .w 5 .asI <| .w 6 .asI <| .nil ?_
    refine .ret ⟨.tuple #[.slice none 0 0, .int .u64 0, .int .i64 1], Res.three rfl rfl rfl rfl, ⟨rfl, ok.chg⟩⟩
  rw [hF] at C0; exact absurd C0 (by decide)

set_option maxRecDepth 100000 in
set_option maxHeartbeats 2000000 in
theorem first_any {h : Heap} {F E : Nat → Prop} {a : Option Addr} {c : Nat} {l : List UInt8} (h20 : 20 ≤ l.length) (hl : RdL h F E (a, l.length, c) l) :
    HC Try.prog 46 #[.slice a l.length c] h (fun v h' => v = .int .u64 ((firstN l : Nat) : Int) ∧ h' = h) := by
  have hc2 := hl.m
  have hc1 : l.length ≤ c := hl.c
  simp only at hc2
  have h8 := rdN_lt8 l 8
  refine HC.go Try.func46 14 ?_
  refine .seq <| .r <| .w 2 .asI <| .nil ?_
  refine .seq <| .r <| .w 6 .mvS <| .k 7 .func (rread_any (p := 8) (size := 8) (a := a) (c := c) (l := l) hl (by omega) (by omega) (by omega)) <| .w 5 .mvU <| .w 8 .ex <| .w 9 .ex <| .w 3 .asI <| .w 4 .asI <| .nil ?_
  refine .seq <| .r <| .w 10 .mvI <| .w 11 .mvS <| .w 12 (.sl_h ((l.take 20).length) T.el22 T.sz5 (hb := by (simp; omega))) <| ?_
  have hk1 : RdL h F E (a, (l.take 20).length, c) (l.take 20) := (hl).pre (l2 := l.take 20) (List.take_prefix _ _)
  refine .k 13 .func (rnext_any (by omega) (a := a) (c := c) (l := l.take 20) hk1) <| .w 2 .asI <| .nil ?_
  refine .ret ⟨.int .u64 ((nextN (rdN l 8 8) (l.take 20) : Nat) : Int), Res.one rfl rfl, ⟨by rw [firstN], rfl⟩⟩

end Go.Proofs.Ytpebbkhainpfaaa
