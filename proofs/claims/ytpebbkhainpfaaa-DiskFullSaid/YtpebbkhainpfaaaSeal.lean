/- Seals: sum.foot, Seal, and the document's Seal. Conditions: the slices are readable. -/
import Derived.Test.YtpebbkhainpfaaaSum
import Derived.Test.YtpebbkhainpfaaaHlStr
namespace Go.Proofs.Ytpebbkhainpfaaa
open Go Go.HL

theorem sumN_lt (l : List UInt8) : sumN l < 4294967296 := by rw [sumN_def]; omega
def footN (l : List UInt8) : List UInt8 := [UInt8.ofNat (sumN l), UInt8.ofNat (sumN l / 2 ^ 8), UInt8.ofNat (sumN l / 2 ^ 16), UInt8.ofNat (sumN l / 2 ^ 24)]
theorem footN_map (l : List UInt8) : [.int .u8 ((sumN l % 256 : Nat) : Int), .int .u8 ((sumN l / 2 ^ 8 % 256 : Nat) : Int), .int .u8 ((sumN l / 2 ^ 16 % 256 : Nat) : Int), .int .u8 ((sumN l / 2 ^ 24 % 256 : Nat) : Int)] = (footN l).map bv := by simp [footN, bv_ofNat]

set_option maxRecDepth 100000 in
set_option maxHeartbeats 2000000 in
theorem foot_any {h : Heap} {F E : Nat → Prop} {a : Option Addr} {c : Nat} {l : List UInt8} (hl : RdL h F E (a, l.length, c) l) :
    HC Try.prog 94 #[.slice a l.length c] h (fun v h' => v = .agg #[.int .u8 ((sumN l % 256 : Nat) : Int), .int .u8 ((sumN l / 2 ^ 8 % 256 : Nat) : Int), .int .u8 ((sumN l / 2 ^ 16 % 256 : Nat) : Int), .int .u8 ((sumN l / 2 ^ 24 % 256 : Nat) : Int)] ∧ Ext h h') := by
  have hc2 := hl.m
  have hc1 : l.length ≤ c := hl.c
  simp only at hc2
  have ok := (Hp.nil h none_).arg hl
  refine HC.go Try.func94 19 ?_
  refine .seq <| .r <| .a' 2 (.alA T.zr141 ok) ?_
  rintro _ η1 ⟨pb1, rfl, ok, xe⟩
  refine .nil ?_
  refine .seq <| .r <| .w 4 .mvS <| .a' 5 (.lit [.tmp 4] (cs := [.slice a l.length c]) T.el143 T.sz22 T.zr22 ok ⟨rfl, trivial⟩) ?_
  rintro _ η2 ⟨pb2, rfl, ok, xe⟩
  refine .c' 6 .func (sum_any (a := some ⟨pb2, 0, none⟩) (c := 1) (L := [l]) (RdL.rows (v := (some ⟨pb2, 0, none⟩, 1, 1)) (xs := [(a, l.length, c)]) (ls := [l]) ok.m0 ⟨⟨_, _, ok.r0⟩, trivial⟩)) ?_
  rintro _ η3 ⟨rfl, hx⟩
  have ok := ok.ext hx
  rw [show (sumN ([l]).flatten) = sumN l from by simp]
  refine .w 3 .asI <| .nil ?_
  refine .seq <| ?_
  have hsl := sumN_lt l
  refine .r <| .w 7 .mvI <| .w 8 (.cvm T.in5 T.in145 (M := 256) rfl rfl) <| ?_
  generalize (sumN l % 256) = g0
  refine .w 9 .mvI <| .w 10 (.shrn (M := 4294967296) rfl (b := 8)) <| .w 11 (.cvm T.in5 T.in145 (M := 256) rfl rfl) <| ?_
  generalize ((sumN l / 2 ^ 8) % 256) = g1
  refine .w 12 .mvI <| .w 13 (.shrn (M := 4294967296) rfl (b := 16)) <| .w 14 (.cvm T.in5 T.in145 (M := 256) rfl rfl) <| ?_
  generalize ((sumN l / 2 ^ 16) % 256) = g2
  refine .w 15 .mvI <| .w 16 (.shrn (M := 4294967296) rfl (b := 24)) <| .w 17 (.cvm T.in5 T.in145 (M := 256) rfl rfl) <| ?_
  generalize ((sumN l / 2 ^ 24) % 256) = g3
  refine .w 18 (.bdA #[.int .u8 (g0 : Int), .int .u8 (g1 : Int), .int .u8 (g2 : Int), .int .u8 (g3 : Int)] T.zr141 T.ar141 T.sz5 rfl) <| .ur' (.stW (vs := [.int .u8 (g0 : Int), .int .u8 (g1 : Int), .int .u8 (g2 : Int), .int .u8 (g3 : Int)]) T.sz141 ok.n1 (oneL rfl)) ?_
  rintro η4 ⟨ok, cg⟩
  refine .nil ?_
  refine .ret ⟨.agg #[.int .u8 (g0 : Int), .int .u8 (g1 : Int), .int .u8 (g2 : Int), .int .u8 (g3 : Int)], Res.many (vs := [.agg #[.int .u8 (g0 : Int), .int .u8 (g1 : Int), .int .u8 (g2 : Int), .int .u8 (g3 : Int)]]) rfl ⟨⟨_, rfl, load_ag T.ag141 ok.m0 T.sz141⟩, trivial⟩ rfl, ⟨rfl, ok.chg⟩⟩

set_option maxRecDepth 100000 in
set_option maxHeartbeats 2000000 in
theorem seal_any {h : Heap} {F E : Nat → Prop} {a : Option Addr} {c : Nat} {l : List UInt8} (hl : RdL h F E (a, l.length, c) l) (hN : l.length ≤ 1000000000) :
    HC Try.prog 56 #[.slice a l.length c] h (fun v h' => Own h h' 1 5 v ((sealN l).map bv)) := by
  have hc2 := hl.m
  have hc1 : l.length ≤ c := hl.c
  simp only at hc2
  have ok := (Hp.nil h none_).arg hl
  refine HC.go Try.func56 14 ?_
  refine .seq <| .r <| .w 2 .asS <| .nil ?_
  refine .seq <| .r <| .w 4 .mvS <| .c' 5 .func (foot_any (a := a) (c := c) (l := l) ok.r0) ?_
  rintro _ η1 ⟨rfl, hx⟩
  have ok := ok.ext hx
  refine .a' 3 (.alA T.zr141 ok) ?_
  rintro _ η2 ⟨pb1, rfl, ok, xe⟩
  refine .ur' (.stW (vs := [.int .u8 ((sumN l % 256 : Nat) : Int), .int .u8 ((sumN l / 2 ^ 8 % 256 : Nat) : Int), .int .u8 ((sumN l / 2 ^ 16 % 256 : Nat) : Int), .int .u8 ((sumN l / 2 ^ 24 % 256 : Nat) : Int)]) T.sz141 ok (oneL rfl)) ?_
  rintro η3 ⟨ok, cg⟩
  refine .nil ?_
  refine .seq <| ?_
  have ok := (ok.boxC (n := 4) (k := 1)).cx (footN_map l)
  refine .a 3 (fun fl hh => cond fl True (Hp h none_ [capI 1 141 (some ⟨pb1, 0, none⟩, 4, 4) ((footN l).map bv)] [rdI (fun j => F j ∧ j < h.size) (fun j => E j ∧ j < h.size) (a, l.length, c) l] hh)) mixed ?_
  have hS := ok
  refine .g 0 false rfl 6 hS (fun _ => .mvS) <| .g 1 false rfl 7 hS (fun _ => .len T.el22) <| .g 2 false rfl 8 hS (fun _ => .addI (b := 4)) <| .g 4 false rfl 10 hS (fun _ => .mvS) <| .g 6 false rfl 12 hS (fun _ => .slA T.ar141 T.sz5) <| .o1 3 <| .a' true rfl 9 (.mks 0 (l.length + 4) T.el22 T.sz5 T.by5 T.zr5 ok) ?_
  rintro _ η4 ⟨pb2, rfl, ok, xe⟩
  have ok := ok.cx (ys := (List.replicate 0 (0 : UInt8)).map bv) (zeros8 _)
  refine ⟨trivial, ?_⟩
  refine .o1 5 <| .a' true rfl 11 (.app (news := l.map bv) T.el22 T.sz5 T.by5 T.zr5 ok (ok.r0).by bv_all (by simp only [List.length_map, List.length_append, List.length_take, List.length_cons, List.length_nil, List.length_replicate, List.length_range]; omega)) ?_
  rintro _ η5 ⟨ya1, yn1, yc1, rfl, ok, ap⟩
  have ok := ok.cx (ys := ((List.replicate 0 (0 : UInt8)) ++ l).map bv) (by simp [bv])
  obtain rfl : yn1 = ((List.replicate 0 (0 : UInt8)) ++ l).length := ok.lenB
  refine ⟨trivial, ?_⟩
  refine .o1 7 <| .a' true rfl 13 (.app (news := (footN l).map bv) T.el22 T.sz5 T.by5 T.zr5 ok (ok.m1).sl bv_all (by simp [footN]; omega)) ?_
  rintro _ η6 ⟨ya2, yn2, yc2, rfl, ok, ap⟩
  have ok := ok.cx (ys := ((List.replicate 0 (0 : UInt8)) ++ l ++ (footN l)).map bv) (by simp [bv])
  obtain rfl : yn2 = ((List.replicate 0 (0 : UInt8)) ++ l ++ (footN l)).length := ok.lenB
  refine ⟨trivial, ?_⟩
  refine .g 8 true rfl 2 trivial (fun _ => .asS) <| .e ?_
  refine .ret ⟨.slice ya2 (((List.replicate 0 (0 : UInt8)) ++ l ++ (footN l)).length) yc2, Res.one rfl rfl, by have := ok.toOwn; simpa [sealN, footN] using this⟩

set_option maxRecDepth 100000 in
set_option maxHeartbeats 2000000 in
theorem rseal_any {h : Heap} {F E : Nat → Prop} {a : Option Addr} {c : Nat} {l : List UInt8} (hl : RdL h F E (a, l.length, c) l) (hN : l.length ≤ 1000000000) :
    HC Try.prog 62 #[.slice a l.length c] h (fun v h' => Own h h' 1 5 v ((sealN l).map bv)) := by
  have hc2 := hl.m
  have hc1 : l.length ≤ c := hl.c
  simp only at hc2
  have ok := (Hp.nil h none_).arg hl
  refine HC.go Try.func62 24 ?_
  refine .seq <| .r <| .w 2 .asS <| .nil ?_
  refine .seq <| .r <| .w 6 .mvS <| .k 7 .func (rsum_any (a := a) (c := c) (l := l) ok.r0) <| .w 3 .asI <| .nil ?_
  refine .seq <| .r <| .a' 8 (.lit [] (cs := []) T.el22 T.sz5 T.zr5 ok trivial) ?_
  rintro _ η1 ⟨pb1, rfl, ok, xe⟩
  have ok := ok.cx (ys := ([] : List UInt8).map bv) rfl
  refine .w 9 .mvS <| .a' 10 (.app (news := l.map bv) T.el22 T.sz5 T.by5 T.zr5 ok (ok.r0).by bv_all (by simp only [List.length_map, List.length_append, List.length_take, List.length_cons, List.length_nil, List.length_replicate, List.length_range]; omega)) ?_
  rintro _ η2 ⟨ya1, yn1, yc1, rfl, ok, ap⟩
  have ok := ok.cx (ys := (l).map bv) (by simp [bv])
  obtain rfl : yn1 = (l).length := ok.lenB
  refine .w 4 .asS <| .nil ?_
  refine .seq <| .seq <| .r <| .w 5 .asI <| .nil ?_
  refine .block fun K0 hK0 => .loop (fun m s hh => ∃ (k ss : Nat) (a1 : Option Addr) (n1 c1 : Nat), Has s [(3, .int .u32 (ss : Int)), (4, .slice a1 n1 c1), (5, .int .i64 (k : Int))] ∧ Hp h none_ [capI 1 5 (a1, n1, c1) ((l ++ (List.range k).map fun j => UInt8.ofNat (sumN l / 256 ^ j)).map bv)] [rdI (fun j => F j ∧ j < h.size) (fun j => E j ∧ j < h.size) (a, l.length, c) l] hh ∧ k ≤ 4 ∧ ss = sumN l / 256 ^ k ∧ m = 4 - k) ?_ ?_
  · exact ⟨_, 0, _, _, _, _, ⟨rfl, rfl, rfl, trivial⟩, ok.cx (by simp), Nat.zero_le _, by simp, rfl⟩
  rintro _ _ η3 ⟨k, ss, a1, n1, c1, hs, ok, hk, hss, rfl⟩ J0 hJ0
  refine .frame hs fun τ => ?_
  refine .seq <| .seq <| .r <| .w 11 .mvI <| .w 12 .lss <| .nil ?_
  refine .cdr (fun C0 => ?_) (fun C0 => ?_)
  · --
    have hk4 : k = 4 := by omega
    refine .exit <| hK0 _ _ <| .seq <| .r <| .w 23 .mvS <| .w 2 .asS <| .nil ?_
    refine .ret ⟨.slice a1 n1 c1, Res.one rfl rfl, by have := ok.toOwn; rw [hk4] at this; simpa [sealN, List.range_succ] using this⟩
  have hsl : ss < 4294967296 := Nat.lt_of_le_of_lt (by rw [hss]; exact Nat.div_le_self _ _) (sumN_lt l)
  refine .skip <| .seq <| .block fun K1 hK1 => .seq <| .r <| .w 15 .mvS <| .w 16 .mvI <| .w 17 (.remn (b := 256)) <| .w 18 (.cvm T.in5 T.in145 (M := 256) rfl rfl) <| .a' 19 (.lit [.tmp 18] (cs := [.int .u8 ((((ss % 256) % 256) : Nat) : Int)]) T.el22 T.sz5 T.zr5 ok ⟨rfl, trivial⟩) ?_
  rintro _ η4 ⟨pb2, rfl, ok, xe⟩
  refine .a' 20 (.app (news := [.int .u8 ((((ss % 256) % 256) : Nat) : Int)]) T.el22 T.sz5 T.by5 T.zr5 ok.n1 (ok.n1.m1).sl (oneL rfl) (by simp only [List.length_map, List.length_append, List.length_take, List.length_cons, List.length_nil, List.length_replicate, List.length_range]; omega)) ?_
  rintro _ η5 ⟨ya2, yn2, yc2, rfl, ok, ap⟩
  refine .w 4 .asS <| .nil ?_
  refine .r <| .w 21 .mvI <| .w 22 (.quon (M := 4294967296) rfl rfl (b := 256)) <| .w 3 .asI <| .nil ?_
  refine .end <| hK1 _ _ <| .r <| .w 13 .mvI <| .w 14 (.addI (b := 1)) <| .w 5 .asI <| .nil ?_
  refine .end <| hJ0 _ _ _ ⟨k + 1, _, _, _, _, ⟨rfl, rfl, rfl, trivial⟩, ok.k1.cx (by simp [List.range_succ, bv_ofNat, hss]), by omega, by rw [hss, Nat.div_div_eq_div_mul, ← Nat.pow_succ], rfl⟩ (by omega)

end Go.Proofs.Ytpebbkhainpfaaa
