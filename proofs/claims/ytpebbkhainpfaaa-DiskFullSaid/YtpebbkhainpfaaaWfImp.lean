/- Logs: Same, sizes, frames, heads, links and what is put, of the program and of the document. Conditions: the slices are readable, numbers in their ranges. -/
import Derived.Test.YtpebbkhainpfaaaWfPure
import Derived.Test.YtpebbkhainpfaaaSeal
import Derived.Test.YtpebbkhainpfaaaWfPow
namespace Go.Proofs.Ytpebbkhainpfaaa
open Go Go.HL
def okZ (z : Int) : Bool := decide (z = 256 ∨ z = 512 ∨ z = 1024 ∨ z = 2048 ∨ z = 4096)
theorem okZ_nat (n : Nat) : okZ (n : Int) = okSz n := by
  rw [Bool.eq_iff_iff]; simp [okZ, okSz]; omega
theorem tolist_eq (a b : List UInt8) : ((BA a).toList == (BA b).toList) = decide (a = b) := by rw [BA_toList, BA_toList]; by_cases h : a = b <;> simp [h]

set_option maxRecDepth 100000 in
set_option maxHeartbeats 2000000 in
theorem same_any {h : Heap} {F E F' E' : Nat → Prop} {a b : Option Addr} {c d : Nat} {l l2 : List UInt8} (hl : RdL h F E (a, l.length, c) l) (hm : RdL h F' E' (b, l2.length, d) l2) :
    HC Try.prog 24 #[.slice a l.length c, .slice b l2.length d] h (fun v h' => v = .bool (decide (l = l2)) ∧ h' = h) := by
  have hc2 := hl.m
  have hc1 : l.length ≤ c := hl.c
  simp only at hc2
  have hd2 := hm.m
  have hd1 : l2.length ≤ d := hm.c
  simp only at hd2
  refine HC.go Try.func24 26 ?_
  refine .seq <| .r <| .w 4 .asB <| .nil ?_
  refine .seq <| .seq <| .r <| .w 6 .mvS <| .w 7 (.len T.el22) <| .w 8 .mvS <| .w 9 (.len T.el22) <| .w 10 .neq <| .nil ?_
  refine .cd (fun C0 => ?_) (fun C0 => ?_)
  · --
    refine .seq <| .r <| .w 4 .asB <| .nil ?_
    refine .ret ⟨.bool false, Res.one rfl rfl, ⟨by rw [decide_eq_false]; intro e; subst e; exact C0 rfl, rfl⟩⟩
  refine .skip <| .seq <| .seq <| .r <| .w 5 .asI <| .nil ?_
  refine .block fun K0 hK0 => .loop (fun m s hh => ∃ (i : Nat), Has s [(0, .slice a l.length c), (1, .slice b l2.length d), (5, .int .i64 (i : Int))] ∧ h = hh ∧ i ≤ l.length ∧ l.length = l2.length ∧ l.take i = l2.take i ∧ m = l.length - i) ?_ ?_
  · exact ⟨_, 0, ⟨rfl, rfl, rfl, trivial⟩, rfl, Nat.zero_le _, by omega, rfl, rfl⟩
  rintro _ _ _ ⟨i, hs, rfl, hi, hlm, ht, rfl⟩ J0 hJ0
  refine .frame hs fun τ => ?_
  refine .seq <| .seq <| .r <| .w 11 .mvI <| .w 12 .mvS <| .w 13 (.len T.el22) <| .w 14 .lss <| .nil ?_
  refine .cdr (fun C1 => ?_) (fun C1 => ?_)
  · --
    have hil : i = l.length := by omega
    have him : i = l2.length := by omega
    refine .exit <| hK0 _ _ <| .seq <| .r <| .w 4 .asB <| .nil ?_
    refine .ret ⟨.bool true, Res.one rfl rfl, ⟨by rw [decide_eq_true]; have := ht; rw [hil, List.take_length] at this; rw [this, ← hil, him, List.take_length], rfl⟩⟩
  have hil : i < l.length := by omega
  have him : i < l2.length := by omega
  refine .skip <| .seq <| .block fun K1 hK1 => .seq <| .q (hm := mixed) <| .w 17 .mvS <| .w 18 .mvI <| ?_
  obtain ⟨bb1, oo1, rfl, fb1⟩ := hl.pos (by omega)
  refine .w 19 (.ix1 i T.el22 T.sz5) <| .w 20 (.ld T.ag5 (hl.u8 (i := i) (by omega))) <| .w 21 .mvS <| .w 22 .mvI <| ?_
  obtain ⟨bb2, oo2, rfl, fb2⟩ := hm.pos (by omega)
  refine .w 23 (.ix1 i T.el22 T.sz5) <| .w 24 (.ld T.ag5 (hm.u8 (i := i) (by omega))) <| .w 25 .neq <| .nil ?_
  refine .cd (fun C2 => ?_) (fun C2 => ?_)
  · --
    refine .seq <| .r <| .w 4 .asB <| .nil ?_
    refine .ret ⟨.bool false, Res.one rfl rfl, ⟨by rw [decide_eq_false]; intro e; subst e; exact C2 rfl, rfl⟩⟩
  refine .skip <| .end <| hK1 _ _ <| .r <| .w 15 .mvI <| .w 16 (.addI (b := 1)) <| .w 5 .asI <| .nil ?_
  refine .end <| hJ0 _ _ _ ⟨i + 1, ⟨rfl, rfl, rfl, trivial⟩, rfl, by omega, by omega, by rw [take_next hil, take_next him, ht]; congr 2; exact UInt8.toNat_inj.1 (by omega), rfl⟩ (by omega)

set_option maxRecDepth 100000 in
set_option maxHeartbeats 2000000 in
theorem size_any {h : Heap} {z : Int} (hz : -9223372036854775808 ≤ z ∧ z ≤ 9223372036854775807) :
    HC Try.prog 55 #[.int .i64 z] h (fun v h' => v = .bool (okZ z) ∧ h' = h) := by
  refine HC.go Try.func55 16 ?_
  refine .seq <| .r <| .w 2 .asB <| .nil ?_
  refine .seq <| .r <| .w 3 .mvI <| .w 4 .geq <| .w 5 .mvB <| .sd (fun G5 => ?_) (fun G5 => ?_)
  ·
    refine .w 6 .mvI <| .w 7 .leq <| .w 8 .pkt <| .w 9 .mvB <| .sd (fun G9 => ?_) (fun G9 => ?_)
    ·
      obtain ⟨q, rfl⟩ : ∃ q : Nat, z = (q : Int) := ⟨z.toNat, by omega⟩
      have hq := and_pow q (by omega) (by omega)
      refine .w 10 .mvI <| .w 11 .mvI <| .w 12 .sub <| .w 13 (.bandI q (q - 1)) <| .w 14 .eql <| .w 15 .pkt <| .w 2 .asB <| .nil ?_
      refine .ret ⟨.bool (decide ((((q &&& (q - 1)) : Nat) : Int) = 0)), Res.one rfl rfl, ⟨by first | exact congrArg _ (by unfold okZ; rw [decide_eq_decide]; omega) | exact congrArg _ (by unfold okZ; exact (decide_eq_false (by omega)).symm) | exact congrArg _ (by unfold okZ; exact (decide_eq_true (by omega)).symm), rfl⟩⟩
    refine .x 10 <| .x 11 <| .x 12 <| .x 13 <| .x 14 <| .w 15 .pkf <| .w 2 .asB <| .nil ?_
    refine .ret ⟨.bool false, Res.one rfl rfl, ⟨by first | exact congrArg _ (by unfold okZ; rw [decide_eq_decide]; omega) | exact congrArg _ (by unfold okZ; exact (decide_eq_false (by omega)).symm) | exact congrArg _ (by unfold okZ; exact (decide_eq_true (by omega)).symm), rfl⟩⟩
  refine .x 6 <| .x 7 <| .w 8 .pkf <| .w 9 .mvB <| .x 10 <| .x 11 <| .x 12 <| .x 13 <| .x 14 <| .w 15 .pkf <| .w 2 .asB <| .nil ?_
  refine .ret ⟨.bool false, Res.one rfl rfl, ⟨by first | exact congrArg _ (by unfold okZ; rw [decide_eq_decide]; omega) | exact congrArg _ (by unfold okZ; exact (decide_eq_false (by omega)).symm) | exact congrArg _ (by unfold okZ; exact (decide_eq_true (by omega)).symm), rfl⟩⟩

set_option maxRecDepth 100000 in
set_option maxHeartbeats 2000000 in
theorem rsize_any {h : Heap} {z : Int} (hz : -9223372036854775808 ≤ z ∧ z ≤ 9223372036854775807) :
    HC Try.prog 60 #[.int .i64 z] h (fun v h' => v = .bool (okZ z) ∧ h' = h) := by
  refine HC.go Try.func60 11 ?_
  refine .seq <| .r <| .w 2 .asB <| .nil ?_
  refine .seq <| .seq <| .r <| .w 3 .asI <| .nil ?_
  refine .block fun K0 hK0 => .loop (fun m s hh => ∃ (k : Nat), Has s [(0, .int .i64 z), (3, .int .i64 (k : Int))] ∧ h = hh ∧ (k = 256 ∨ k = 512 ∨ k = 1024 ∨ k = 2048 ∨ k = 4096 ∨ k = 8192) ∧ (z = 256 ∨ z = 512 ∨ z = 1024 ∨ z = 2048 ∨ z = 4096 → (k : Int) ≤ z) ∧ m = 8192 - k) ?_ ?_
  · exact ⟨_, 256, ⟨rfl, rfl, trivial⟩, rfl, .inl rfl, by omega, rfl⟩
  rintro _ _ _ ⟨k, hs, rfl, hk, hzk, rfl⟩ J0 hJ0
  refine .frame hs fun τ => ?_
  refine .seq <| .seq <| .r <| .w 4 .mvI <| .w 5 .leq <| .nil ?_
  refine .cdr (fun C0 => ?_) (fun C0 => ?_)
  · --
    refine .exit <| hK0 _ _ <| .seq <| .r <| .w 2 .asB <| .nil ?_
    refine .ret ⟨.bool false, Res.one rfl rfl, ⟨by first | exact congrArg _ (by unfold okZ; rw [decide_eq_decide]; omega) | exact congrArg _ (by unfold okZ; exact (decide_eq_false (by omega)).symm) | exact congrArg _ (by unfold okZ; exact (decide_eq_true (by omega)).symm), rfl⟩⟩
  refine .skip <| .seq <| .block fun K1 hK1 => .seq <| .r <| .w 8 .mvI <| .w 9 .mvI <| .w 10 .eql <| .nil ?_
  refine .cd (fun C1 => ?_) (fun C1 => ?_)
  · --
    refine .seq <| .r <| .w 2 .asB <| .nil ?_
    refine .ret ⟨.bool true, Res.one rfl rfl, ⟨by first | exact congrArg _ (by unfold okZ; rw [decide_eq_decide]; omega) | exact congrArg _ (by unfold okZ; exact (decide_eq_false (by omega)).symm) | exact congrArg _ (by unfold okZ; exact (decide_eq_true (by omega)).symm), rfl⟩⟩
  refine .skip <| .end <| hK1 _ _ <| .r <| .w 6 .mvI <| .w 7 (.mulI (b := 2)) <| .w 3 .asI <| .nil ?_
  refine .end <| hJ0 _ _ _ ⟨k * 2, ⟨rfl, rfl, trivial⟩, rfl, by omega, by omega, rfl⟩ (by omega)

theorem okF_t {z1 z2 : Int} {l : List UInt8} (h : 1 ≤ z1 ∧ z1 ≤ 1048576 ∧ 0 ≤ z2 ∧ z2 ≤ 1048576) : okF ⟨z1, z2, l⟩ = okSz l.length := by simp [okF, h]
theorem okF_f {z1 z2 : Int} {l : List UInt8} (h : ¬ (1 ≤ z1 ∧ z1 ≤ 1048576 ∧ 0 ≤ z2 ∧ z2 ≤ 1048576)) : okF ⟨z1, z2, l⟩ = false := by
  simp only [okF, decide_eq_false h, Bool.false_and]

set_option maxRecDepth 100000 in
set_option maxHeartbeats 2000000 in
theorem isframe_any {h : Heap} {F E : Nat → Prop} {z1 z2 : Int} {a : Option Addr} {c : Nat} {l : List UInt8} (hl : RdL h F E (a, l.length, c) l) :
    HC Try.prog 63 #[.agg #[.int .i64 z1, .int .i64 z2, .slice a l.length c]] h (fun v h' => v = .bool (okF ⟨z1, z2, l⟩) ∧ Ext h h') := by
  have hc2 := hl.m
  have hc1 : l.length ≤ c := hl.c
  simp only at hc2
  have ok := (Hp.nil h none_).arg hl
  refine HC.go Try.func63 27 ?_
  refine .seq <| .r <| .a' 1 (.bxA (cs := [.int .i64 z1, .int .i64 z2, .slice a l.length c]) ok) ?_
  rintro _ η1 ⟨pb1, rfl, ok, xe⟩
  refine .w 2 .asB <| .nil ?_
  refine .seq <| .r <| .w 3 (.fa T.fd38_0) <| .w 4 (.ldx T.ag3 ok.m0) <| .w 5 .geq <| .w 6 .mvB <| .sd (fun G6 => ?_) (fun G6 => ?_)
  ·
    refine .w 7 (.fa T.fd38_0) <| .w 8 (.ldx T.ag3 ok.m0) <| .w 9 .leq <| .w 10 .pkt <| .w 11 .mvB <| .sd (fun G11 => ?_) (fun G11 => ?_)
    ·
      refine .w 12 (.fa T.fd38_1) <| .w 13 (.ldx T.ag3 ok.m0) <| .w 14 .geq <| .w 15 .pkt <| .w 16 .mvB <| .sd (fun G16 => ?_) (fun G16 => ?_)
      ·
        refine .w 17 (.fa T.fd38_1) <| .w 18 (.ldx T.ag3 ok.m0) <| .w 19 .leq <| .w 20 .pkt <| .w 21 .mvB <| .sd (fun G21 => ?_) (fun G21 => ?_)
        ·
          refine .w 22 (.fa T.fd38_2) <| .w 23 (.ldx T.ag22 ok.m0) <| .w 24 (.len T.el22) <| .k 25 .func (size_any (z := (l.length : Int)) (by omega)) <| .w 26 .pkt <| .w 2 .asB <| .nil ?_
          refine .ret ⟨.bool (okZ (l.length : Int)), Res.one rfl rfl, ⟨by first | exact congrArg _ (by rw [okZ_nat, okF_t (by omega)]) | exact congrArg _ (okF_f (by omega)).symm, ok.chg⟩⟩
        refine .x 22 <| .x 23 <| .x 24 <| .x 25 <| .w 26 .pkf <| .w 2 .asB <| .nil ?_
        refine .ret ⟨.bool false, Res.one rfl rfl, ⟨by first | exact congrArg _ (by rw [okZ_nat, okF_t (by omega)]) | exact congrArg _ (okF_f (by omega)).symm, ok.chg⟩⟩
      refine .x 17 <| .x 18 <| .x 19 <| .w 20 .pkf <| .w 21 .mvB <| .x 22 <| .x 23 <| .x 24 <| .x 25 <| .w 26 .pkf <| .w 2 .asB <| .nil ?_
      refine .ret ⟨.bool false, Res.one rfl rfl, ⟨by first | exact congrArg _ (by rw [okZ_nat, okF_t (by omega)]) | exact congrArg _ (okF_f (by omega)).symm, ok.chg⟩⟩
    refine .x 12 <| .x 13 <| .x 14 <| .w 15 .pkf <| .w 16 .mvB <| .x 17 <| .x 18 <| .x 19 <| .w 20 .pkf <| .w 21 .mvB <| .x 22 <| .x 23 <| .x 24 <| .x 25 <| .w 26 .pkf <| .w 2 .asB <| .nil ?_
    refine .ret ⟨.bool false, Res.one rfl rfl, ⟨by first | exact congrArg _ (by rw [okZ_nat, okF_t (by omega)]) | exact congrArg _ (okF_f (by omega)).symm, ok.chg⟩⟩
  refine .x 7 <| .x 8 <| .x 9 <| .w 10 .pkf <| .w 11 .mvB <| .x 12 <| .x 13 <| .x 14 <| .w 15 .pkf <| .w 16 .mvB <| .x 17 <| .x 18 <| .x 19 <| .w 20 .pkf <| .w 21 .mvB <| .x 22 <| .x 23 <| .x 24 <| .x 25 <| .w 26 .pkf <| .w 2 .asB <| .nil ?_
  refine .ret ⟨.bool false, Res.one rfl rfl, ⟨by first | exact congrArg _ (by rw [okZ_nat, okF_t (by omega)]) | exact congrArg _ (okF_f (by omega)).symm, ok.chg⟩⟩

set_option maxRecDepth 100000 in
set_option maxHeartbeats 2000000 in
theorem may_any {h : Heap} {F E : Nat → Prop} {z1 z2 : Int} {a : Option Addr} {c : Nat} {l : List UInt8} (hl : RdL h F E (a, l.length, c) l) :
    HC Try.prog 25 #[.agg #[.int .i64 z1, .int .i64 z2, .slice a l.length c]] h (fun v h' => v = .bool (okF ⟨z1, z2, l⟩) ∧ Ext h h') := by
  have hc2 := hl.m
  have hc1 : l.length ≤ c := hl.c
  simp only at hc2
  have ok := (Hp.nil h none_).arg hl
  refine HC.go Try.func25 27 ?_
  refine .seq <| .r <| .a' 1 (.bxA (cs := [.int .i64 z1, .int .i64 z2, .slice a l.length c]) ok) ?_
  rintro _ η1 ⟨pb1, rfl, ok, xe⟩
  refine .w 2 .asB <| .nil ?_
  refine .seq <| .r <| .w 3 (.fa T.fd38_0) <| .w 4 (.ldx T.ag3 ok.m0) <| .w 5 .geq <| .w 6 .mvB <| .sd (fun G6 => ?_) (fun G6 => ?_)
  ·
    refine .w 7 (.fa T.fd38_0) <| .w 8 (.ldx T.ag3 ok.m0) <| .w 9 .leq <| .w 10 .pkt <| .w 11 .mvB <| .sd (fun G11 => ?_) (fun G11 => ?_)
    ·
      refine .w 12 (.fa T.fd38_1) <| .w 13 (.ldx T.ag3 ok.m0) <| .w 14 .geq <| .w 15 .pkt <| .w 16 .mvB <| .sd (fun G16 => ?_) (fun G16 => ?_)
      ·
        refine .w 17 (.fa T.fd38_1) <| .w 18 (.ldx T.ag3 ok.m0) <| .w 19 .leq <| .w 20 .pkt <| .w 21 .mvB <| .sd (fun G21 => ?_) (fun G21 => ?_)
        ·
          refine .w 22 (.fa T.fd38_2) <| .w 23 (.ldx T.ag22 ok.m0) <| .w 24 (.len T.el22) <| .k 25 .func (rsize_any (z := (l.length : Int)) (by omega)) <| .w 26 .pkt <| .w 2 .asB <| .nil ?_
          refine .ret ⟨.bool (okZ (l.length : Int)), Res.one rfl rfl, ⟨by first | exact congrArg _ (by rw [okZ_nat, okF_t (by omega)]) | exact congrArg _ (okF_f (by omega)).symm, ok.chg⟩⟩
        refine .x 22 <| .x 23 <| .x 24 <| .x 25 <| .w 26 .pkf <| .w 2 .asB <| .nil ?_
        refine .ret ⟨.bool false, Res.one rfl rfl, ⟨by first | exact congrArg _ (by rw [okZ_nat, okF_t (by omega)]) | exact congrArg _ (okF_f (by omega)).symm, ok.chg⟩⟩
      refine .x 17 <| .x 18 <| .x 19 <| .w 20 .pkf <| .w 21 .mvB <| .x 22 <| .x 23 <| .x 24 <| .x 25 <| .w 26 .pkf <| .w 2 .asB <| .nil ?_
      refine .ret ⟨.bool false, Res.one rfl rfl, ⟨by first | exact congrArg _ (by rw [okZ_nat, okF_t (by omega)]) | exact congrArg _ (okF_f (by omega)).symm, ok.chg⟩⟩
    refine .x 12 <| .x 13 <| .x 14 <| .w 15 .pkf <| .w 16 .mvB <| .x 17 <| .x 18 <| .x 19 <| .w 20 .pkf <| .w 21 .mvB <| .x 22 <| .x 23 <| .x 24 <| .x 25 <| .w 26 .pkf <| .w 2 .asB <| .nil ?_
    refine .ret ⟨.bool false, Res.one rfl rfl, ⟨by first | exact congrArg _ (by rw [okZ_nat, okF_t (by omega)]) | exact congrArg _ (okF_f (by omega)).symm, ok.chg⟩⟩
  refine .x 7 <| .x 8 <| .x 9 <| .w 10 .pkf <| .w 11 .mvB <| .x 12 <| .x 13 <| .x 14 <| .w 15 .pkf <| .w 16 .mvB <| .x 17 <| .x 18 <| .x 19 <| .w 20 .pkf <| .w 21 .mvB <| .x 22 <| .x 23 <| .x 24 <| .x 25 <| .w 26 .pkf <| .w 2 .asB <| .nil ?_
  refine .ret ⟨.bool false, Res.one rfl rfl, ⟨by first | exact congrArg _ (by rw [okZ_nat, okF_t (by omega)]) | exact congrArg _ (okF_f (by omega)).symm, ok.chg⟩⟩

set_option maxRecDepth 100000 in
set_option maxHeartbeats 2000000 in
theorem four_any {h : Heap} {n : Nat} (hn : n < 9223372036854775808) :
    HC Try.prog 58 #[.int .i64 (n : Int)] h (fun v h' => Own h h' 1 5 v ((fixedN n 4).map bv)) := by
  have ok := Hp.nil h none_
  refine HC.go Try.func58 6 ?_
  refine .seq <| .r <| .w 2 .asS <| .nil ?_
  refine .seq <| .r <| .w 3 .mvI <| .w 4 (.cvs T.in25 T.in3 (M := 18446744073709551616) rfl rfl) <| .c' 5 .func (fixed_any (n := n) (size := 4) (by omega) (by omega) (by omega)) ?_
  rintro _ η1 own
  obtain ⟨ya1, yc1, rfl⟩ := own.formB
  have ok := ok.own own
  refine .w 2 .asS <| .nil ?_
  refine .ret ⟨.slice ya1 ((fixedN n 4).length) yc1, Res.one rfl rfl, ok.toOwn⟩

set_option maxRecDepth 100000 in
set_option maxHeartbeats 2000000 in
theorem start_bad {h : Heap} {z : Int} {salt : Nat} (hz : -9223372036854775808 ≤ z ∧ z ≤ 9223372036854775807) (hk : okZ z = false) :
    HC Try.prog 20 #[.int .i64 z, .int .u64 (salt : Int)] h (fun v h' => v = .tuple #[.slice none 0 0, .int .i64 1] ∧ h' = h) := by
  refine HC.go Try.func20 18 ?_
  refine .seq <| .r <| .w 4 .asS <| .w 5 .asI <| .nil ?_
  refine .seq <| .seq <| .r <| .w 6 .mvI <| .k 7 .func (size_any (z := z) (by omega)) <| .w 8 .not <| .nil ?_
  refine .cond (fun C0 => ?_) (fun C0 => ?_)
  · --
    refine .seq <| .r <| .w 4 .asS <| .w 5 .asI <| .nil ?_
    refine .ret ⟨.tuple #[.slice none 0 0, .int .i64 1], Res.two rfl rfl rfl, ⟨rfl, rfl⟩⟩
  exact absurd hk (by simpa using C0)

set_option maxRecDepth 100000 in
set_option maxHeartbeats 2000000 in
theorem start_ok {h : Heap} {n salt : Nat} (hn : n < 9223372036854775808) (hs : salt < 18446744073709551616) (hk : okZ (n : Int) = true) :
    HC Try.prog 20 #[.int .i64 (n : Int), .int .u64 (salt : Int)] h (fun v h' => ∃ w, v = .tuple #[w, .int .i64 0] ∧ Own h h' 1 5 w ((headN n salt).map bv)) := by
  have ok := Hp.nil h none_
  refine HC.go Try.func20 18 ?_
  refine .seq <| .r <| .w 4 .asS <| .w 5 .asI <| .nil ?_
  refine .seq <| .seq <| .r <| .w 6 .mvI <| .k 7 .func (size_any (z := (n : Int)) (by omega)) <| .w 8 .not <| .nil ?_
  refine .cond (fun C0 => ?_) (fun C0 => ?_)
  · --
    rw [hk] at C0; exact absurd C0 (by decide)
  refine .skip <| .seq <| .r <| .a' 9 (.lit [.const (.int .u8 116), .const (.int .u8 111), .const (.int .u8 109), .const (.int .u8 101)] (cs := [.int .u8 116, .int .u8 111, .int .u8 109, .int .u8 101]) T.el22 T.sz5 T.zr5 ok ⟨rfl, rfl, rfl, rfl, trivial⟩) ?_
  rintro _ η1 ⟨pb1, rfl, ok, xe⟩
  have ok := ok.cx (ys := ([116, 111, 109, 101] : List UInt8).map bv) rfl
  refine .a' 10 (.cvL T.el22 T.in5 ok) ?_
  rintro _ η2 ⟨rfl, ok, cg⟩
  refine .w 11 .mvI <| .c' 12 .func (four_any (n := n) (by omega)) ?_
  rintro _ η3 own
  obtain ⟨ya1, yc1, rfl⟩ := own.formB
  have ok := ok.own own
  refine .w 13 .mvI <| .c' 14 .func (fixed_any (n := salt) (size := 8) (by omega) (by omega) (by omega)) ?_
  rintro _ η4 own
  obtain ⟨ya2, yc2, rfl⟩ := own.formB
  have ok := ok.own own
  refine .a' 15 (.lit [.tmp 10, .tmp 12, .tmp 14] (cs := [.slice (some ⟨pb1, 0, none⟩) 4 4, .slice ya1 ((fixedN n 4).length) yc1, .slice ya2 ((fixedN salt 8).length) yc2]) T.el143 T.sz22 T.zr22 ok ⟨rfl, rfl, rfl, trivial⟩) ?_
  rintro _ η5 ⟨pb2, rfl, ok, xe⟩
  refine .c' 16 .func (njoin_any (a := some ⟨pb2, 0, none⟩) (c := 3) (L := [[116, 111, 109, 101], (fixedN n 4), (fixedN salt 8)]) (RdL.rows (v := (some ⟨pb2, 0, none⟩, 3, 3)) (xs := [(some ⟨pb1, 0, none⟩, 4, 4), (ya1, (fixedN n 4).length, yc1), (ya2, (fixedN salt 8).length, yc2)]) (ls := [[116, 111, 109, 101], (fixedN n 4), (fixedN salt 8)]) ok.m0 ⟨⟨_, _, (RdL.ofCapB (v := (some ⟨pb1, 0, none⟩, 4, 4)) (l := [116, 111, 109, 101]) ok.m3)⟩, ⟨_, _, (RdL.ofCapB (v := (ya1, (fixedN n 4).length, yc1)) (l := (fixedN n 4)) ok.m2)⟩, ⟨_, _, (RdL.ofCapB (v := (ya2, (fixedN salt 8).length, yc2)) (l := (fixedN salt 8)) ok.m1)⟩, trivial⟩) (by simp [fixedN_len] <;> omega)) ?_
  rintro _ η6 own
  obtain ⟨ya3, yc3, rfl⟩ := own.formB
  have ok := ok.own own
  refine .c' 17 .func (seal_any (a := ya3) (c := yc3) (l := ([[116, 111, 109, 101], (fixedN n 4), (fixedN salt 8)]).flatten) (RdL.ofCapB (v := (ya3, (([[116, 111, 109, 101], (fixedN n 4), (fixedN salt 8)]).flatten).length, yc3)) (l := (([[116, 111, 109, 101], (fixedN n 4), (fixedN salt 8)]).flatten)) ok.m0) (by simp [fixedN_len] <;> omega)) ?_
  rintro _ η7 own
  obtain ⟨ya4, yc4, rfl⟩ := own.formB
  have ok := ok.own own
  refine .w 4 .asS <| .w 5 .asI <| .nil ?_
  refine .ret ⟨.tuple #[.slice ya4 ((sealN (([[116, 111, 109, 101], (fixedN n 4), (fixedN salt 8)]).flatten)).length) yc4, .int .i64 0], Res.two rfl rfl rfl, _, rfl, by have := ok.toOwn; simpa [headN] using this⟩

set_option maxRecDepth 100000 in
set_option maxHeartbeats 2000000 in
theorem rstart_bad {h : Heap} {z : Int} {salt : Nat} (hz : -9223372036854775808 ≤ z ∧ z ≤ 9223372036854775807) (hk : okZ z = false) :
    HC Try.prog 21 #[.int .i64 z, .int .u64 (salt : Int)] h (fun v h' => v = .tuple #[.slice none 0 0, .int .i64 1] ∧ h' = h) := by
  refine HC.go Try.func21 20 ?_
  refine .seq <| .r <| .w 4 .asS <| .w 5 .asI <| .nil ?_
  refine .seq <| .seq <| .r <| .w 7 .mvI <| .k 8 .func (rsize_any (z := z) (by omega)) <| .w 9 .not <| .nil ?_
  refine .cond (fun C0 => ?_) (fun C0 => ?_)
  · --
    refine .seq <| .r <| .w 4 .asS <| .w 5 .asI <| .nil ?_
    refine .ret ⟨.tuple #[.slice none 0 0, .int .i64 1], Res.two rfl rfl rfl, ⟨rfl, rfl⟩⟩
  exact absurd hk (by simpa using C0)

set_option maxRecDepth 100000 in
set_option maxHeartbeats 2000000 in
theorem rstart_ok {h : Heap} {n salt : Nat} (hn : n < 9223372036854775808) (hs : salt < 18446744073709551616) (hk : okZ (n : Int) = true) :
    HC Try.prog 21 #[.int .i64 (n : Int), .int .u64 (salt : Int)] h (fun v h' => ∃ w, v = .tuple #[w, .int .i64 0] ∧ Own h h' 1 5 w ((headN n salt).map bv)) := by
  have ok := Hp.nil h none_
  refine HC.go Try.func21 20 ?_
  refine .seq <| .r <| .w 4 .asS <| .w 5 .asI <| .nil ?_
  refine .seq <| .seq <| .r <| .w 7 .mvI <| .k 8 .func (rsize_any (z := (n : Int)) (by omega)) <| .w 9 .not <| .nil ?_
  refine .cond (fun C0 => ?_) (fun C0 => ?_)
  · --
    rw [hk] at C0; exact absurd C0 (by decide)
  refine .skip <| .seq <| .r <| .a' 10 (.lit [.const (.int .u8 116), .const (.int .u8 111), .const (.int .u8 109), .const (.int .u8 101)] (cs := [.int .u8 116, .int .u8 111, .int .u8 109, .int .u8 101]) T.el22 T.sz5 T.zr5 ok ⟨rfl, rfl, rfl, rfl, trivial⟩) ?_
  rintro _ η1 ⟨pb1, rfl, ok, xe⟩
  have ok := ok.cx (ys := ([116, 111, 109, 101] : List UInt8).map bv) rfl
  refine .w 11 .mvI <| .w 12 (.cvs T.in25 T.in3 (M := 18446744073709551616) rfl rfl) <| .c' 13 .func (rfixed_any (n := n) (size := 4) (by omega) (by omega) (by omega)) ?_
  rintro _ η2 own
  obtain ⟨ya1, yc1, rfl⟩ := own.formB
  have ok := ok.own own
  refine .a' 14 (.app (news := (fixedN n 4).map bv) T.el22 T.sz5 T.by5 T.zr5 ok.n1 (ok.n1.m1).sl bv_all (by simp only [List.length_map, List.length_append, List.length_take, List.length_cons, List.length_nil, List.length_replicate, List.length_range, fixedN_len, sealN_len]; omega)) ?_
  rintro _ η3 ⟨ya2, yn2, yc2, rfl, ok, ap⟩
  have ok := ok.cx (ys := ([116, 111, 109, 101] ++ (fixedN n 4)).map bv) (by simp [bv])
  obtain rfl : yn2 = ([116, 111, 109, 101] ++ (fixedN n 4)).length := ok.lenB
  refine .w 6 .asS <| .nil ?_
  refine .seq <| .r <| .w 15 .mvS <| .w 16 .mvI <| .c' 17 .func (rfixed_any (n := salt) (size := 8) (by omega) (by omega) (by omega)) ?_
  rintro _ η4 own
  obtain ⟨ya3, yc3, rfl⟩ := own.formB
  have ok := ok.own own
  refine .a' 18 (.app (news := (fixedN salt 8).map bv) T.el22 T.sz5 T.by5 T.zr5 ok.n1 (ok.n1.m1).sl bv_all (by simp only [List.length_map, List.length_append, List.length_take, List.length_cons, List.length_nil, List.length_replicate, List.length_range, fixedN_len, sealN_len]; omega)) ?_
  rintro _ η5 ⟨ya4, yn4, yc4, rfl, ok, ap⟩
  have ok := ok.cx (ys := ([116, 111, 109, 101] ++ (fixedN n 4) ++ (fixedN salt 8)).map bv) (by simp [bv])
  obtain rfl : yn4 = ([116, 111, 109, 101] ++ (fixedN n 4) ++ (fixedN salt 8)).length := ok.lenB
  refine .c' 19 .func (rseal_any (a := ya4) (c := yc4) (l := [116, 111, 109, 101] ++ (fixedN n 4) ++ (fixedN salt 8)) (RdL.ofCapB (v := (ya4, ([116, 111, 109, 101] ++ (fixedN n 4) ++ (fixedN salt 8)).length, yc4)) (l := ([116, 111, 109, 101] ++ (fixedN n 4) ++ (fixedN salt 8))) ok.m0) (by simp [fixedN_len] <;> omega)) ?_
  rintro _ η6 own
  obtain ⟨ya5, yc5, rfl⟩ := own.formB
  have ok := ok.own own
  refine .w 4 .asS <| .w 5 .asI <| .nil ?_
  refine .ret ⟨.tuple #[.slice ya5 ((sealN ([116, 111, 109, 101] ++ (fixedN n 4) ++ (fixedN salt 8))).length) yc5, .int .i64 0], Res.two rfl rfl rfl, _, rfl, by have := ok.toOwn; simpa [headN] using this⟩

end Go.Proofs.Ytpebbkhainpfaaa
