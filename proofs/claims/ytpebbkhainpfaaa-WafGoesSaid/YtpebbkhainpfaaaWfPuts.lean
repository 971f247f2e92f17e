/- The law WafPuts: what the program puts is what the document puts. Conditions: the frame is readable. -/
import Derived.Test.YtpebbkhainpfaaaWfLive
namespace Go.Proofs.Ytpebbkhainpfaaa
open Go Go.HL
def StartR (z : Int) (salt : Nat) (h : Heap) (v : Value) (h' : Heap) : Prop := (okZ z = false ∧ v = .tuple #[.slice none 0 0, .int .i64 1] ∧ Ext h h') ∨ (okZ z = true ∧ ∃ w, v = .tuple #[w, .int .i64 0] ∧ Own h h' 1 5 w ((headN z.toNat salt).map bv))
theorem okZ_pos {z : Int} (h : okZ z = true) : ∃ n : Nat, z = (n : Int) ∧ n < 9223372036854775808 := by
  have := of_decide_eq_true h
  exact ⟨z.toNat, by omega, by omega⟩
theorem startZ_any {h : Heap} {z : Int} {salt : Nat} (hz : -9223372036854775808 ≤ z ∧ z ≤ 9223372036854775807) (hs : salt < 18446744073709551616) : HC Try.prog 20 #[.int .i64 z, .int .u64 (salt : Int)] h (StartR z salt h) := by
  cases hk : okZ z with
  | false => exact (start_bad hz hk).mono fun v h' q => .inl ⟨hk, q.1, by rw [q.2]; exact Ext.refl _⟩
  | true =>
    obtain ⟨n, rfl, hn⟩ := okZ_pos hk
    exact (start_ok hn hs hk).mono fun v h' q => .inr ⟨hk, by simpa using q⟩
theorem rstartZ_any {h : Heap} {z : Int} {salt : Nat} (hz : -9223372036854775808 ≤ z ∧ z ≤ 9223372036854775807) (hs : salt < 18446744073709551616) : HC Try.prog 21 #[.int .i64 z, .int .u64 (salt : Int)] h (StartR z salt h) := by
  cases hk : okZ z with
  | false => exact (rstart_bad hz hk).mono fun v h' q => .inl ⟨hk, q.1, by rw [q.2]; exact Ext.refl _⟩
  | true =>
    obtain ⟨n, rfl, hn⟩ := okZ_pos hk
    exact (rstart_ok hn hs hk).mono fun v h' q => .inr ⟨hk, by simpa using q⟩
def PutR (f : Fr) (r : Nat) (h : Heap) (v : Value) (h' : Heap) : Prop := (okF f = false ∧ v = .tuple #[.slice none 0 0, .int .u64 0, .int .i64 1] ∧ Ext h h') ∨ (okF f = true ∧ ∃ w, v = .tuple #[w, .int .u64 ((linkN r f : Nat) : Int), .int .i64 0] ∧ Own h h' 1 5 w ((putN r f).map bv))
theorem okF_pos {f : Fr} (h : okF f = true) : ∃ p q : Nat, f = ⟨(p : Int), (q : Int), f.b⟩ ∧ p < 9223372036854775808 ∧ q < 9223372036854775808 := by
  obtain ⟨h1, _⟩ := okF_iff.1 h
  obtain ⟨z1, z2, l⟩ := f
  simp only at h1
  exact ⟨z1.toNat, z2.toNat, by simp only [Fr.mk.injEq, and_true]; omega, by omega, by omega⟩
theorem putZ_any {h : Heap} {F E : Nat → Prop} {z1 z2 : Int} {r : Nat} {a : Option Addr} {c : Nat} {l : List UInt8} (hr : r < 18446744073709551616) (hN : l.length ≤ 100000000) (hl : RdL h F E (a, l.length, c) l) : HC Try.prog 22 #[.int .u64 (r : Int), .agg #[.int .i64 z1, .int .i64 z2, .slice a l.length c]] h (PutR ⟨z1, z2, l⟩ r h) := by
  cases hk : okF ⟨z1, z2, l⟩ with
  | false => exact (put_bad hk hl).mono fun v h' q => .inl ⟨hk, q⟩
  | true =>
    obtain ⟨p, q, e, hp, hq⟩ := okF_pos hk
    injection e with e1 e2; subst e1 e2
    exact (put_ok hp hq hr hk hN hl).mono fun v h' q => .inr ⟨hk, q⟩
theorem rputZ_any {h : Heap} {F E : Nat → Prop} {z1 z2 : Int} {r : Nat} {a : Option Addr} {c : Nat} {l : List UInt8} (hr : r < 18446744073709551616) (hN : l.length ≤ 100000000) (hl : RdL h F E (a, l.length, c) l) : HC Try.prog 23 #[.int .u64 (r : Int), .agg #[.int .i64 z1, .int .i64 z2, .slice a l.length c]] h (PutR ⟨z1, z2, l⟩ r h) := by
  cases hk : okF ⟨z1, z2, l⟩ with
  | false => exact (rput_bad hk hl).mono fun v h' q => .inl ⟨hk, q⟩
  | true =>
    obtain ⟨p, q, e, hp, hq⟩ := okF_pos hk
    injection e with e1 e2; subst e1 e2
    exact (rput_ok hp hq hr hk hN hl).mono fun v h' q => .inr ⟨hk, q⟩
theorem one_rd {h : Heap} {F E : Nat → Prop} {z1 z2 : Int} {a : Option Addr} {c b n m : Nat} {l : List UInt8} {e : TypeId} (hc : Cap h 3 e (.slice (some ⟨b, 0, none⟩) n m) [.int .i64 z1, .int .i64 z2, .slice a l.length c]) (hl : RdL h F E (a, l.length, c) l) : RdL h (blkC (sv (some ⟨b, 0, none⟩, n, m))) any_ (some ⟨b, 0, none⟩, n, m) [(⟨z1, z2, l⟩ : Fr)] :=
  RdL.of_cap (α := Fr) (css := [[.int .i64 z1, .int .i64 z2, .slice a l.length c]]) hc (All2.cons ⟨(a, l.length, c), rfl, hl.mono (fun _ _ => trivial) (fun _ _ => trivial)⟩ All2.nil)

set_option maxRecDepth 100000 in
set_option maxHeartbeats 2000000 in
theorem puts_walk {h : Heap} {F E : Nat → Prop} {z z1 z2 : Int} {salt r : Nat} {a : Option Addr} {c : Nat} {l : List UInt8} (hz : -9223372036854775808 ≤ z ∧ z ≤ 9223372036854775807) (hs : salt < 18446744073709551616) (hr : r < 18446744073709551616) (hl : RdL h F E (a, l.length, c) l) :
    HC Try.prog 5 #[.int .i64 z, .int .u64 (salt : Int), .int .u64 (r : Int), .agg #[.int .i64 z1, .int .i64 z2, .slice a l.length c]] h (fun v h' => v = .bool true ∧ Ext h h') := by
  have hc2 := hl.m
  have hc1 : l.length ≤ c := hl.c
  simp only at hc2
  have ok := (Hp.nil h none_).arg hl
  refine HC.go Try.func5 76 ?_
  refine .seq <| .r <| .a' 7 (.bxA (cs := [.int .i64 z1, .int .i64 z2, .slice a l.length c]) ok) ?_
  rintro _ η1 ⟨pb1, rfl, ok, xe⟩
  refine .w 8 .asB <| .nil ?_
  refine .seq <| .seq <| .r <| .w 19 (.ldb T.ag38 ok.m0 T.sz38) <| .a' 20 (.lit [.tmp 19] (cs := [.int .i64 z1, .int .i64 z2, .slice a l.length c]) T.el24 T.sz38 T.zr38 ok ⟨rfl, trivial⟩) ?_
  rintro _ η2 ⟨pb2, rfl, ok, xe⟩
  refine .k 21 .func (few_any (a := some ⟨pb2, 0, none⟩) (c := 1) (l := [⟨z1, z2, l⟩]) (one_rd ok.m0 ok.r0)) <| .w 22 .not <| .nil ?_
  refine .cond (fun C0 => ?_) (fun C0 => ?_)
  · --
    refine .seq <| .r <| .c' 23 .func live_any ?_
    rintro _ η3 ⟨rfl, hx⟩
    have ok := ok.ext hx
    refine .w 8 .asB <| .nil ?_
    refine .ret ⟨.bool true, Res.one rfl rfl, ⟨rfl, ok.chg⟩⟩
  have hfw : fewN [⟨z1, z2, l⟩] = true := by simpa using C0
  have hb := (fewN_iff.1 hfw).2 0 (by simp)
  simp only [frN, List.getElem?_cons_zero, Option.getD_some] at hb
  refine .skip <| .seq <| .r <| .w 25 .mvI <| .w 26 .mvI <| .c' 27 .func (startZ_any (z := z) (salt := salt) (by omega) (by omega)) ?_
  rintro _ η4 (⟨hk, rfl, hx⟩ | ⟨hk, w, rfl, own⟩)
  · --
    have ok := ok.ext hx
    refine .w 24 .mvU <| .w 28 .ex <| .w 29 .ex <| .w 9 .asS <| .w 10 .asI <| .nil ?_
    refine .seq <| .r <| .w 31 .mvI <| .w 32 .mvI <| .c' 33 .func (rstartZ_any (z := z) (salt := salt) (by omega) (by omega)) ?_
    rintro _ η5 (⟨hkB, rfl, hx⟩ | ⟨hkB, w, rfl, own⟩)
    · --
      have ok := ok.ext hx
      refine .w 30 .mvU <| .w 34 .ex <| .w 35 .ex <| .w 11 .asS <| .w 12 .asI <| .nil ?_
      refine .seq <| .r <| .w 37 .mvI <| .w 38 (.ldb T.ag38 ok.m1 T.sz38) <| .c' 39 .func (putZ_any (z1 := z1) (z2 := z2) (r := r) (by omega) (by omega) (a := a) (c := c) (l := l) ok.r0) ?_
      rintro _ η6 (⟨hkC, rfl, hx⟩ | ⟨hkC, w, rfl, own⟩)
      · --
        have ok := ok.ext hx
        refine .w 36 .mvU <| .w 40 .ex <| .w 41 .ex <| .w 42 .ex <| .w 13 .asS <| .w 14 .asI <| .w 15 .asI <| .nil ?_
        refine .seq <| .r <| .w 44 .mvI <| .w 45 (.ldb T.ag38 ok.m1 T.sz38) <| .c' 46 .func (rputZ_any (z1 := z1) (z2 := z2) (r := r) (by omega) (by omega) (a := a) (c := c) (l := l) ok.r0) ?_
        rintro _ η7 (⟨hkD, rfl, hx⟩ | ⟨hkD, w, rfl, own⟩)
        · --
          have ok := ok.ext hx
          refine .w 43 .mvU <| .w 47 .ex <| .w 48 .ex <| .w 49 .ex <| .w 16 .asS <| .w 17 .asI <| .w 18 .asI <| .nil ?_
          refine .seq <| .r <| .c' 50 .func live_any ?_
          rintro _ η8 ⟨rfl, hx⟩
          have ok := ok.ext hx
          refine .w 51 .mvB <| .w 52 .mvS <| .w 53 .mvS <| .k 54 .func (same_any (a := none) (c := 0) (l := []) (b := none) (d := 0) (l2 := []) (RdL.nil _ none_ none_) (RdL.nil _ none_ none_)) <| .w 55 .pkt <| .w 56 .mvB <| .sd (fun G56 => ?_) (fun G56 => ?_)
          ·
            refine .w 57 .mvI <| .w 58 .mvI <| .w 59 .eql <| .w 60 .pkt <| .w 61 .mvB <| .w 62 .mvS <| .w 63 .mvS <| .k 64 .func (same_any (a := none) (c := 0) (l := []) (b := none) (d := 0) (l2 := []) (RdL.nil _ none_ none_) (RdL.nil _ none_ none_)) <| .w 65 .pkt <| .w 66 .mvB <| .sd (fun G66 => ?_) (fun G66 => ?_)
            ·
              refine .w 67 .mvI <| .w 68 .mvI <| .w 69 .eql <| .w 70 .pkt <| .w 71 .mvB <| .w 72 .mvI <| .w 73 .mvI <| .w 74 .eql <| .w 75 .pkt <| .w 8 .asB <| .nil ?_
              refine .ret ⟨.bool true, Res.one rfl rfl, ⟨rfl, ok.chg⟩⟩
            exact absurd rfl G66
          exact absurd rfl G56
        (rw [hkC] at hkD; cases hkD)
      obtain ⟨ya3, yc3, rfl⟩ := own.formB
      have ok := ok.own own
      refine .w 36 .mvU <| .w 40 .ex <| .w 41 .ex <| .w 42 .ex <| .w 13 .asS <| .w 14 .asI <| .w 15 .asI <| .nil ?_
      refine .seq <| .r <| .w 44 .mvI <| .w 45 (.ldb T.ag38 ok.m2 T.sz38) <| .c' 46 .func (rputZ_any (z1 := z1) (z2 := z2) (r := r) (by omega) (by omega) (a := a) (c := c) (l := l) ok.r0) ?_
      rintro _ η9 (⟨hkD, rfl, hx⟩ | ⟨hkD, w, rfl, own⟩)
      · --
        (rw [hkC] at hkD; cases hkD)
      obtain ⟨ya5, yc5, rfl⟩ := own.formB
      have ok := ok.own own
      refine .w 43 .mvU <| .w 47 .ex <| .w 48 .ex <| .w 49 .ex <| .w 16 .asS <| .w 17 .asI <| .w 18 .asI <| .nil ?_
      refine .seq <| .r <| .c' 50 .func live_any ?_
      rintro _ η10 ⟨rfl, hx⟩
      have ok := ok.ext hx
      refine .w 51 .mvB <| .w 52 .mvS <| .w 53 .mvS <| .k 54 .func (same_any (a := none) (c := 0) (l := []) (b := none) (d := 0) (l2 := []) (RdL.nil _ none_ none_) (RdL.nil _ none_ none_)) <| .w 55 .pkt <| .w 56 .mvB <| .sd (fun G56 => ?_) (fun G56 => ?_)
      ·
        refine .w 57 .mvI <| .w 58 .mvI <| .w 59 .eql <| .w 60 .pkt <| .w 61 .mvB <| .w 62 .mvS <| .w 63 .mvS <| .k 64 .func (same_any (a := ya3) (c := yc3) (l := (putN r ⟨z1, z2, l⟩)) (b := ya5) (d := yc5) (l2 := (putN r ⟨z1, z2, l⟩)) (RdL.ofCapB (v := (ya3, (putN r ⟨z1, z2, l⟩).length, yc3)) (l := (putN r ⟨z1, z2, l⟩)) ok.m1) (RdL.ofCapB (v := (ya5, (putN r ⟨z1, z2, l⟩).length, yc5)) (l := (putN r ⟨z1, z2, l⟩)) ok.m0)) <| .w 65 .pkt <| .w 66 .mvB <| .sd (fun G66 => ?_) (fun G66 => ?_)
        ·
          refine .w 67 .mvI <| .w 68 .mvI <| .w 69 .eql <| .w 70 .pkt <| .w 71 .mvB <| .sd (fun G71 => ?_) (fun G71 => ?_)
          ·
            refine .w 72 .mvI <| .w 73 .mvI <| .w 74 .eql <| .w 75 .pkt <| .w 8 .asB <| .nil ?_
            refine .ret ⟨.bool true, Res.one rfl rfl, ⟨rfl, ok.chg⟩⟩
          exact absurd rfl G71
        exact absurd rfl G66
      exact absurd rfl G56
    (rw [hk] at hkB; cases hkB)
  obtain ⟨ya1, yc1, rfl⟩ := own.formB
  have ok := ok.own own
  refine .w 24 .mvU <| .w 28 .ex <| .w 29 .ex <| .w 9 .asS <| .w 10 .asI <| .nil ?_
  refine .seq <| .r <| .w 31 .mvI <| .w 32 .mvI <| .c' 33 .func (rstartZ_any (z := z) (salt := salt) (by omega) (by omega)) ?_
  rintro _ η11 (⟨hkB, rfl, hx⟩ | ⟨hkB, w, rfl, own⟩)
  · --
    (rw [hk] at hkB; cases hkB)
  obtain ⟨ya6, yc6, rfl⟩ := own.formB
  have ok := ok.own own
  refine .w 30 .mvU <| .w 34 .ex <| .w 35 .ex <| .w 11 .asS <| .w 12 .asI <| .nil ?_
  refine .seq <| .r <| .w 37 .mvI <| .w 38 (.ldb T.ag38 ok.m3 T.sz38) <| .c' 39 .func (putZ_any (z1 := z1) (z2 := z2) (r := r) (by omega) (by omega) (a := a) (c := c) (l := l) ok.r0) ?_
  rintro _ η12 (⟨hkC, rfl, hx⟩ | ⟨hkC, w, rfl, own⟩)
  · --
    have ok := ok.ext hx
    refine .w 36 .mvU <| .w 40 .ex <| .w 41 .ex <| .w 42 .ex <| .w 13 .asS <| .w 14 .asI <| .w 15 .asI <| .nil ?_
    refine .seq <| .r <| .w 44 .mvI <| .w 45 (.ldb T.ag38 ok.m3 T.sz38) <| .c' 46 .func (rputZ_any (z1 := z1) (z2 := z2) (r := r) (by omega) (by omega) (a := a) (c := c) (l := l) ok.r0) ?_
    rintro _ η13 (⟨hkD, rfl, hx⟩ | ⟨hkD, w, rfl, own⟩)
    · --
      have ok := ok.ext hx
      refine .w 43 .mvU <| .w 47 .ex <| .w 48 .ex <| .w 49 .ex <| .w 16 .asS <| .w 17 .asI <| .w 18 .asI <| .nil ?_
      refine .seq <| .r <| .c' 50 .func live_any ?_
      rintro _ η14 ⟨rfl, hx⟩
      have ok := ok.ext hx
      refine .w 51 .mvB <| .w 52 .mvS <| .w 53 .mvS <| .k 54 .func (same_any (a := ya1) (c := yc1) (l := (headN (z).toNat salt)) (b := ya6) (d := yc6) (l2 := (headN (z).toNat salt)) (RdL.ofCapB (v := (ya1, (headN (z).toNat salt).length, yc1)) (l := (headN (z).toNat salt)) ok.m1) (RdL.ofCapB (v := (ya6, (headN (z).toNat salt).length, yc6)) (l := (headN (z).toNat salt)) ok.m0)) <| .w 55 .pkt <| .w 56 .mvB <| .sd (fun G56 => ?_) (fun G56 => ?_)
      ·
        refine .w 57 .mvI <| .w 58 .mvI <| .w 59 .eql <| .w 60 .pkt <| .w 61 .mvB <| .w 62 .mvS <| .w 63 .mvS <| .k 64 .func (same_any (a := none) (c := 0) (l := []) (b := none) (d := 0) (l2 := []) (RdL.nil _ none_ none_) (RdL.nil _ none_ none_)) <| .w 65 .pkt <| .w 66 .mvB <| .sd (fun G66 => ?_) (fun G66 => ?_)
        ·
          refine .w 67 .mvI <| .w 68 .mvI <| .w 69 .eql <| .w 70 .pkt <| .w 71 .mvB <| .w 72 .mvI <| .w 73 .mvI <| .w 74 .eql <| .w 75 .pkt <| .w 8 .asB <| .nil ?_
          refine .ret ⟨.bool true, Res.one rfl rfl, ⟨rfl, ok.chg⟩⟩
        exact absurd rfl G66
      exact absurd rfl G56
    (rw [hkC] at hkD; cases hkD)
  obtain ⟨ya7, yc7, rfl⟩ := own.formB
  have ok := ok.own own
  refine .w 36 .mvU <| .w 40 .ex <| .w 41 .ex <| .w 42 .ex <| .w 13 .asS <| .w 14 .asI <| .w 15 .asI <| .nil ?_
  refine .seq <| .r <| .w 44 .mvI <| .w 45 (.ldb T.ag38 ok.m4 T.sz38) <| .c' 46 .func (rputZ_any (z1 := z1) (z2 := z2) (r := r) (by omega) (by omega) (a := a) (c := c) (l := l) ok.r0) ?_
  rintro _ η15 (⟨hkD, rfl, hx⟩ | ⟨hkD, w, rfl, own⟩)
  · --
    (rw [hkC] at hkD; cases hkD)
  obtain ⟨ya9, yc9, rfl⟩ := own.formB
  have ok := ok.own own
  refine .w 43 .mvU <| .w 47 .ex <| .w 48 .ex <| .w 49 .ex <| .w 16 .asS <| .w 17 .asI <| .w 18 .asI <| .nil ?_
  refine .seq <| .r <| .c' 50 .func live_any ?_
  rintro _ η16 ⟨rfl, hx⟩
  have ok := ok.ext hx
  refine .w 51 .mvB <| .w 52 .mvS <| .w 53 .mvS <| .k 54 .func (same_any (a := ya1) (c := yc1) (l := (headN (z).toNat salt)) (b := ya6) (d := yc6) (l2 := (headN (z).toNat salt)) (RdL.ofCapB (v := (ya1, (headN (z).toNat salt).length, yc1)) (l := (headN (z).toNat salt)) ok.m3) (RdL.ofCapB (v := (ya6, (headN (z).toNat salt).length, yc6)) (l := (headN (z).toNat salt)) ok.m2)) <| .w 55 .pkt <| .w 56 .mvB <| .sd (fun G56 => ?_) (fun G56 => ?_)
  ·
    refine .w 57 .mvI <| .w 58 .mvI <| .w 59 .eql <| .w 60 .pkt <| .w 61 .mvB <| .w 62 .mvS <| .w 63 .mvS <| .k 64 .func (same_any (a := ya7) (c := yc7) (l := (putN r ⟨z1, z2, l⟩)) (b := ya9) (d := yc9) (l2 := (putN r ⟨z1, z2, l⟩)) (RdL.ofCapB (v := (ya7, (putN r ⟨z1, z2, l⟩).length, yc7)) (l := (putN r ⟨z1, z2, l⟩)) ok.m1) (RdL.ofCapB (v := (ya9, (putN r ⟨z1, z2, l⟩).length, yc9)) (l := (putN r ⟨z1, z2, l⟩)) ok.m0)) <| .w 65 .pkt <| .w 66 .mvB <| .sd (fun G66 => ?_) (fun G66 => ?_)
    ·
      refine .w 67 .mvI <| .w 68 .mvI <| .w 69 .eql <| .w 70 .pkt <| .w 71 .mvB <| .sd (fun G71 => ?_) (fun G71 => ?_)
      ·
        refine .w 72 .mvI <| .w 73 .mvI <| .w 74 .eql <| .w 75 .pkt <| .w 8 .asB <| .nil ?_
        refine .ret ⟨.bool true, Res.one rfl rfl, ⟨rfl, ok.chg⟩⟩
      exact absurd rfl G71
    exact absurd rfl G66
  exact absurd rfl G56

theorem puts_row {h : Heap} {z zs zr : Int} {f : Fr} {x : SV} (hz : -9223372036854775808 ≤ z ∧ z ≤ 9223372036854775807) (hs : 0 ≤ zs ∧ zs ≤ 18446744073709551615) (hr : 0 ≤ zr ∧ zr ≤ 18446744073709551615) (hb : Bytes h (sv x) f.b) :
    HC Try.prog 5 #[.int .i64 z, .int .u64 zs, .int .u64 zr, .agg #[.int .i64 f.page, .int .i64 f.commit, sv x]] h (fun v h' => v = .bool true ∧ Ext h h') := by
  obtain ⟨a, n, c⟩ := x
  have q := RdL.ofBytes (x := (a, n, c)) (E := none_) hb
  obtain rfl : n = f.b.length := q.n
  obtain ⟨salt, rfl⟩ : ∃ m : Nat, zs = m := ⟨zs.toNat, by omega⟩
  obtain ⟨r, rfl⟩ : ∃ m : Nat, zr = m := ⟨zr.toNat, by omega⟩
  exact puts_walk hz (by omega) (by omega) q
end Go.Proofs.Ytpebbkhainpfaaa
