/- The law WafBack: a log is read as it was written, cut off or not. Conditions: the frames are readable. -/
import Derived.Test.YtpebbkhainpfaaaWfWr
namespace Go.Proofs.Ytpebbkhainpfaaa
open Go Go.HL
theorem _root_.Go.HL.Hp.d6 {h0 h : Heap} {D : Nat → Prop} {M R : List Itm} {q0 q1 q2 q3 q4 q5 q6 : Itm} (ok : Hp h0 D M (q0 :: q1 :: q2 :: q3 :: q4 :: q5 :: q6 :: R) h) (it : Itm) (hp : it.p h) (hF : ∀ j, it.F j → q6.F j := by exact fun _ x => x) : Hp h0 D M (it :: q0 :: q1 :: q2 :: q3 :: q4 :: q5 :: q6 :: R) h := ok.der (r := q6) (by simp) it hp hF
theorem _root_.Go.HL.Hp.d7 {h0 h : Heap} {D : Nat → Prop} {M R : List Itm} {q0 q1 q2 q3 q4 q5 q6 q7 : Itm} (ok : Hp h0 D M (q0 :: q1 :: q2 :: q3 :: q4 :: q5 :: q6 :: q7 :: R) h) (it : Itm) (hp : it.p h) (hF : ∀ j, it.F j → q7.F j := by exact fun _ x => x) : Hp h0 D M (it :: q0 :: q1 :: q2 :: q3 :: q4 :: q5 :: q6 :: q7 :: R) h := ok.der (r := q7) (by simp) it hp hF
theorem _root_.Go.HL.Hp.d8 {h0 h : Heap} {D : Nat → Prop} {M R : List Itm} {q0 q1 q2 q3 q4 q5 q6 q7 q8 : Itm} (ok : Hp h0 D M (q0 :: q1 :: q2 :: q3 :: q4 :: q5 :: q6 :: q7 :: q8 :: R) h) (it : Itm) (hp : it.p h) (hF : ∀ j, it.F j → q8.F j := by exact fun _ x => x) : Hp h0 D M (it :: q0 :: q1 :: q2 :: q3 :: q4 :: q5 :: q6 :: q7 :: q8 :: R) h := ok.der (r := q8) (by simp) it hp hF
theorem _root_.Go.HL.Hp.d9 {h0 h : Heap} {D : Nat → Prop} {M R : List Itm} {q0 q1 q2 q3 q4 q5 q6 q7 q8 q9 : Itm} (ok : Hp h0 D M (q0 :: q1 :: q2 :: q3 :: q4 :: q5 :: q6 :: q7 :: q8 :: q9 :: R) h) (it : Itm) (hp : it.p h) (hF : ∀ j, it.F j → q9.F j := by exact fun _ x => x) : Hp h0 D M (it :: q0 :: q1 :: q2 :: q3 :: q4 :: q5 :: q6 :: q7 :: q8 :: q9 :: R) h := ok.der (r := q9) (by simp) it hp hF
theorem _root_.Go.HL.Hp.f6 {h0 h : Heap} {D : Nat → Prop} {M R : List Itm} {q0 q1 q2 q3 q4 q5 q6 : Itm} (ok : Hp h0 D M (q0 :: q1 :: q2 :: q3 :: q4 :: q5 :: q6 :: R) h) : Hp h0 D M (q6 :: q0 :: q1 :: q2 :: q3 :: q4 :: q5 :: R) h := ok.sub (by simp; grind)
theorem _root_.Go.HL.Hp.f7 {h0 h : Heap} {D : Nat → Prop} {M R : List Itm} {q0 q1 q2 q3 q4 q5 q6 q7 : Itm} (ok : Hp h0 D M (q0 :: q1 :: q2 :: q3 :: q4 :: q5 :: q6 :: q7 :: R) h) : Hp h0 D M (q7 :: q0 :: q1 :: q2 :: q3 :: q4 :: q5 :: q6 :: R) h := ok.sub (by simp; grind)
theorem _root_.Go.HL.Hp.f8 {h0 h : Heap} {D : Nat → Prop} {M R : List Itm} {q0 q1 q2 q3 q4 q5 q6 q7 q8 : Itm} (ok : Hp h0 D M (q0 :: q1 :: q2 :: q3 :: q4 :: q5 :: q6 :: q7 :: q8 :: R) h) : Hp h0 D M (q8 :: q0 :: q1 :: q2 :: q3 :: q4 :: q5 :: q6 :: q7 :: R) h := ok.sub (by simp; grind)
theorem okZ_of {z : Int} {K : Nat} (hK : (K : Int) = min (max z 0) 8192) (h : okF ⟨1, 0, List.replicate K 0⟩ = true) : ∃ n : Nat, z = (n : Int) ∧ okZ (n : Int) = true := by
  have h1 := (okF_iff.1 h).2
  rw [List.length_replicate] at h1
  have h2 : okZ (K : Int) = true := by rw [okZ_nat]; exact h1
  have h3 := of_decide_eq_true h2
  exact ⟨z.toNat, by omega, by unfold okZ; exact decide_eq_true (by omega)⟩
theorem take_min {α : Type} (l : List α) {k w : Nat} (h : k ≤ w) : (l.take w).take k = l.take k := by rw [List.take_take, Nat.min_eq_left h]

set_option maxRecDepth 100000 in
set_option maxHeartbeats 2000000 in
theorem back_walk {h : Heap} {F E : Nat → Prop} {z cut : Int} {salt : Nat} {a : Option Addr} {c : Nat} {l : List Fr} (hz : -9223372036854775808 ≤ z ∧ z ≤ 9223372036854775807) (hs : salt < 18446744073709551616) (hcu : -9223372036854775808 ≤ cut ∧ cut ≤ 9223372036854775807) (hl : RdL h F E (a, l.length, c) l) :
    HC Try.prog 6 #[.agg #[.int .i64 z, .int .u64 (salt : Int), .slice a l.length c], .int .i64 cut] h (fun v h' => v = .bool true ∧ Ext h h') := by
  have hc2 := hl.m
  have hc1 : l.length ≤ c := hl.c
  simp only at hc2
  have ok := (Hp.nil h none_).arg hl
  refine HC.go Try.func6 130 ?_
  refine .seq <| .r <| .a' 2 (.bxA (cs := [.int .i64 z, .int .u64 (salt : Int), .slice a l.length c]) ok) ?_
  rintro _ η1 ⟨pb1, rfl, ok, xe⟩
  refine .w 4 .asB <| .nil ?_
  refine .seq <| .seq <| .r <| .w 20 (.fa T.fd50_2) <| .w 21 (.ldx T.ag24 ok.m0) <| .k 22 .func (few_any (a := a) (c := c) (l := l) ok.r0) <| .w 23 .not <| .w 24 .mvB <| .spl (fun G24 => ?_) (fun G24 => ?_)
  ·
    refine .x 25 <| .x 26 <| .x 27 <| .x 28 <| .x 29 <| .x 30 <| .x 31 <| .x 32 <| .w 33 .pkt <| .nil ?_
    refine .ct <| .seq <| .r <| .c' 34 .func live_any ?_
    rintro _ η2 ⟨rfl, hx⟩
    have ok := ok.ext hx
    refine .w 4 .asB <| .nil ?_
    refine .ret ⟨.bool true, Res.one rfl rfl, ⟨rfl, ok.chg⟩⟩
  refine .w 25 (.fa T.fd50_0) <| .w 26 (.ldx T.ag3 ok.m0) <| .w 27 .max2 <| .w 28 .min2 <| .a' 29 (.mks ((List.replicate (min (max z 0) 8192).toNat (0 : UInt8)).length) ((List.replicate (min (max z 0) 8192).toNat (0 : UInt8)).length) T.el22 T.sz5 T.by5 T.zr5 ok (hnm := by (simp only [List.length_replicate]; omega))) ?_
  rintro _ η3 ⟨pb2, rfl, ok, xe⟩
  have ok := ok.cx (ys := (List.replicate ((List.replicate (min (max z 0) 8192).toNat (0 : UInt8)).length) (0 : UInt8)).map bv) (zeros8 _)
  have ok := ok.cx (ys := (List.replicate (min (max z 0) 8192).toNat (0 : UInt8)).map bv) (by simp)
  refine .w 30 (.bd #[.int .i64 1, .int .i64 0, .slice (some ⟨pb2, 0, none⟩) ((List.replicate (min (max z 0) 8192).toNat (0 : UInt8)).length) ((List.replicate (min (max z 0) 8192).toNat (0 : UInt8)).length)] T.zr38 T.pl38 rfl) <| .c' 31 .func (may_any (z1 := 1) (z2 := 0) (a := some ⟨pb2, 0, none⟩) (c := (List.replicate (min (max z 0) 8192).toNat (0 : UInt8)).length) (l := (List.replicate (min (max z 0) 8192).toNat (0 : UInt8))) (RdL.ofCapB (v := (some ⟨pb2, 0, none⟩, (List.replicate (min (max z 0) 8192).toNat (0 : UInt8)).length, (List.replicate (min (max z 0) 8192).toNat (0 : UInt8)).length)) (l := (List.replicate (min (max z 0) 8192).toNat (0 : UInt8))) ok.m0)) ?_
  rintro _ η4 ⟨rfl, hx⟩
  have ok := ok.ext hx
  refine .w 32 .not <| .w 33 .pkf <| .nil ?_
  refine .cond (fun C0 => ?_) (fun C0 => ?_)
  · --
    refine .seq <| .r <| .c' 34 .func live_any ?_
    rintro _ η5 ⟨rfl, hx⟩
    have ok := ok.ext hx
    refine .w 4 .asB <| .nil ?_
    refine .ret ⟨.bool true, Res.one rfl rfl, ⟨rfl, ok.chg⟩⟩
  have hfw : fewN l = true := by simpa using G24
  have hmy : okF ⟨1, 0, (List.replicate (min (max z 0) 8192).toNat (0 : UInt8))⟩ = true := by simpa using C0
  obtain ⟨n, rfl, hk⟩ := okZ_of (z := z) (K := (min (max z 0) 8192).toNat) (by omega) hmy
  have hkn := of_decide_eq_true hk
  have hn : n < 4294967296 := by omega
  obtain ⟨hw1, hw2⟩ := fewN_iff.1 hfw
  have hil := inN_len l n
  have hok : okL n (inN l n) := selN_ok l n l.length
  have hsw := scan_whole hn hs hok
  have hbl : (headN n salt ++ putsN (nextN salt (headN n salt)) (inN l n)).length = 20 + (inN l n).length * (16 + n) := by rw [List.length_append, headN_len, putsN_len hok]
  have hmul := Nat.mul_le_mul (show (inN l n).length ≤ 40 by omega) (show 16 + n ≤ 4112 by omega)
  have hks : okSz n = true := by rw [← okZ_nat]; exact hk
  have hro := headOk_headN hn hs hks (putsN (nextN salt (headN n salt)) (inN l n))
  have hr4 := rd4_headN (salt := salt) hn (putsN (nextN salt (headN n salt)) (inN l n))
  have hsl := sureN_le (inN l n)
  have hm1 := Nat.mul_le_mul (show sureN (inN l n) ≤ 40 by omega) (show 16 + n ≤ 4112 by omega)
  refine .skip <| .seq <| .r <| .w 36 (.ldb T.ag50 ok.m1 T.sz50) <| .c' 37 .func (written_any hk (by omega) ok.r0 hfw) ?_
  rintro _ η6 ⟨ab, cb, ai, ci, rfl, hq, hnw⟩
  have hqr := hq.r0
  have hin1 := hqr.c
  have hin2 := hqr.m
  simp only at hin1 hin2
  have ok := (ok).join1 hq (fun j hj => hj.elim (fun h1 => .inl (hnw j h1)) (fun h1 => .inr (.inr h1.1)))
  have ok := ok.frzB rfl
  have hbc := ok.r0.c
  have hbm := ok.r0.m
  simp only at hbc hbm
  refine .w 35 .mvU <| .w 38 .ex <| .w 39 .ex <| .w 40 .ex <| .w 5 .asS <| .w 6 .asS <| .w 7 .asB <| .nil ?_
  refine .seq <| .seq <| .r <| .w 41 .mvB <| .w 42 .not <| .nil ?_
  refine .cf <| .skip <| .seq <| .r <| .w 44 .mvS <| .c' 45 .func (scan_any (a := ab) (c := cb) (l := (headN n salt ++ putsN (nextN salt (headN n salt)) (inN l n))) ok.r0 (by omega)) ?_
  rintro _ η7 (⟨hlt, rfl, hx⟩ | ⟨hge, hhd, rfl, hx⟩ | ⟨hge, hhd, sc1, sx1, hscsc1, rfl, hx, hr⟩)
  · --
    first | omega | (rw [hro] at hhd; cases hhd)
  · --
    first | omega | (rw [hro] at hhd; cases hhd)
  obtain ⟨asx1, nsx1, csx1⟩ := sx1
  have hnsx1 := hr.n
  have hccsx1 := hr.c
  have hmsx1 := hr.m
  simp only at hnsx1 hccsx1 hmsx1
  subst hnsx1
  have ok := ok.ret hx hr
  obtain rfl := hscsc1.uniq hsw
  rw [show rdN (headN n salt ++ putsN (nextN salt (headN n salt)) (inN l n)) 4 4 = n from hr4]
  refine .w 43 .mvU <| .w 46 .ex <| .w 47 .ex <| .w 48 .ex <| .w 49 .ex <| .w 50 .ex <| .w 8 .asI <| .w 9 .asS <| .w 10 .asI <| .w 11 .asI <| .w 12 .asI <| .nil ?_
  refine .seq <| .r <| .w 51 .mvS <| .k 52 .func (sure_any (a := ai) (c := ci) (l := (inN l n)) ok.r2) <| .w 13 .asI <| .nil ?_
  refine .seq <| .seq <| .r <| .w 53 .mvI <| .w 54 .neq <| .w 55 .mvB <| .w 56 .mvI <| .w 57 (.fa T.fd50_0) <| .w 58 (.ldx T.ag3 ok.m1) <| .w 59 .neq <| .w 60 .pkf <| .w 61 .mvB <| .sd (fun G61 => ?_) (fun G61 => ?_)
  ·
    exact absurd rfl G61
  refine .w 62 .mvS <| .w 63 .mvS <| .w 64 .mvI <| .w 65 (.sl_h (((inN l n).take (sureN (inN l n))).length) T.el24 T.sz38 (hb := by (rw [List.length_take, Nat.min_eq_left hsl]; omega))) <| ?_
  have ok := ok.d2 (rdI (blkC (sv (ai, (inN l n).length, ci))) (fun j => (fun j => E j ∧ j < h.size) j ∧ j < η4.size) (ai, ((inN l n).take (sureN (inN l n))).length, ci) ((inN l n).take (sureN (inN l n)))) ((ok.r2).pre (l2 := ((inN l n).take (sureN (inN l n)))) (List.take_prefix _ _)) (fun _ h => h)
  refine .k 66 .func (fsame_any (a := asx1) (c := csx1) (l := ((inN l n).take (sureN (inN l n)))) (b := ai) (d := ci) (l2 := ((inN l n).take (sureN (inN l n)))) ok.r1 ok.r0) <| .w 67 .notd <| .w 68 .pkf <| .w 69 .mvB <| .sd (fun G69 => ?_) (fun G69 => ?_)
  ·
    exact absurd rfl G69
  refine .w 70 .mvI <| .w 71 .mvI <| .w 72 (.fa T.fd50_0) <| .w 73 (.ldx T.ag3 ok.m1) <| .w 74 (.addI (a := 16)) <| .w 75 .mulI <| .w 76 (.addI (a := 20)) <| .w 77 .neq <| .w 78 .pkf <| .nil ?_
  refine .cd (fun C2 => ?_) (fun C2 => ?_)
  · --
    exact absurd rfl C2
  refine .skip <| .seq <| .seq <| .r <| .w 79 .mvI <| .w 80 .lss <| .w 81 .mvB <| .sd (fun G81 => ?_) (fun G81 => ?_)
  ·
    refine .x 82 <| .x 83 <| .x 84 <| .x 85 <| .w 86 .pkt <| .nil ?_
    refine .ct <| .seq <| .r <| .c' 87 .func live_any ?_
    rintro _ η8 ⟨rfl, hx⟩
    have ok := ok.ext hx
    refine .w 4 .asB <| .nil ?_
    refine .ret ⟨.bool true, Res.one rfl rfl, ⟨rfl, ok.chg⟩⟩
  refine .w 82 .mvI <| .w 83 .mvS <| .w 84 (.len T.el22) <| .w 85 .gtr <| .w 86 .pkf <| .nil ?_
  refine .cd (fun C3 => ?_) (fun C3 => ?_)
  · --
    refine .seq <| .r <| .c' 87 .func live_any ?_
    rintro _ η9 ⟨rfl, hx⟩
    have ok := ok.ext hx
    refine .w 4 .asB <| .nil ?_
    refine .ret ⟨.bool true, Res.one rfl rfl, ⟨rfl, ok.chg⟩⟩
  obtain ⟨ct, rfl⟩ : ∃ m : Nat, cut = (m : Int) := ⟨cut.toNat, by omega⟩
  obtain ⟨zz, hz1, hz2, hw⟩ := cut_log (n := n) (salt := salt) hok (cut := ct) (by omega) (by omega)
  have hokW : okL n ((inN l n).take ((ct - 20) / (16 + n))) := fun f hf => hok f (List.mem_of_mem_take hf)
  have hsc2 := scan_short_log hn hs hokW zz hz2
  have hro2 := headOk_headN hn hs hks (putsN (nextN salt (headN n salt)) ((inN l n).take ((ct - 20) / (16 + n))) ++ zz)
  rw [← hz1] at hsc2 hro2
  obtain ⟨W, hW⟩ : ∃ W, W = (ct - 20) / (16 + n) := ⟨_, rfl⟩
  rw [← hW] at hw hsc2
  have hct : ((headN n salt ++ putsN (nextN salt (headN n salt)) (inN l n)).take ct).length = ct := by rw [List.length_take, Nat.min_eq_left (by omega)]
  have hsW := sureN_le ((inN l n).take W)
  have hlW : ((inN l n).take W).length = W := by rw [List.length_take, Nat.min_eq_left hw]
  have hm2 := Nat.mul_le_mul (show sureN ((inN l n).take W) ≤ 40 by omega) (show 16 + n ≤ 4112 by omega)
  refine .skip <| .seq <| .r <| .w 88 .mvI <| .w 89 .sub <| ?_
  rw [show ((ct : Int) - 20) = ((ct - 20 : Nat) : Int) from by omega]
  refine .w 90 (.fa T.fd50_0) <| .w 91 (.ldx T.ag3 ok.m1) <| .w 92 (.addI (a := 16)) <| .w 93 .quo <| ?_
  rw [show (((ct - 20 : Nat) : Int) / ((16 + n : Nat) : Int)) = (W : Int) from by rw [hW]; exact (Int.natCast_ediv _ _).symm]
  refine .w 14 .asI <| .nil ?_
  refine .seq <| .r <| .w 95 .mvS <| .w 96 .mvI <| .w 97 (.sl_h (((headN n salt ++ putsN (nextN salt (headN n salt)) (inN l n)).take ct).length) T.el22 T.sz5 (hb := by (rw [hct]; omega))) <| ?_
  have ok := ok.d2 (rdI (blkC (sv (ab, (headN n salt ++ putsN (nextN salt (headN n salt)) (inN l n)).length, cb))) none_ (ab, ((headN n salt ++ putsN (nextN salt (headN n salt)) (inN l n)).take ct).length, cb) ((headN n salt ++ putsN (nextN salt (headN n salt)) (inN l n)).take ct)) ((ok.r2).pre (l2 := ((headN n salt ++ putsN (nextN salt (headN n salt)) (inN l n)).take ct)) (List.take_prefix _ _)) (fun _ h => h)
  refine .c' 98 .func (scan_any (a := ab) (c := cb) (l := ((headN n salt ++ putsN (nextN salt (headN n salt)) (inN l n)).take ct)) ok.r0 (by omega)) ?_
  rintro _ η10 (⟨hltB, rfl, hx⟩ | ⟨hgeB, hhdB, rfl, hx⟩ | ⟨hgeB, hhdB, sc2, sx2, hscsc2, rfl, hx, hr⟩)
  · --
    first | omega | (rw [hro2] at hhdB; cases hhdB)
  · --
    first | omega | (rw [hro2] at hhdB; cases hhdB)
  obtain ⟨asx2, nsx2, csx2⟩ := sx2
  have hnsx2 := hr.n
  have hccsx2 := hr.c
  have hmsx2 := hr.m
  simp only at hnsx2 hccsx2 hmsx2
  subst hnsx2
  have ok := ok.ret hx hr
  obtain rfl := hscsc2.uniq hsc2
  refine .w 94 .mvU <| .w 99 .ex <| .w 100 .ex <| .w 101 .ex <| .w 102 .ex <| .w 103 .ex <| .w 15 .asI <| .w 16 .asS <| .w 17 .asI <| .w 18 .asI <| .w 19 .asI <| .nil ?_
  refine .seq <| .r <| .w 104 .mvS <| .w 105 .mvI <| .w 106 (.sl_h (((inN l n).take W).length) T.el24 T.sz38 (hb := by (rw [hlW]; omega))) <| ?_
  have ok := ok.d5 (rdI (blkC (sv (ai, (inN l n).length, ci))) (fun j => (fun j => E j ∧ j < h.size) j ∧ j < η4.size) (ai, ((inN l n).take W).length, ci) ((inN l n).take W)) ((ok.r5).pre (l2 := ((inN l n).take W)) (List.take_prefix _ _)) (fun _ h => h)
  refine .k 107 .func (sure_any (a := ai) (c := ci) (l := ((inN l n).take W)) ok.r0) <| .w 13 .asI <| .nil ?_
  refine .seq <| .r <| .c' 108 .func live_any ?_
  rintro _ η11 ⟨rfl, hx⟩
  have ok := ok.ext hx
  refine .w 109 .mvB <| .w 110 .mvI <| .w 111 .eql <| .w 112 .pkt <| .w 113 .mvB <| .w 114 .mvS <| .w 115 .mvS <| .w 116 .mvI <| .w 117 (.sl_h (((inN l n).take (sureN ((inN l n).take W))).length) T.el24 T.sz38 (hb := by (rw [List.length_take, Nat.min_eq_left (by omega)]; omega))) <| ?_
  have ok := ok.d6 (rdI (blkC (sv (ai, (inN l n).length, ci))) (fun j => (fun j => E j ∧ j < h.size) j ∧ j < η4.size) (ai, ((inN l n).take (sureN ((inN l n).take W))).length, ci) ((inN l n).take (sureN ((inN l n).take W)))) ((ok.r6).pre (l2 := ((inN l n).take (sureN ((inN l n).take W)))) (List.take_prefix _ _)) (fun _ h => h)
  refine .k 118 .func (fsame_any (a := asx2) (c := csx2) (l := (((inN l n).take W).take (sureN ((inN l n).take W)))) (b := ai) (d := ci) (l2 := ((inN l n).take (sureN ((inN l n).take W)))) ok.r2 ok.r0) <| .w 119 .pkt <| .w 120 .mvB <| .sd (fun G120 => ?_) (fun G120 => ?_)
  ·
    refine .w 121 .mvI <| .w 122 .mvI <| .w 123 (.fa T.fd50_0) <| .w 124 (.ldx T.ag3 ok.m1) <| .w 125 (.addI (a := 16)) <| .w 126 .mulI <| .w 127 (.addI (a := 20)) <| .w 128 .eql <| .w 129 .pkt <| .w 4 .asB <| .nil ?_
    refine .ret ⟨.bool (decide (((20 + sureN ((inN l n).take W) * (16 + n) : Nat) : Int) = ((20 + ((sureN ((inN l n).take W)) * (16 + n)) : Nat) : Int))), Res.one rfl rfl, ⟨congrArg _ (decide_eq_true rfl), ok.chg⟩⟩
  exact absurd (take_min _ (by omega)) G120

theorem back_row {h : Heap} {cut : Int} {g : Lg} {x : SV} (hl : RdL h any_ any_ x g.l) (hz : InI g.size) (hs : 0 ≤ g.salt ∧ g.salt ≤ 18446744073709551615) (hcu : InI cut) :
    HC Try.prog 6 #[.agg #[.int .i64 g.size, .int .u64 g.salt, sv x], .int .i64 cut] h (fun v h' => v = .bool true ∧ Ext h h') := by
  obtain ⟨a, n, c⟩ := x
  obtain ⟨z, s, l⟩ := g
  obtain rfl : n = l.length := hl.n
  obtain ⟨salt, rfl⟩ : ∃ m : Nat, s = m := ⟨s.toNat, by simp only at hs; omega⟩
  exact back_walk hz (by simp only at hs; omega) hcu hl

end Go.Proofs.Ytpebbkhainpfaaa
