/- The law WafGoes: a log goes on from where Scan tells, whatever byte was turned. Conditions: the frames are readable. -/
import Derived.Test.YtpebbkhainpfaaaWfBack
import Derived.Test.YtpebbkhainpfaaaWfGo
namespace Go.Proofs.Ytpebbkhainpfaaa
open Go Go.HL
def BSp (n salt : Nat) (fs : List Fr) (B : List UInt8) : Prop := (∃ i z, i ≤ fs.length ∧ B = headN n salt ++ (putsN (nextN salt (headN n salt)) (fs.take i) ++ z) ∧
  ScanE B ⟨20 + (fs.take i).length * (16 + n), linkL (nextN salt (headN n salt)) (fs.take i), fs.take i, (fs.take i).take (sureN (fs.take i)), linkL (nextN salt (headN n salt)) ((fs.take i).take (sureN (fs.take i))), 20 + sureN (fs.take i) * (16 + n)⟩) ∧ B.length = (headN n salt ++ putsN (nextN salt (headN n salt)) fs).length
section
variable {n salt : Nat} (hn : n < 4294967296) (hs : salt < 18446744073709551616)
include hn hs
theorem bsp0 {fs : List Fr} (h : okL n fs) : BSp n salt fs (headN n salt ++ putsN (nextN salt (headN n salt)) fs) :=
  ⟨⟨fs.length, [], Nat.le_refl _, by rw [List.take_length, List.append_nil], by rw [List.take_length]; exact scan_whole hn hs h⟩, rfl⟩
theorem bsp1 {fs : List Fr} (h : okL n fs) {t : Nat} (h20 : 20 ≤ t) (ht : t < (headN n salt ++ putsN (nextN salt (headN n salt)) fs).length) : BSp n salt fs ((headN n salt ++ putsN (nextN salt (headN n salt)) fs).set t ((headN n salt ++ putsN (nextN salt (headN n salt)) fs)[t] + 1)) := by
  obtain ⟨i, z, hi, h1, h2⟩ := turned_log hn hs h h20 ht (byte_inc _)
  exact ⟨⟨i, z, hi, h1, by rw [h1]; exact h2⟩, List.length_set ..⟩
theorem bsp_open {fs : List Fr} {B : List UInt8} (hk : okSz n = true) (h : okL n fs) (hB : BSp n salt fs B) : ∃ J : List Fr, J.length ≤ fs.length ∧ okL n J ∧ fs.take (sureN J) = J.take (sureN J) ∧ headOk B = true ∧
    ScanE B ⟨20 + J.length * (16 + n), linkL (nextN salt (headN n salt)) J, J, J.take (sureN J), linkL (nextN salt (headN n salt)) (J.take (sureN J)), 20 + sureN J * (16 + n)⟩ ∧
    B.take (20 + sureN J * (16 + n)) = headN n salt ++ putsN (nextN salt (headN n salt)) (J.take (sureN J)) ∧ 20 + J.length * (16 + n) ≤ B.length := by
  obtain ⟨⟨i, z, hi, h1, h2⟩, _⟩ := hB
  obtain ⟨J, hJ⟩ : ∃ J, J = fs.take i := ⟨_, rfl⟩
  rw [← hJ] at h1 h2
  have hoJ : okL n J := fun f hf => h f (by rw [hJ] at hf; exact List.mem_of_mem_take hf)
  have hle := sureN_le J
  have hJl : J.length = i := by rw [hJ, List.length_take, Nat.min_eq_left hi]
  refine ⟨J, by omega, hoJ, by rw [hJ] at hle ⊢; rw [List.take_take, Nat.min_eq_left (by rw [List.length_take] at hle; omega)], by rw [h1]; exact headOk_headN hn hs hk _, h2, ?_, ?_⟩
  · have hoS : okL n (J.take (sureN J)) := fun f hf => hoJ f (List.mem_of_mem_take hf)
    have e : putsN (nextN salt (headN n salt)) J = putsN (nextN salt (headN n salt)) (J.take (sureN J)) ++ putsN (linkL (nextN salt (headN n salt)) (J.take (sureN J))) (J.drop (sureN J)) := by rw [← putsN_app, List.take_append_drop]
    rw [h1, e, ← List.append_assoc, ← List.append_assoc, List.append_assoc (headN n salt ++ _)]
    exact List.take_left' (by rw [List.length_append, headN_len, putsN_len hoS, List.length_take, Nat.min_eq_left hle])
  · rw [h1, List.length_append, List.length_append, headN_len, putsN_len hoJ]; omega
end
theorem _root_.Go.HL.RdL.blkF {α : Type} [Rep α] {h : Heap} {F E : Nat → Prop} {x : SV} {l : List α} (r : RdL h F E x l) : ∀ j, blk (sv x) j → F j := fun j hj => by
  obtain ⟨o, n, c, e, hn⟩ := hj
  obtain ⟨a, n', c'⟩ := x
  injection e with e1 e2 e3
  simp only at e1 e2 e3
  have hl : 0 < l.length := by have := r.n; simp only at this; omega
  obtain ⟨b, o', e4, hb, _⟩ := r.at' hl
  simp only at e4
  rw [e1] at e4
  injection e4 with e4; injection e4 with e4; subst e4
  exact hb
theorem _root_.Go.HL.Hp.idxR {h0 h : Heap} {D F E : Nat → Prop} {M R : List Itm} {x y : SV} {l : List Fr} {xa : Nat → Option Addr} {xc : Nat → Nat} {O : List Nat} (ok : Hp h0 D (capI 3 38 y (O.flatMap (vfN l xa xc)) :: M) (frsI F E x l xa xc :: R) h) (hO : ∀ i ∈ O, i < l.length) :
    Hp h0 D M (rdI (blkC (sv y)) E y (O.map (frN l)) :: frsI F E x l xa xc :: R) h := by
  have hc := ok.m0
  have hf := ok.r0
  have hrd : RdL h (blkC (sv y)) E y (O.map (frN l)) := RdL.of_cap (α := Fr) (E := E) (css := O.map (vfN l xa xc)) (by rw [← List.flatMap_def]; exact hc) ⟨by simp, fun i h1 h2 => by
    simp only [List.length_map] at h1
    simp only [List.getElem_map]
    exact ⟨(xa O[i], _, xc O[i]), rfl, hf.b _ (hO _ (List.getElem_mem h1))⟩⟩
  have ok2 := (ok.frz).or (r := capI 3 38 y (O.flatMap (vfN l xa xc))) (r' := frsI F E x l xa xc) List.mem_cons_self (List.mem_cons_of_mem _ List.mem_cons_self) (rdI (blkC (sv y)) E y (O.map (frN l))) hrd (fun j hj => hj.elim .inl fun h => .inr (.inr h))
  exact ok2.sub fun i hi => by
    rcases List.mem_cons.1 hi with rfl | hi
    · exact List.mem_cons_self
    · exact List.mem_cons_of_mem _ (List.mem_cons_of_mem _ hi)

set_option maxRecDepth 100000 in
set_option maxHeartbeats 2000000 in
theorem goes_walk {h : Heap} {F E F2 E2 : Nat → Prop} {z turn : Int} {salt : Nat} {a b : Option Addr} {c d : Nat} {l l2 : List Fr} (hz : -9223372036854775808 ≤ z ∧ z ≤ 9223372036854775807) (hsa : salt < 18446744073709551616) (htu : -9223372036854775808 ≤ turn ∧ turn ≤ 9223372036854775807) (hl : RdL h F E (a, l.length, c) l) (hm : RdL h F2 E2 (b, l2.length, d) l2) :
    HC Try.prog 7 #[.agg #[.int .i64 z, .int .u64 (salt : Int), .slice a l.length c], .slice b l2.length d, .int .i64 turn] h (fun v h' => v = .bool true ∧ Ext h h') := by
  have hc2 := hl.m
  have hc1 : l.length ≤ c := hl.c
  have hd2 := hm.m
  have hd1 : l2.length ≤ d := hm.c
  simp only at hc2 hd2
  obtain ⟨xb, xd, hf2⟩ := RdL.frs hm.lt
  have hfvm := vfN_len l2 xb xd
  have ok := ((Hp.nil h none_).arg hl).old (frsI (fun j => F2 j ∧ j < h.size) (fun j => E2 j ∧ j < h.size) (b, l2.length, d) l2 xb xd) hf2 (fun _ hj => hj.elim (·.2) (·.2))
  refine HC.go Try.func7 172 ?_
  refine .seq <| .r <| .a' 3 (.bxA (cs := [.int .i64 z, .int .u64 (salt : Int), .slice a l.length c]) ok) ?_
  rintro _ η1 ⟨pb1, rfl, ok, xe⟩
  refine .w 6 .asB <| .nil ?_
  refine .seq <| .seq <| .r <| .w 28 (.fa T.fd50_2) <| .w 29 (.ldx T.ag24 ok.m0) <| .k 30 .func (few_any (a := a) (c := c) (l := l) ok.r1) <| .w 31 .not <| .w 32 .mvB <| .spl (fun G32 => ?_) (fun G32 => ?_)
  ·
    refine .x 33 <| .x 34 <| .x 35 <| .w 36 .pkt <| .w 37 .mvB <| .x 38 <| .x 39 <| .x 40 <| .x 41 <| .x 42 <| .x 43 <| .x 44 <| .x 45 <| .w 46 .pkt <| .nil ?_
    refine .ct <| .seq <| .r <| .c' 47 .func live_any ?_
    rintro _ η2 ⟨rfl, hx⟩
    have ok := ok.ext hx
    refine .w 6 .asB <| .nil ?_
    refine .ret ⟨.bool true, Res.one rfl rfl, ⟨rfl, ok.chg⟩⟩
  refine .w 33 .mvS <| .k 34 .func (few_any (a := b) (c := d) (l := l2) (ok.r0).rd) <| .w 35 .not <| .w 36 .pkf <| .w 37 .mvB <| .spl (fun G37 => ?_) (fun G37 => ?_)
  ·
    refine .x 38 <| .x 39 <| .x 40 <| .x 41 <| .x 42 <| .x 43 <| .x 44 <| .x 45 <| .w 46 .pkt <| .nil ?_
    refine .ct <| .seq <| .r <| .c' 47 .func live_any ?_
    rintro _ η3 ⟨rfl, hx⟩
    have ok := ok.ext hx
    refine .w 6 .asB <| .nil ?_
    refine .ret ⟨.bool true, Res.one rfl rfl, ⟨rfl, ok.chg⟩⟩
  refine .w 38 (.fa T.fd50_0) <| .w 39 (.ldx T.ag3 ok.m0) <| .w 40 .max2 <| .w 41 .min2 <| .a' 42 (.mks ((List.replicate (min (max z 0) 8192).toNat (0 : UInt8)).length) ((List.replicate (min (max z 0) 8192).toNat (0 : UInt8)).length) T.el22 T.sz5 T.by5 T.zr5 ok (hnm := by (simp only [List.length_replicate]; omega))) ?_
  rintro _ η4 ⟨pb2, rfl, ok, xe⟩
  have ok := ok.cx (ys := (List.replicate ((List.replicate (min (max z 0) 8192).toNat (0 : UInt8)).length) (0 : UInt8)).map bv) (zeros8 _)
  have ok := ok.cx (ys := (List.replicate (min (max z 0) 8192).toNat (0 : UInt8)).map bv) (by simp)
  refine .w 43 (.bd #[.int .i64 1, .int .i64 0, .slice (some ⟨pb2, 0, none⟩) ((List.replicate (min (max z 0) 8192).toNat (0 : UInt8)).length) ((List.replicate (min (max z 0) 8192).toNat (0 : UInt8)).length)] T.zr38 T.pl38 rfl) <| .c' 44 .func (may_any (z1 := 1) (z2 := 0) (a := some ⟨pb2, 0, none⟩) (c := (List.replicate (min (max z 0) 8192).toNat (0 : UInt8)).length) (l := (List.replicate (min (max z 0) 8192).toNat (0 : UInt8))) (RdL.ofCapB (v := (some ⟨pb2, 0, none⟩, (List.replicate (min (max z 0) 8192).toNat (0 : UInt8)).length, (List.replicate (min (max z 0) 8192).toNat (0 : UInt8)).length)) (l := (List.replicate (min (max z 0) 8192).toNat (0 : UInt8))) ok.m0)) ?_
  rintro _ η5 ⟨rfl, hx⟩
  have ok := ok.ext hx
  refine .w 45 .not <| .w 46 .pkf <| .nil ?_
  refine .cond (fun C0 => ?_) (fun C0 => ?_)
  · --
    refine .seq <| .r <| .c' 47 .func live_any ?_
    rintro _ η6 ⟨rfl, hx⟩
    have ok := ok.ext hx
    refine .w 6 .asB <| .nil ?_
    refine .ret ⟨.bool true, Res.one rfl rfl, ⟨rfl, ok.chg⟩⟩
  have hfw : fewN l = true := by simpa using G32
  have hfw2 : fewN l2 = true := by simpa using G37
  have hmy : okF ⟨1, 0, (List.replicate (min (max z 0) 8192).toNat (0 : UInt8))⟩ = true := by simpa using C0
  obtain ⟨n, rfl, hk⟩ := okZ_of (z := z) (K := (min (max z 0) 8192).toNat) (by omega) hmy
  have hkn := of_decide_eq_true hk
  have hn : n < 4294967296 := by omega
  obtain ⟨hw1, hw2⟩ := fewN_iff.1 hfw
  obtain ⟨hv1, hv2⟩ := fewN_iff.1 hfw2
  have hil := inN_len l n
  have hok : okL n (inN l n) := selN_ok l n l.length
  have hbl : (headN n salt ++ putsN (nextN salt (headN n salt)) (inN l n)).length = 20 + (inN l n).length * (16 + n) := by rw [List.length_append, headN_len, putsN_len hok]
  have hmul := Nat.mul_le_mul (show (inN l n).length ≤ 40 by omega) (show 16 + n ≤ 4112 by omega)
  have hks : okSz n = true := by rw [← okZ_nat]; exact hk
  have hp0 : nextN salt (headN n salt) < 18446744073709551616 := nextN_lt hsa _
  refine .skip <| .seq <| .r <| .w 49 (.ldb T.ag50 ok.m1 T.sz50) <| .c' 50 .func (written_any hk (by omega) ok.r1 hfw) ?_
  rintro _ η7 ⟨ab, cb, ai, ci, rfl, hq, hnw⟩
  have hqr := hq.r0
  have hin1 := hqr.c
  have hin2 := hqr.m
  simp only at hin1 hin2
  have ok := (ok.f1).join1 hq (fun j hj => hj.elim (fun h1 => .inl (hnw j h1)) (fun h1 => .inr (.inr h1.1)))
  refine .w 48 .mvU <| .w 51 .ex <| .w 52 .ex <| .w 53 .ex <| .w 7 .asS <| .w 8 .asS <| .w 9 .asB <| .nil ?_
  refine .seq <| .seq <| .r <| .w 54 .mvB <| .w 55 .not <| .nil ?_
  refine .cf <| .skip <| .seq <| .seq <| .join (fun s hh => ∃ (t63 : Bool), Has s [(1, .slice b l2.length d), (2, .int .i64 turn), (3, .pointer (some ⟨pb1, 0, none⟩)), (7, .slice ab ((headN n salt ++ putsN (nextN salt (headN n salt)) (inN l n)).length) cb), (8, .slice ai ((inN l n).length) ci), (63, .bool t63)] ∧ Hp h none_ [capI 1 5 (ab, (headN n salt ++ putsN (nextN salt (headN n salt)) (inN l n)).length, cb) ((headN n salt ++ putsN (nextN salt (headN n salt)) (inN l n)).map bv), boxI pb1 50 [.int .i64 (n : Int), .int .u64 (salt : Int), .slice a l.length c]] [rdI (blkC (sv (ai, (inN l n).length, ci))) (fun j => (fun j => E j ∧ j < h.size) j ∧ j < η5.size) (ai, (inN l n).length, ci) (inN l n), rdI (fun j => F j ∧ j < h.size) (fun j => E j ∧ j < h.size) (a, l.length, c) l, frsI (fun j => F2 j ∧ j < h.size) (fun j => E2 j ∧ j < h.size) (b, l2.length, d) l2 xb xd] hh ∧ (t63 = true → 20 ≤ turn ∧ turn < ((headN n salt ++ putsN (nextN salt (headN n salt)) (inN l n)).length : Int))) ?_ ?_
  · --
    refine .r <| .w 56 .mvI <| .w 57 .geq <| .w 58 .mvB <| .sd (fun G58 => ?_) (fun G58 => ?_)
    ·
      refine .w 59 .mvI <| .w 60 .mvS <| .w 61 (.len T.el22) <| .w 62 .lss <| .w 63 .pkt <| .nil ?_
      refine .end <| ⟨(decide (turn < (((headN n salt ++ putsN (nextN salt (headN n salt)) (inN l n)).length : Nat) : Int))), ⟨rfl, rfl, rfl, rfl, rfl, rfl, trivial⟩, (ok.n2.n1).k2, fun h => ⟨by omega, of_decide_eq_true h⟩⟩
    refine .x 59 <| .x 60 <| .x 61 <| .x 62 <| .w 63 .pkf <| .nil ?_
    refine .end <| ⟨false, ⟨rfl, rfl, rfl, rfl, rfl, rfl, trivial⟩, (ok.n2.n1).k2, fun h => (by cases h)⟩
  rintro s η8 ⟨t63, hs, ok, h63⟩
  refine .frame hs fun τ => ?_
  refine .join (fun s hh => ∃ (B2 : List UInt8), Has s [(1, .slice b l2.length d), (3, .pointer (some ⟨pb1, 0, none⟩)), (7, .slice ab B2.length cb), (8, .slice ai ((inN l n).length) ci)] ∧ Hp h none_ [capI 1 5 (ab, B2.length, cb) (B2.map bv), boxI pb1 50 [.int .i64 (n : Int), .int .u64 (salt : Int), .slice a l.length c]] [rdI (blkC (sv (ai, (inN l n).length, ci))) (fun j => (fun j => E j ∧ j < h.size) j ∧ j < η5.size) (ai, (inN l n).length, ci) (inN l n), rdI (fun j => F j ∧ j < h.size) (fun j => E j ∧ j < h.size) (a, l.length, c) l, frsI (fun j => F2 j ∧ j < h.size) (fun j => E2 j ∧ j < h.size) (b, l2.length, d) l2 xb xd] hh ∧ BSp n salt (inN l n) B2) ?_ ?_
  · --
    refine .cond (fun C2 => ?_) (fun C2 => ?_)
    · --
      obtain ⟨ht1, ht2⟩ := h63 C2
      obtain ⟨tn, rfl⟩ : ∃ m : Nat, turn = (m : Int) := ⟨turn.toNat, by omega⟩
      have htl : tn < (headN n salt ++ putsN (nextN salt (headN n salt)) (inN l n)).length := by omega
      refine .r <| .w 64 .mvS <| .w 65 .mvI <| .w 66 .mvS <| .w 67 .mvI <| ?_
      obtain ⟨bb1, oo1, rfl, fb1⟩ := ok.m0.pos (n := (headN n salt ++ putsN (nextN salt (headN n salt)) (inN l n)).length) (by omega)
      refine .w 68 (.ix1 tn T.el22 T.sz5) <| .w 69 (.ld T.ag5 (Cap.u8 ok.m0 (i := tn) (by omega))) <| ?_
      obtain ⟨ob, hob⟩ : ∃ ob, ob = (headN n salt ++ putsN (nextN salt (headN n salt)) (inN l n))[tn] := ⟨_, rfl⟩
      rw [← hob]
      refine .w 70 (.addn (M := 256) rfl rfl (b := 1)) <| .w 71 (.ix1 tn T.el22 T.sz5) <| .ur' (.sxI (q := tn) T.sz5 ok) ?_
      rintro η9 ⟨ok, cg⟩
      refine .nil ?_
      refine .end <| ?_
      have ok := (ok).cx (ys := ((headN n salt ++ putsN (nextN salt (headN n salt)) (inN l n)).set tn (ob + 1)).map bv) (by rw [hob]; exact set_inc htl)
      obtain ⟨B3, hB3⟩ : ∃ B3, B3 = (headN n salt ++ putsN (nextN salt (headN n salt)) (inN l n)).set tn (ob + 1) := ⟨_, rfl⟩
      rw [← hB3] at ok
      have hBl : (headN n salt ++ putsN (nextN salt (headN n salt)) (inN l n)).length = B3.length := by rw [hB3, List.length_set]
      rw [hBl] at ok ⊢
      refine ⟨B3, ⟨rfl, rfl, rfl, rfl, trivial⟩, (ok.n1.n1).k2, by rw [hB3, hob]; exact bsp1 hn hsa hok (by omega) htl⟩
    refine .skip <| .end <| ⟨(headN n salt ++ putsN (nextN salt (headN n salt)) (inN l n)), ⟨rfl, rfl, rfl, rfl, trivial⟩, (ok.n1.n1).k2, bsp0 hn hsa hok⟩
  rintro s η10 ⟨B2, hs, ok, hbsp⟩
  refine .frame hs fun τ => ?_
  have hB2l := hbsp.2
  have ok := (ok).frzB rfl
  have hbc := ok.r0.c
  have hbm := ok.r0.m
  simp only at hbc hbm
  obtain ⟨J, hJl, hokJ, hJI, hroB, hsc0, hAt, hB2g⟩ := bsp_open hn hsa hks hok hbsp
  have hsJ := sureN_le J
  have hms := Nat.mul_le_mul_right (16 + n) hsJ
  have hmJ := Nat.mul_le_mul (show J.length ≤ 40 by omega) (show 16 + n ≤ 4112 by omega)
  obtain ⟨S, hSq⟩ : ∃ S, S = J.take (sureN J) := ⟨_, rfl⟩
  rw [← hSq] at hsc0 hAt hJI
  have hSl : S.length = sureN J := by rw [hSq, List.length_take, Nat.min_eq_left hsJ]
  have hSI : (inN l n).take S.length = S := by rw [hSl]; exact hJI
  have hokS : okL n S := fun f hf => hokJ f (by rw [hSq] at hf; exact List.mem_of_mem_take hf)
  have hp0m := linkL_lt hp0 S
  have hXl : (headN n salt ++ putsN (nextN salt (headN n salt)) S).length = 20 + sureN J * (16 + n) := by rw [List.length_append, headN_len, putsN_len hokS, hSl]
  refine .seq <| .r <| .w 73 .mvS <| .c' 74 .func (scan_any (a := ab) (c := cb) (l := B2) ok.r0 (by omega)) ?_
  rintro _ η11 (⟨hlt, rfl, hx⟩ | ⟨hge, hhd, rfl, hx⟩ | ⟨hge, hhd, sc1, sx1, hscsc1, rfl, hx, hr⟩)
  · --
    first | omega | (rw [hroB] at hhd; cases hhd)
  · --
    first | omega | (rw [hroB] at hhd; cases hhd)
  obtain ⟨asx1, nsx1, csx1⟩ := sx1
  have hnsx1 := hr.n
  have hccsx1 := hr.c
  have hmsx1 := hr.m
  simp only at hnsx1 hccsx1 hmsx1
  subst hnsx1
  rw [show sv (asx1, sc1.l.length, csx1) = .slice asx1 sc1.l.length csx1 from rfl]
  have ok := ok.ret hx hr
  obtain rfl := hscsc1.uniq hsc0
  rw [show (⟨20 + J.length * (16 + n), linkL (nextN salt (headN n salt)) J, J, S, linkL (nextN salt (headN n salt)) S, 20 + sureN J * (16 + n)⟩ : Sc).sure = linkL (linkL (nextN salt (headN n salt)) S) (([] : List Nat).map (frN l2)) from (linkL_nil _ _).symm]
  rw [show (⟨20 + J.length * (16 + n), linkL (nextN salt (headN n salt)) J, J, S, linkL (nextN salt (headN n salt)) S, 20 + sureN J * (16 + n)⟩ : Sc).fin = (20 + sureN J * (16 + n)) from rfl, show (⟨20 + J.length * (16 + n), linkL (nextN salt (headN n salt)) J, J, S, linkL (nextN salt (headN n salt)) S, 20 + sureN J * (16 + n)⟩ : Sc).l = S from rfl]
  refine .w 72 .mvU <| .w 75 .ex <| .w 76 .ex <| .w 77 .ex <| .w 78 .ex <| .w 79 .ex <| .w 10 .asI <| .w 11 .asS <| .w 12 .asI <| .w 13 .asI <| .w 14 .asI <| .nil ?_
  refine .seq <| .seq <| .r <| .w 80 .mvI <| .w 81 .neq <| .w 82 .mvB <| .w 83 .mvI <| .w 84 .lss <| .w 85 .pkf <| .w 86 .mvB <| .sd (fun G86 => ?_) (fun G86 => ?_)
  ·
    omega
  refine .w 87 .mvI <| .w 88 .mvS <| .w 89 (.len T.el22) <| .w 90 .gtr <| .w 91 .pkf <| .w 92 .mvB <| .sd (fun G92 => ?_) (fun G92 => ?_)
  ·
    omega
  refine .w 93 .mvS <| .w 94 (.len T.el24) <| .w 95 .mvS <| .w 96 (.len T.el24) <| .w 97 .gtr <| .w 98 .pkf <| .w 99 .mvB <| .sd (fun G99 => ?_) (fun G99 => ?_)
  ·
    omega
  refine .w 100 .mvS <| .w 101 .mvS <| .w 102 .mvS <| .w 103 (.len T.el24) <| .w 104 (.sl_h (((inN l n).take S.length).length) T.el24 T.sz38 (hb := by (rw [hSI]; omega))) <| ?_
  have ok := ok.d2 (rdI (blkC (sv (ai, (inN l n).length, ci))) (fun j => (fun j => E j ∧ j < h.size) j ∧ j < η5.size) (ai, ((inN l n).take S.length).length, ci) ((inN l n).take S.length)) ((ok.r2).pre (l2 := ((inN l n).take S.length)) (List.take_prefix _ _)) (fun _ h => h)
  refine .k 105 .func (fsame_any (a := asx1) (c := csx1) (l := S) (b := ai) (d := ci) (l2 := ((inN l n).take S.length)) ok.r1 ok.r0) <| .w 106 .notd <| .w 107 .pkf <| .nil ?_
  refine .cd (fun C3 => ?_) (fun C3 => ?_)
  · --
    exact absurd hSI.symm C3
  refine .skip <| .seq <| .r <| .a' 108 (.lit [] (cs := []) T.el22 T.sz5 T.zr5 ok trivial) ?_
  rintro _ η12 ⟨pb3, rfl, ok, xe⟩
  have ok := ok.cx (ys := ([] : List UInt8).map bv) rfl
  refine .w 109 .mvS <| .w 110 .mvI <| .w 111 (.sl_h ((B2.take (20 + sureN J * (16 + n))).length) T.el22 T.sz5 (hb := by (rw [hAt, hXl]; omega))) <| ?_
  have ok := ok.d2 (rdI (blkC (sv (ab, B2.length, cb))) none_ (ab, (B2.take (20 + sureN J * (16 + n))).length, cb) (B2.take (20 + sureN J * (16 + n)))) ((ok.r2).pre (l2 := (B2.take (20 + sureN J * (16 + n)))) (List.take_prefix _ _)) (fun _ h => h)
  refine .a' 112 (.app (news := (B2.take (20 + sureN J * (16 + n))).map bv) T.el22 T.sz5 T.by5 T.zr5 ok (ok.r0).by bv_all (by simp only [List.length_map, List.length_append, List.length_take, List.length_cons, List.length_nil, List.length_replicate, List.length_range, fixedN_len, sealN_len]; omega)) ?_
  rintro _ η13 ⟨ya1, yn1, yc1, rfl, ok, ap⟩
  have ok := ok.cx (ys := ((B2.take (20 + sureN J * (16 + n)))).map bv) (by simp [bv])
  obtain rfl : yn1 = ((B2.take (20 + sureN J * (16 + n)))).length := ok.lenB
  have ok := ok.tR
  rw [show B2.take (20 + sureN J * (16 + n)) = (headN n salt ++ putsN (nextN salt (headN n salt)) S) ++ putsN (linkL (nextN salt (headN n salt)) S) (([] : List Nat).map (frN l2)) from by rw [hAt, List.map_nil, putsN, List.append_nil]] at ok ⊢
  refine .w 15 .asS <| .nil ?_
  refine .seq <| .r <| .w 16 .asS <| ?_
  have ok := ok.nilC (k := 3) (e := 38)
  refine .nil ?_
  refine .seq <| .seq <| .r <| .w 113 .mvS <| .w 114 (.len T.el24) <| .w 115 .mvI <| .nil ?_
  refine .block fun K0 hK0 => .loop (fun m s hh => ∃ (i : Nat) (O : List Nat) (a5m : Option Addr) (c5m : Nat) (a12m : Option Addr) (c12m : Nat), Has s [(3, .pointer (some ⟨pb1, 0, none⟩)), (11, .slice asx1 S.length csx1), (12, .int .u64 ((linkL (linkL (nextN salt (headN n salt)) S) (O.map (frN l2)) : Nat) : Int)), (15, .slice a5m (((headN n salt ++ putsN (nextN salt (headN n salt)) S) ++ putsN (linkL (nextN salt (headN n salt)) S) (O.map (frN l2))).length) c5m), (16, .slice a12m O.length c12m), (113, .slice b l2.length d), (114, .int .i64 (l2.length : Int)), (115, .int .i64 (i : Int))] ∧ Hp h none_ [capI 1 5 (a5m, ((headN n salt ++ putsN (nextN salt (headN n salt)) S) ++ putsN (linkL (nextN salt (headN n salt)) S) (O.map (frN l2))).length, c5m) (((headN n salt ++ putsN (nextN salt (headN n salt)) S) ++ putsN (linkL (nextN salt (headN n salt)) S) (O.map (frN l2))).map bv), capI 3 38 (a12m, O.length, c12m) (O.flatMap (vfN l2 xb xd)), boxI pb1 50 [.int .i64 (n : Int), .int .u64 (salt : Int), .slice a l.length c]] [rdI (blkC (sv (ai, (inN l n).length, ci))) (fun j => (fun j => E j ∧ j < h.size) j ∧ j < η5.size) (ai, ((inN l n).take S.length).length, ci) ((inN l n).take S.length), rdI (Nw η10 η11) (Nw η10 η11) (asx1, S.length, csx1) S, rdI (blkC (sv (ab, B2.length, cb))) none_ (ab, B2.length, cb) B2, rdI (blkC (sv (ai, (inN l n).length, ci))) (fun j => (fun j => E j ∧ j < h.size) j ∧ j < η5.size) (ai, (inN l n).length, ci) (inN l n), rdI (fun j => F j ∧ j < h.size) (fun j => E j ∧ j < h.size) (a, l.length, c) l, frsI (fun j => F2 j ∧ j < h.size) (fun j => E2 j ∧ j < h.size) (b, l2.length, d) l2 xb xd] hh ∧ i ≤ l2.length ∧ O = selN l2 n i ∧ m = l2.length - i) ?_ ?_
  · exact ⟨_, 0, [], ya1, yc1, none, 0, ⟨rfl, rfl, rfl, rfl, rfl, rfl, rfl, rfl, trivial⟩, (ok.n2.n1.n2).k3, Nat.zero_le _, rfl, rfl⟩
  rintro _ _ η14 ⟨i, O, a5m, c5m, a12m, c12m, hs, ok, him, hOm, rfl⟩ J0 hJ0
  refine .frame hs fun τ => ?_
  refine .seq <| .r <| .w 116 .lss <| .nil ?_
  refine .seq <| .cdr (fun C4 => ?_) (fun C4 => ?_)
  · --
    obtain rfl : i = l2.length := by omega
    refine .exit <| hK0 _ _ <| .seq <| ?_
    rw [show (headN n salt ++ putsN (nextN salt (headN n salt)) S) ++ putsN (linkL (nextN salt (headN n salt)) S) (O.map (frN l2)) = headN n salt ++ putsN (nextN salt (headN n salt)) (S ++ O.map (frN l2)) from by rw [putsN_app, List.append_assoc]] at ok ⊢
    have hokM : okL n (O.map (frN l2)) := by rw [hOm]; exact selN_ok l2 n l2.length
    have hokSM : okL n (S ++ O.map (frN l2)) := fun f hf => (List.mem_append.1 hf).elim (hokS f) (hokM f)
    have hsc3 := scan_whole hn hsa hokSM
    have hro3 := headOk_headN hn hsa hks (putsN (nextN salt (headN n salt)) (S ++ O.map (frN l2)))
    have hO40 : O.length ≤ 40 := by rw [hOm]; have := selN_len l2 n l2.length; omega
    have hmM := Nat.mul_le_mul (show S.length + O.length ≤ 80 by omega) (show 16 + n ≤ 4112 by omega)
    have hl3 : (headN n salt ++ putsN (nextN salt (headN n salt)) (S ++ O.map (frN l2))).length = 20 + (S.length + O.length) * (16 + n) := by rw [List.length_append, headN_len, putsN_len hokSM, List.length_append, List.length_map]
    have hfvm : ∀ i, (vfN l2 xb xd i).length = 3 := vfN_len l2 xb xd
    refine .r <| .w 147 .mvS <| .c' 148 .func (scan_any (a := a5m) (c := c5m) (l := (headN n salt ++ putsN (nextN salt (headN n salt)) (S ++ O.map (frN l2)))) (RdL.ofCapB (v := (a5m, (headN n salt ++ putsN (nextN salt (headN n salt)) (S ++ O.map (frN l2))).length, c5m)) (l := (headN n salt ++ putsN (nextN salt (headN n salt)) (S ++ O.map (frN l2)))) ok.m0) (by omega)) ?_
    rintro _ η15 (⟨hltB, rfl, hx⟩ | ⟨hgeB, hhdB, rfl, hx⟩ | ⟨hgeB, hhdB, sc2, sx2, hscsc2, rfl, hx, hr⟩)
    · --
      first | omega | (rw [hro3] at hhdB; cases hhdB)
    · --
      first | omega | (rw [hro3] at hhdB; cases hhdB)
    obtain ⟨asx2, nsx2, csx2⟩ := sx2
    have hnsx2 := hr.n
    have hccsx2 := hr.c
    have hmsx2 := hr.m
    simp only at hnsx2 hccsx2 hmsx2
    subst hnsx2
    rw [show sv (asx2, sc2.l.length, csx2) = .slice asx2 sc2.l.length csx2 from rfl]
    have ok := ok.ret hx hr
    obtain rfl := hscsc2.uniq hsc3
    refine .w 146 .mvU <| .w 149 .ex <| .w 150 .ex <| .w 151 .ex <| .w 152 .ex <| .w 153 .ex <| .w 22 .asI <| .w 23 .asS <| .w 24 .asI <| .w 25 .asI <| .w 26 .asI <| .nil ?_
    refine .seq <| ?_
    have ok := (ok.n1.f6).idxR (fun j hj => by rw [hOm] at hj; exact selN_lt j hj)
    rw [show O.length = (O.map (frN l2)).length from (List.length_map ..).symm] at ok ⊢
    have hoc := ok.r0.c
    have hom := ok.r0.m
    simp only at hoc hom
    have hsM := sureN_le (O.map (frN l2))
    have hMl : (O.map (frN l2)).length = O.length := List.length_map ..
    refine .r <| .w 154 .mvS <| .k 155 .func (sure_any (a := a12m) (c := c12m) (l := O.map (frN l2)) ok.r0) <| .w 27 .asI <| .nil ?_
    refine .seq <| ?_
    obtain ⟨csA, hslA, halA⟩ := RdL.cells ok.r4
    have hfpA := (ok.r4).blkF
    have ok := ok.d4 (rowI 3 (asx1, S.length, csx1) csA.flatten) hslA (fun j hj => .inl (hfpA j hj))
    have ok := ok.d5 (elsI (Nw η10 η11) csA S) halA (fun _ h => .inr h)
    have honA := All2.one halA
    have hlnA : csA.flatten.length = (S).length * 3 := All2.len_flat halA
    have hmk : ((O.map (frN l2)).take (sureN (O.map (frN l2)))).length = sureN (O.map (frN l2)) := by rw [List.length_take, Nat.min_eq_left hsM]
    have ok := ok.d2 (rdI (blkC (sv (a12m, (O.map (frN l2)).length, c12m))) (fun j => E2 j ∧ j < h.size) (a12m, ((O.map (frN l2)).take (sureN (O.map (frN l2)))).length, c12m) ((O.map (frN l2)).take (sureN (O.map (frN l2))))) ((ok.r2).pre (List.take_prefix _ _)) (fun _ h => h)
    obtain ⟨csB, hslB, halB⟩ := RdL.cells ok.r0
    have hfpB := (ok.r0).blkF
    have ok := ok.d0 (rowI 3 (a12m, ((O.map (frN l2)).take (sureN (O.map (frN l2)))).length, c12m) csB.flatten) hslB (fun j hj => .inl (hfpB j hj))
    have ok := ok.d1 (elsI (fun j => E2 j ∧ j < h.size) csB ((O.map (frN l2)).take (sureN (O.map (frN l2))))) halB (fun _ h => .inr h)
    have honB := All2.one halB
    have hlnB : csB.flatten.length = (((O.map (frN l2)).take (sureN (O.map (frN l2))))).length * 3 := All2.len_flat halB
    refine .a 0 (fun fl hh => True) mixed ?_
    have hS := trivial
    refine .o1 0 <| .c' true rfl 156 .func live_any ?_
    rintro _ η16 ⟨rfl, hx⟩
    have ok := ok.ext hx
    refine ⟨trivial, ?_⟩
    refine .g 1 true rfl 157 trivial (fun _ => .mvB) <| .g 2 true rfl 158 trivial (fun _ => .mvI) <| .g 3 true rfl 159 trivial (fun _ => .eql) <| .g 4 true rfl 160 trivial (fun _ => .pkt) <| .g 5 true rfl 161 trivial (fun _ => .mvB) <| .g 6 true rfl 162 trivial (fun _ => .mvS) <| .g 8 true rfl 164 trivial (fun _ => .mvS) <| .g 10 true rfl 166 trivial (fun _ => .mvS) <| .g 11 true rfl 167 trivial (fun _ => .mvI) <| .g 12 true rfl 168 trivial (fun _ => .sl_h (((O.map (frN l2)).take (sureN (O.map (frN l2)))).length) T.el24 T.sz38 (hb := by (rw [hmk]; omega))) <| .o1 7 <| .a' true rfl 163 (.lit [] (cs := []) T.el24 T.sz38 T.zr38 ok trivial) ?_
    rintro _ η17 ⟨pb4, rfl, ok, xe⟩
    refine ⟨trivial, ?_⟩
    refine .o1 9 <| .a' true rfl 165 (.app (news := csA.flatten) T.el24 T.sz38 T.by38 T.zr38 ok (ok).r4 honA (by simp only [List.length_append, List.length_nil, hlnA, hlnB, hmk]; omega)) ?_
    rintro _ η18 ⟨aq1, nq1, cq1, rfl, ok, ap⟩
    have ok := ok.cx (ys := csA.flatten) (by simp)
    refine ⟨trivial, ?_⟩
    refine .o1 13 <| .a' true rfl 169 (.app (news := csB.flatten) T.el24 T.sz38 T.by38 T.zr38 ok (ok).r1 honB (by simp only [List.length_append, List.length_nil, hlnA, hlnB, hmk]; omega)) ?_
    rintro _ η19 ⟨aq2, nq2, cq2, rfl, ok, ap⟩
    have ok := ok.cx (ys := (csA ++ csB).flatten) (by simp)
    have hrd9 := RdL.of_cap (α := Fr) (E := any_) (css := csA ++ csB) (l := S ++ ((O.map (frN l2)).take (sureN (O.map (frN l2))))) ok.m0 (All2.append (All2.mono ok.r3 fun _ _ r => Rep.mono (fun _ _ => trivial) r) (All2.mono ok.r0 fun _ _ r => Rep.mono (fun _ _ => trivial) r))
    obtain rfl : nq2 = (S ++ ((O.map (frN l2)).take (sureN (O.map (frN l2))))).length := hrd9.n
    refine ⟨trivial, ?_⟩
    refine .o1 14 <| .k true rfl 170 .func (fsame_any (a := asx2) (c := csx2) (l := ((S ++ O.map (frN l2)).take (sureN (S ++ O.map (frN l2))))) (b := aq2) (d := cq2) (l2 := S ++ ((O.map (frN l2)).take (sureN (O.map (frN l2))))) ok.r7 hrd9) trivial <| .g 15 true rfl 171 trivial (fun _ => .pkt) <| .g 16 true rfl 6 trivial (fun _ => .asB) <| .e ?_
    refine .ret ⟨.bool (decide (((S ++ O.map (frN l2)).take (sureN (S ++ O.map (frN l2)))) = S ++ ((O.map (frN l2)).take (sureN (O.map (frN l2)))))), Res.one rfl rfl, ⟨congrArg _ (decide_eq_true (by rw [hSq]; exact goes_fin J _)), ok.chg⟩⟩
  have hil2 : i < l2.length := by omega
  have hb8 := hv2 i hil2
  refine .skip <| .seq <| .join (fun s hh => ∃ (O2m : List Nat) (a5bm : Option Addr) (c5bm : Nat) (a12bm : Option Addr) (c12bm : Nat), Has s [(3, .pointer (some ⟨pb1, 0, none⟩)), (11, .slice asx1 S.length csx1), (12, .int .u64 ((linkL (linkL (nextN salt (headN n salt)) S) (O2m.map (frN l2)) : Nat) : Int)), (15, .slice a5bm (((headN n salt ++ putsN (nextN salt (headN n salt)) S) ++ putsN (linkL (nextN salt (headN n salt)) S) (O2m.map (frN l2))).length) c5bm), (16, .slice a12bm O2m.length c12bm), (113, .slice b l2.length d), (114, .int .i64 (l2.length : Int)), (115, .int .i64 (i : Int))] ∧ Hp h none_ [capI 1 5 (a5bm, ((headN n salt ++ putsN (nextN salt (headN n salt)) S) ++ putsN (linkL (nextN salt (headN n salt)) S) (O2m.map (frN l2))).length, c5bm) (((headN n salt ++ putsN (nextN salt (headN n salt)) S) ++ putsN (linkL (nextN salt (headN n salt)) S) (O2m.map (frN l2))).map bv), capI 3 38 (a12bm, O2m.length, c12bm) (O2m.flatMap (vfN l2 xb xd)), boxI pb1 50 [.int .i64 (n : Int), .int .u64 (salt : Int), .slice a l.length c]] [rdI (blkC (sv (ai, (inN l n).length, ci))) (fun j => (fun j => E j ∧ j < h.size) j ∧ j < η5.size) (ai, ((inN l n).take S.length).length, ci) ((inN l n).take S.length), rdI (Nw η10 η11) (Nw η10 η11) (asx1, S.length, csx1) S, rdI (blkC (sv (ab, B2.length, cb))) none_ (ab, B2.length, cb) B2, rdI (blkC (sv (ai, (inN l n).length, ci))) (fun j => (fun j => E j ∧ j < h.size) j ∧ j < η5.size) (ai, (inN l n).length, ci) (inN l n), rdI (fun j => F j ∧ j < h.size) (fun j => E j ∧ j < h.size) (a, l.length, c) l, frsI (fun j => F2 j ∧ j < h.size) (fun j => E2 j ∧ j < h.size) (b, l2.length, d) l2 xb xd] hh ∧ O2m = selN l2 n (i + 1)) ?_ ?_
  · --
    refine .block fun K1 hK1 => .seq <| .r <| ?_
    obtain ⟨bb2, oo2, rfl, fb2⟩ := ok.r5.pos (by omega)
    refine .w 117 (.ix i T.el24 T.sz38) <| ?_
    have ok := ok.d5 (rdI (fun j => E2 j ∧ j < h.size) (fun j => E2 j ∧ j < h.size) ((xb i), (frN l2 i).b.length, (xd i)) ((frN l2 i).b)) ((ok.r5).b i (by omega)) (fun _ h => .inr (h.elim id id))
    refine .w 118 (.ldc (vs := vfN l2 xb xd i) T.ag38 (frs_ats (ok.r6).sl (i := i) (by omega)) T.sz38) <| .a' 18 (.alA T.zr38 ok) ?_
    rintro _ η20 ⟨pb5, rfl, ok, xe⟩
    refine .ur' (.stW (vs := [.int .i64 ((frN l2 i).page), .int .i64 ((frN l2 i).commit), .slice (xb i) ((frN l2 i).b.length) (xd i)]) T.sz38 ok (oneL rfl)) ?_
    rintro η21 ⟨ok, cg⟩
    refine .nil ?_
    refine .seq <| .seq <| .r <| .w 119 (.ldb T.ag38 ok.m0 T.sz38) <| .c' 120 .func (may_any (z1 := (frN l2 i).page) (z2 := (frN l2 i).commit) (a := (xb i)) (c := (xd i)) (l := (frN l2 i).b) ok.r0) ?_
    rintro _ η22 ⟨rfl, hx⟩
    have ok := ok.ext hx
    refine .w 121 .not <| .w 122 .mvB <| .spl (fun G122 => ?_) (fun G122 => ?_)
    ·
      have hselm : ¬ (okF (frN l2 i) && decide ((frN l2 i).b.length = n)) = true := fun h => by rw [Bool.and_eq_true] at h; have h9 := h.1; rw [h9] at G122; cases G122
      refine .x 123 <| .x 124 <| .x 125 <| .x 126 <| .x 127 <| .x 128 <| .w 129 .pkt <| .nil ?_
      refine .ct <| .exit <| hK1 _ _ <| .end <| ⟨(O), a5m, c5m, a12m, c12m, ⟨rfl, rfl, rfl, rfl, rfl, rfl, rfl, rfl, trivial⟩, (ok.n3.n3.n3).k3.tR, by rw [selN_succ, if_neg hselm, hOm]⟩
    refine .w 123 (.fa T.fd38_2) <| .w 124 (.ldx T.ag22 ok.m0) <| .w 125 (.len T.el22) <| .w 126 (.fa T.fd50_0) <| .w 127 (.ldx T.ag3 ok.m3) <| .w 128 .neq <| .w 129 .pkf <| .nil ?_
    refine .cd (fun C5 => ?_) (fun C5 => ?_)
    · --
      have hselm : ¬ (okF (frN l2 i) && decide ((frN l2 i).b.length = n)) = true := fun h => by rw [Bool.and_eq_true, decide_eq_true_eq] at h; omega
      refine .exit <| hK1 _ _ <| .end <| ⟨(O), a5m, c5m, a12m, c12m, ⟨rfl, rfl, rfl, rfl, rfl, rfl, rfl, rfl, trivial⟩, (ok.n3.n3.n3).k3.tR, by rw [selN_succ, if_neg hselm, hOm]⟩
    have hokF : okF (frN l2 i) = true := by simpa using G122
    have hbn : (frN l2 i).b.length = n := by omega
    have hselm : (okF (frN l2 i) && decide ((frN l2 i).b.length = n)) = true := by rw [hokF, hbn]; simp
    have hlkm := linkL_lt hp0m (O.map (frN l2))
    have hO40 : O.length ≤ 40 := by rw [hOm]; have := selN_len l2 n i; omega
    have hBl : ((headN n salt ++ putsN (nextN salt (headN n salt)) S) ++ putsN (linkL (nextN salt (headN n salt)) S) (O.map (frN l2))).length ≤ 800000 := by
      rw [List.length_append, putsN_len (size := n) (by rw [hOm]; exact selN_ok l2 n i), List.length_map]
      have := Nat.mul_le_mul hO40 (show 16 + n ≤ 8208 by omega)
      omega
    have hQl : (putN (linkL (linkL (nextN salt (headN n salt)) S) (O.map (frN l2))) ⟨(frN l2 i).page, (frN l2 i).commit, (frN l2 i).b⟩).length ≤ 9000 := by rw [putN_len]; simp only; omega
    refine .skip <| .seq <| .r <| .w 131 .mvI <| .w 132 (.ldb T.ag38 ok.m0 T.sz38) <| .c' 133 .func (putZ_any (z1 := (frN l2 i).page) (z2 := (frN l2 i).commit) (r := (linkL (linkL (nextN salt (headN n salt)) S) (O.map (frN l2)))) (by omega) (by omega) (a := (xb i)) (c := (xd i)) (l := (frN l2 i).b) ok.r0) ?_
    rintro _ η23 (⟨hkP, rfl, hx⟩ | ⟨hkP, w, rfl, own⟩)
    · --
      (rw [hokF] at hkP; cases hkP)
    obtain ⟨ya2, yc2, rfl⟩ := own.formB
    have ok := ok.own own
    refine .w 130 .mvU <| .w 134 .ex <| .w 135 .ex <| ?_
    rw [show (linkN (linkL (linkL (nextN salt (headN n salt)) S) (O.map (frN l2))) ⟨(frN l2 i).page, (frN l2 i).commit, (frN l2 i).b⟩) = linkL (linkL (nextN salt (headN n salt)) S) ((O ++ [i]).map (frN l2)) from by rw [List.map_append, List.map_singleton, linkL_snoc]]
    refine .w 136 .ex <| .w 19 .asS <| .w 20 .asI <| .w 21 .asI <| .nil ?_
    refine .seq <| .r <| .w 137 .mvI <| .w 12 .asI <| .nil ?_
    refine .seq <| .r <| .w 138 .mvS <| .w 139 .mvS <| .a' 140 (.app (news := (putN (linkL (linkL (nextN salt (headN n salt)) S) (O.map (frN l2))) ⟨(frN l2 i).page, (frN l2 i).commit, (frN l2 i).b⟩).map bv) T.el22 T.sz5 T.by5 T.zr5 ok.n2 (ok.n2.m1).sl bv_all (by simp only [List.length_map]; omega)) ?_
    rintro _ η24 ⟨ya3, yn2, yc3, rfl, ok, ap⟩
    have ok := ok.cx (ys := (((headN n salt ++ putsN (nextN salt (headN n salt)) S) ++ putsN (linkL (nextN salt (headN n salt)) S) (O.map (frN l2))) ++ (putN (linkL (linkL (nextN salt (headN n salt)) S) (O.map (frN l2))) ⟨(frN l2 i).page, (frN l2 i).commit, (frN l2 i).b⟩)).map bv) (by simp [bv])
    obtain rfl : yn2 = (((headN n salt ++ putsN (nextN salt (headN n salt)) S) ++ putsN (linkL (nextN salt (headN n salt)) S) (O.map (frN l2))) ++ (putN (linkL (linkL (nextN salt (headN n salt)) S) (O.map (frN l2))) ⟨(frN l2 i).page, (frN l2 i).commit, (frN l2 i).b⟩)).length := ok.lenB
    rw [show ((headN n salt ++ putsN (nextN salt (headN n salt)) S) ++ putsN (linkL (nextN salt (headN n salt)) S) (O.map (frN l2))) ++ (putN (linkL (linkL (nextN salt (headN n salt)) S) (O.map (frN l2))) ⟨(frN l2 i).page, (frN l2 i).commit, (frN l2 i).b⟩) = (headN n salt ++ putsN (nextN salt (headN n salt)) S) ++ putsN (linkL (nextN salt (headN n salt)) S) ((O ++ [i]).map (frN l2)) from by rw [List.map_append, List.map_singleton, putsN_snoc, ← List.append_assoc]] at ok ⊢
    refine .w 15 .asS <| .nil ?_
    refine .r <| .w 141 .mvS <| .w 142 (.ldb T.ag38 ok.m2 T.sz38) <| .a' 143 (.lit [.tmp 142] (cs := [.int .i64 ((frN l2 i).page), .int .i64 ((frN l2 i).commit), .slice (xb i) ((frN l2 i).b.length) (xd i)]) T.el24 T.sz38 T.zr38 ok ⟨rfl, trivial⟩) ?_
    rintro _ η25 ⟨pb6, rfl, ok, xe⟩
    refine .a' 144 (.app (news := [.int .i64 ((frN l2 i).page), .int .i64 ((frN l2 i).commit), .slice (xb i) ((frN l2 i).b.length) (xd i)]) T.el24 T.sz38 T.by38 T.zr38 ok.n4 (ok.n4.m1).sl (oneL rfl) (by rw [flat_len hfvm]; simp only [List.length_cons, List.length_nil]; omega)) ?_
    rintro _ η26 ⟨ya4, yn3, yc4, rfl, ok, ap⟩
    have ok := ok.cx (snocF (f := (vfN l2 xb xd)) (l := O) (x := i))
    obtain rfl : yn3 = (O ++ [i]).length := (Sl.sz (Cap.sl ok.m0) hfvm (by decide)).1.symm
    refine .w 16 .asS <| .nil ?_
    refine .end <| hK1 _ _ <| .end <| ⟨(O ++ [i]), ya3, yc3, ya4, yc4, ⟨rfl, rfl, rfl, rfl, rfl, rfl, rfl, rfl, trivial⟩, (ok.n5.n1.n3).k3.tR, by rw [selN_succ, if_pos hselm, hOm]⟩
  rintro s η27 ⟨O2m, a5bm, c5bm, a12bm, c12bm, hs, ok, hO2m⟩
  refine .frame hs fun τ => ?_
  refine .r <| .w 145 (.addI (b := 1)) <| .w 115 .mvI <| .nil ?_
  refine .end <| hJ0 _ _ _ ⟨i + 1, O2m, a5bm, c5bm, a12bm, c12bm, ⟨rfl, rfl, rfl, rfl, rfl, rfl, rfl, rfl, trivial⟩, (ok.n2.n2.n2).k3, by omega, hO2m, rfl⟩ (by omega)

theorem goes_row {h : Heap} {turn : Int} {g : Lg} {x : SV} {b : Option Addr} {m d : Nat} {l2 : List Fr} (hl : RdL h any_ any_ x g.l) (hz : InI g.size) (hs : 0 ≤ g.salt ∧ g.salt ≤ 18446744073709551615) (hm : RdL h any_ any_ (b, m, d) l2) (htu : InI turn) :
    HC Try.prog 7 #[.agg #[.int .i64 g.size, .int .u64 g.salt, sv x], .slice b m d, .int .i64 turn] h (fun v h' => v = .bool true ∧ Ext h h') := by
  obtain ⟨a, n, c⟩ := x
  obtain ⟨z, s, l⟩ := g
  obtain rfl : n = l.length := hl.n
  obtain rfl : m = l2.length := hm.n
  obtain ⟨salt, rfl⟩ : ∃ m : Nat, s = m := ⟨s.toNat, by simp only at hs; omega⟩
  exact goes_walk hz (by simp only at hs; omega) htu hl hm
end Go.Proofs.Ytpebbkhainpfaaa
