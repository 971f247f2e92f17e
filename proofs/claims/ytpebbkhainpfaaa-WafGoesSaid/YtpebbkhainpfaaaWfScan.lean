/- The program's Scan of a log. Conditions: the bytes are readable, at most 100000. -/
import Derived.Test.YtpebbkhainpfaaaWfFr
import Derived.Test.YtpebbkhainpfaaaHlAcc
namespace Go.Proofs.Ytpebbkhainpfaaa
open Go Go.HL
instance : Rep Fr where
  k := 3
  rd h F cs f := ∃ x : SV, cs = [iv f.page, iv f.commit, sv x] ∧ RdL h F F x f.b
  kpos := by omega
  len := fun ⟨_, h, _⟩ => by rw [h]; rfl
  one := fun ⟨_, h, _⟩ u hu => by
    rw [h] at hu
    simp only [List.mem_cons, List.not_mem_nil, or_false] at hu
    rcases hu with rfl | rfl | rfl <;> rfl
  st := fun c d ⟨x, e, r⟩ => ⟨x, e, r.st c d d⟩
  mono := fun d ⟨x, e, r⟩ => ⟨x, e, r.mono d d⟩
  lt := fun ⟨x, e, r⟩ => ⟨x, e, r.lt⟩
theorem Fr.rd_cap {h : Heap} {e : TypeId} {z1 z2 : Int} {a : Option Addr} {n c : Nat} {l : List UInt8} (r : Cap h 1 e (.slice a n c) (l.map bv)) : Rep.rd h (blkC (.slice a n c)) [.int .i64 z1, .int .i64 z2, .slice a n c] (⟨z1, z2, l⟩ : Fr) :=
  ⟨(a, n, c), rfl, RdL.of_cap1 (f := bv) (x := (a, n, c)) (l := l) rfl (fun _ _ _ => rfl) r⟩
theorem frame_any {h : Heap} {F E : Nat → Prop} {r c pos size prev salt : Nat} {a : Option Addr} {l : List UInt8} (hl : RdL h F E (a, l.length, c) l) (hb : (boxI r 92 [.slice a l.length c, .int .i64 (pos : Int), .int .i64 (size : Int), .int .u64 (prev : Int), .int .u64 (salt : Int)]).p h) (hd : ∀ j, F j ∨ E j → j ≠ r) (hpos : pos ≤ l.length) (hsz : size < 4294967296) (hpv : prev < 18446744073709551616) (hN : l.length ≤ 10000000) :
    HC Try.prog 48 #[.pointer (some ⟨r, 0, none⟩)] h (fun v h' => (fits l size pos prev ∧ ∃ a' c', v = .tuple #[.agg #[.int .i64 (rawF l size pos).page, .int .i64 (rawF l size pos).commit, .slice a' (rawF l size pos).b.length c'], .bool true] ∧ Chg (fun j => j = r) h h' ∧
      (boxI r 92 [.slice a l.length c, .int .i64 ((pos + 16 + size : Nat) : Int), .int .i64 (size : Int), .int .u64 ((linkN prev (rawF l size pos) : Nat) : Int), .int .u64 (salt : Int)]).p h' ∧ Cap h' 1 5 (.slice a' (rawF l size pos).b.length c') ((rawF l size pos).b.map bv) ∧ ∀ j, blkC (.slice a' (rawF l size pos).b.length c') j → h.size ≤ j) ∨
      (¬ fits l size pos prev ∧ v = .tuple #[.agg #[.int .i64 0, .int .i64 0, .slice none 0 0], .bool false] ∧ Chg (fun j => j = r) h h' ∧ (boxI r 92 [.slice a l.length c, .int .i64 (pos : Int), .int .i64 (size : Int), .int .u64 (prev : Int), .int .u64 (salt : Int)]).p h')) := by
  by_cases hf : fits l size pos prev
  · exact (frame_ok hl hb hd hpos hsz hpv hN hf).mono fun v h' q => .inl ⟨hf, q⟩
  · exact (frame_no hl hb hd hpos hsz hpv hN hf).mono fun v h' q => .inr ⟨hf, q⟩
theorem head_any {h : Heap} {F E : Nat → Prop} {r c : Nat} {a : Option Addr} {l : List UInt8} (hl : RdL h F E (a, l.length, c) l) (hb : (boxI r 92 [.slice a l.length c, .int .i64 0, .int .i64 0, .int .u64 0, .int .u64 0]).p h) (hd : ∀ j, F j ∨ E j → j ≠ r) :
    HC Try.prog 47 #[.pointer (some ⟨r, 0, none⟩)] h (fun v h' => (l.length < 20 ∧ v = .int .i64 6 ∧ ∃ cs, Chg (fun j => j = r) h h' ∧ (boxI r 92 cs).p h') ∨ (20 ≤ l.length ∧ headOk l = false ∧ v = .int .i64 8 ∧ ∃ cs, Chg (fun j => j = r) h h' ∧ (boxI r 92 cs).p h') ∨
      (20 ≤ l.length ∧ headOk l = true ∧ v = .int .i64 0 ∧ Chg (fun j => j = r) h h' ∧ (boxI r 92 [.slice a l.length c, .int .i64 20, .int .i64 ((rdN l 4 4 : Nat) : Int), .int .u64 ((firstN l : Nat) : Int), .int .u64 ((rdN l 8 8 : Nat) : Int)]).p h')) := by
  rcases Nat.lt_or_ge l.length 20 with h1 | h1
  · exact (head_short hl hb hd h1).mono fun v h' q => .inl ⟨h1, q⟩
  · cases h2 : okSz (rdN l 4 4) with
    | false => exact (head_form1 hl hb hd h1 (by rw [okZ_nat]; exact h2)).mono fun v h' q => .inr (.inl ⟨h1, by simp [headOk, h2], q⟩)
    | true =>
      by_cases h3 : headN (rdN l 4 4) (rdN l 8 8) = l.take 20
      · exact (head_ok hl hb hd h1 (by rw [okZ_nat]; exact h2) h3).mono fun v h' q => .inr (.inr ⟨h1, by simp [headOk, h2, h3], q⟩)
      · exact (head_form2 hl hb hd h1 (by rw [okZ_nat]; exact h2) h3).mono fun v h' q => .inr (.inl ⟨h1, by simp [headOk, h2, h3], q⟩)

set_option maxRecDepth 100000 in
set_option maxHeartbeats 2000000 in
theorem clip_any {h : Heap} {a : Option Addr} {n c : Nat} (h1 : n ≤ c) (h2 : c ≤ 9223372036854775807) :
    HC Try.prog 49 #[.slice a n c] h (fun v h' => v = .slice a n n ∧ h' = h) := by
  refine HC.go Try.func49 9 ?_
  refine .seq <| .r <| .w 2 .asS <| .nil ?_
  refine .seq <| .r <| .w 3 .mvS <| .w 4 .mvS <| .w 5 (.len T.el24) <| .w 6 .mvS <| .w 7 (.len T.el24) <| .w 8 (.slhm n n T.el24 T.sz38) <| .w 2 .asS <| .nil ?_
  refine .ret ⟨.slice a n n, Res.one rfl rfl, ⟨rfl, rfl⟩⟩

set_option maxRecDepth 100000 in
set_option maxHeartbeats 2000000 in
theorem scan_any {h : Heap} {F E : Nat → Prop} {a : Option Addr} {c : Nat} {l : List UInt8} (hl : RdL h F E (a, l.length, c) l) (hN : l.length ≤ 10000000) :
    HC Try.prog 14 #[.slice a l.length c] h (fun v h' => (l.length < 20 ∧ v = .tuple #[.int .i64 0, .slice none 0 0, .int .u64 0, .int .i64 0, .int .i64 6] ∧ Ext h h') ∨ (20 ≤ l.length ∧ headOk l = false ∧ v = .tuple #[.int .i64 0, .slice none 0 0, .int .u64 0, .int .i64 0, .int .i64 8] ∧ Ext h h') ∨
      (20 ≤ l.length ∧ headOk l = true ∧ ∃ s x, ScanE l s ∧ v = .tuple #[.int .i64 ((rdN l 4 4 : Nat) : Int), sv x, .int .u64 ((s.sure : Nat) : Int), .int .i64 ((s.fin : Nat) : Int), .int .i64 0] ∧ Ext h h' ∧ RdL h' (Nw h h') (Nw h h') x s.l)) := by
  have hc2 := hl.m
  have hc1 : l.length ≤ c := hl.c
  simp only at hc2
  have ok := (Hp.nil h none_).arg hl
  have h41 := rdN_lt4 l 4
  have hfl := firstN_lt l
  refine HC.go Try.func14 63 ?_
  refine .seq <| .r <| .w 2 .asI <| .w 3 .asS <| .w 4 .asI <| .w 5 .asI <| .w 6 .asI <| .nil ?_
  refine .seq <| .r <| .w 11 .mvS <| .w 12 (.bd #[.slice a l.length c, .int .i64 0, .int .i64 0, .int .u64 0, .int .u64 0] T.zr92 T.pl92 rfl) <| .a' 13 (.bxA (cs := [.slice a l.length c, .int .i64 0, .int .i64 0, .int .u64 0, .int .u64 0]) ok) ?_
  rintro _ η1 ⟨pb1, rfl, ok, xe⟩
  refine .w 7 .asP <| .nil ?_
  refine .seq <| .seq <| .r <| .w 14 .mvP <| .c' 15 .func (head_any ok.r0 ok.m0 (fun j hj e => (ok).mr _ List.mem_cons_self _ List.mem_cons_self j e hj)) ?_
  rintro _ η2 (⟨hlt, rfl, cs1, cg, hbx⟩ | ⟨hge, hhd, rfl, cs1, cg, hbx⟩ | ⟨hge, hhd, rfl, cg, hbx⟩)
  · --
    have ok := (ok).boxUp cg hbx
    refine .w 6 .asI <| .nil ?_
    refine .seq <| .r <| .w 16 .mvI <| .w 17 .neq <| .nil ?_
    refine .ct <| .seq <| .r <| .w 18 .mvI <| .w 2 .asI <| .w 3 .asS <| .w 4 .asI <| .w 5 .asI <| .w 6 .asI <| .nil ?_
    refine .ret ⟨.tuple #[.int .i64 0, .slice none 0 0, .int .u64 0, .int .i64 0, .int .i64 6], Res.many (vs := [.int .i64 0, .slice none 0 0, .int .u64 0, .int .i64 0, .int .i64 6]) rfl ⟨rfl, rfl, rfl, rfl, rfl, trivial⟩ rfl, .inl ⟨hlt, rfl, ok.chg⟩⟩
  · --
    have ok := (ok).boxUp cg hbx
    refine .w 6 .asI <| .nil ?_
    refine .seq <| .r <| .w 16 .mvI <| .w 17 .neq <| .nil ?_
    refine .ct <| .seq <| .r <| .w 18 .mvI <| .w 2 .asI <| .w 3 .asS <| .w 4 .asI <| .w 5 .asI <| .w 6 .asI <| .nil ?_
    refine .ret ⟨.tuple #[.int .i64 0, .slice none 0 0, .int .u64 0, .int .i64 0, .int .i64 8], Res.many (vs := [.int .i64 0, .slice none 0 0, .int .u64 0, .int .i64 0, .int .i64 8]) rfl ⟨rfl, rfl, rfl, rfl, rfl, trivial⟩ rfl, .inr (.inl ⟨hge, hhd, rfl, ok.chg⟩)⟩
  have ok := (ok).boxUp cg hbx
  refine .w 6 .asI <| .nil ?_
  refine .seq <| .r <| .w 16 .mvI <| .w 17 .neq <| .nil ?_
  refine .cf <| .skip <| .seq <| .q (hm := mixed) <| .w 19 .mvP <| .w 20 .nil <| .w 21 (.fa T.fd92_3) <| .w 22 (.ldx T.ag25 ok.m0) <| .w 23 .mvP <| .w 24 .nil <| .w 25 (.fa T.fd92_1) <| .w 26 (.ldx T.ag3 ok.m0) <| .w 4 .asI <| .w 5 .asI <| .nil ?_
  refine .seq <| .r <| .w 8 .asS <| ?_
  have ok := ok.accNil 38 Fr
  refine .nil ?_
  refine .seq <| .seq <| .join (fun s hh => ∃ (g : Fr) (okb : Bool) (b9 : Nat) (a1 : Option Addr) (c1 : Nat) (pp : Nat) (vv : Nat), Has s [(3, .slice none 0 0), (4, .int .u64 ((firstN l : Nat) : Int)), (5, .int .i64 20), (7, .pointer (some ⟨pb1, 0, none⟩)), (8, .slice none 0 0), (9, .pointer (some ⟨b9, 0, none⟩)), (10, .bool okb)] ∧ Hp h none_ [accI 38 (none, 0, 0) (none, 0, 0) none_ ([] : List Fr) [], boxI b9 38 [.int .i64 g.page, .int .i64 g.commit, .slice a1 g.b.length c1], capI 1 5 (a1, g.b.length, c1) (g.b.map bv), boxI pb1 92 [.slice a l.length c, .int .i64 (pp : Int), .int .i64 ((rdN l 4 4 : Nat) : Int), .int .u64 (vv : Int), .int .u64 ((rdN l 8 8 : Nat) : Int)]] [rdI (fun j => F j ∧ j < h.size) (fun j => E j ∧ j < h.size) (a, l.length, c) l] hh ∧ (okb = true → fits l (rdN l 4 4) 20 (firstN l) ∧ g = rawF l (rdN l 4 4) 20 ∧ pp = 20 + 16 + (rdN l 4 4) ∧ vv = linkN (firstN l) g) ∧ (okb = false → ¬ fits l (rdN l 4 4) 20 (firstN l)) ∧ pp ≤ l.length ∧ vv < 18446744073709551616) ?_ ?_
  · --
    refine .r <| .w 28 .mvP <| .c' 29 .func (frame_any (pos := 20) (size := (rdN l 4 4)) (prev := (firstN l)) (salt := (rdN l 8 8)) ok.r0 ok.m1 (fun j hj e => (ok.n1).mr _ List.mem_cons_self _ List.mem_cons_self j e hj) (by omega) (by omega) (by omega) hN) ?_
    rintro _ η3 (⟨hft, aw1, cw1, rfl, cg, hbx, hcap, hfr⟩ | ⟨hft, rfl, cg, hbx⟩)
    · --
      have ok := (ok.n1).boxNew (x := (aw1, (rawF l (rdN l 4 4) 20).b.length, cw1)) cg hbx hcap hfr
      refine .w 27 .mvU <| .w 30 .ex <| .w 31 .ex <| .a' 9 (.alA T.zr38 ok) ?_
      rintro _ η4 ⟨pb2, rfl, ok, xe⟩
      refine .ur' (.stW (vs := [.int .i64 ((rawF l (rdN l 4 4) 20).page), .int .i64 ((rawF l (rdN l 4 4) 20).commit), .slice aw1 ((rawF l (rdN l 4 4) 20).b.length) cw1]) T.sz38 ok (oneL rfl)) ?_
      rintro η5 ⟨ok, cg⟩
      refine .w 10 .asB <| .nil ?_
      refine .end <| ⟨(rawF l (rdN l 4 4) 20), true, pb2, aw1, cw1, (20 + 16 + (rdN l 4 4)), (linkN (firstN l) (rawF l (rdN l 4 4) 20)), ⟨rfl, rfl, rfl, rfl, rfl, rfl, rfl, trivial⟩, ok.n2.n2.n2.n3.cx2 (by simp), ⟨fun _ => ⟨hft, rfl, rfl, rfl⟩, fun h => (by cases h), hft.1, nextN_lt (firstN_lt l) _⟩⟩
    have ok := (ok.n1).boxUp cg hbx
    have ok := ok.nilC (k := 1) (e := 5)
    refine .w 27 .mvU <| .w 30 .ex <| .w 31 .ex <| .a' 9 (.alA T.zr38 ok) ?_
    rintro _ η6 ⟨pb3, rfl, ok, xe⟩
    refine .ur' (.stW (vs := [.int .i64 0, .int .i64 0, .slice none 0 0]) T.sz38 ok (oneL rfl)) ?_
    rintro η7 ⟨ok, cg⟩
    refine .w 10 .asB <| .nil ?_
    refine .end <| ⟨(⟨0, 0, []⟩ : Fr), false, pb3, none, 0, 20, (firstN l), ⟨rfl, rfl, rfl, rfl, rfl, rfl, rfl, trivial⟩, ok.n2.n2.n2.n3.cx2 (by simp), ⟨fun h => (by cases h), fun _ => hft, hge, firstN_lt l⟩⟩
  rintro s η8 ⟨g, okb, b9, a1, c1, pp, vv, hs, ok, hI⟩
  refine .frame hs fun τ => ?_
  refine .block fun K0 hK0 => .loop (fun m s hh => ∃ (sc : Sc) (g : Fr) (okb : Bool) (b9 : Nat) (a1 : Option Addr) (c1 pp vv : Nat) (a8 : Option Addr) (n8 c8 : Nat) (a3 : Option Addr) (n3 c3 : Nat) (E2 : Nat → Prop), Has s [(3, .slice a3 n3 c3), (4, .int .u64 (sc.sure : Int)), (5, .int .i64 (sc.fin : Int)), (7, .pointer (some ⟨pb1, 0, none⟩)), (8, .slice a8 n8 c8), (9, .pointer (some ⟨b9, 0, none⟩)), (10, .bool okb)] ∧ Hp h none_ [accI 38 (a8, n8, c8) (a3, n3, c3) E2 sc.all sc.l, boxI b9 38 [.int .i64 g.page, .int .i64 g.commit, .slice a1 g.b.length c1], capI 1 5 (a1, g.b.length, c1) (g.b.map bv), boxI pb1 92 [.slice a l.length c, .int .i64 (pp : Int), .int .i64 ((rdN l 4 4 : Nat) : Int), .int .u64 (vv : Int), .int .u64 ((rdN l 8 8 : Nat) : Int)]] [rdI (fun j => F j ∧ j < h.size) (fun j => E j ∧ j < h.size) (a, l.length, c) l] hh ∧ Reach l (rdN l 4 4) (scan0 l) sc ∧ sc.all.length ≤ sc.pos ∧ sc.pos ≤ l.length ∧ sc.prev < 18446744073709551616 ∧ (okb = true → fits l (rdN l 4 4) sc.pos sc.prev ∧ g = rawF l (rdN l 4 4) sc.pos ∧ pp = sc.pos + 16 + (rdN l 4 4) ∧ vv = linkN sc.prev g) ∧ (okb = false → ¬ fits l (rdN l 4 4) sc.pos sc.prev) ∧ pp ≤ l.length ∧ vv < 18446744073709551616 ∧ m = l.length - sc.pos) ?_ ?_
  · exact ⟨_, scan0 l, g, okb, b9, a1, c1, pp, vv, none, 0, 0, none, 0, 0, none_, ⟨rfl, rfl, rfl, rfl, rfl, rfl, rfl, trivial⟩, ok.n3.n3.n3.n3, .refl _, Nat.zero_le _, hge, firstN_lt l, hI.1, hI.2.1, hI.2.2.1, hI.2.2.2, rfl⟩
  rintro _ _ η9 ⟨sc, g, okb, b9, a1, c1, pp, vv, a8, n8, c8, a3, n3, c3, E2, hs, ok, hR, hal, hps, hpr, hT, hF, hpl, hvl, rfl⟩ J0 hJ0
  refine .frame hs fun τ => ?_
  refine .seq <| .seq <| .r <| .w 32 .mvB <| .nil ?_
  refine .condr (fun C1 => ?_) (fun C1 => ?_)
  · --
    refine .exit <| hK0 _ _ <| .seq <| .r <| .w 56 .mvP <| .w 57 .nil <| .w 58 (.fa T.fd92_2) <| .w 59 (.ldx T.ag3 ok.m3) <| .w 60 .mvS <| .w 61 .mvI <| .w 62 .mvI <| .w 2 .asI <| .w 3 .asS <| .w 4 .asI <| .w 5 .asI <| .w 6 .asI <| .nil ?_
    refine .ret ⟨.tuple #[.int .i64 ((rdN l 4 4 : Nat) : Int), .slice a3 n3 c3, .int .u64 (sc.sure : Int), .int .i64 (sc.fin : Int), .int .i64 0], Res.many (vs := [.int .i64 ((rdN l 4 4 : Nat) : Int), .slice a3 n3 c3, .int .u64 (sc.sure : Int), .int .i64 (sc.fin : Int), .int .i64 0]) rfl ⟨rfl, rfl, rfl, rfl, rfl, trivial⟩ rfl, .inr (.inr ⟨hge, hhd, sc, (a3, n3, c3), ⟨hR, hF C1⟩, rfl, ok.chg, (ok).m0.l3.mono (fun j hj => (ok).fresh j (.inr (.inl hj))) (fun j hj => (ok).fresh j (.inr (.inr hj)))⟩)⟩
  obtain ⟨hfit, hg, hpp2, hvv2⟩ := hT C1
  have hfit1 := hfit.1
  refine .skip <| .seq <| .block fun K1 hK1 => .seq <| .r <| .w 38 .mvS <| .w 39 (.ldb T.ag38 ok.m1 T.sz38) <| .a' 40 (.lit [.tmp 39] (cs := [.int .i64 g.page, .int .i64 g.commit, .slice a1 g.b.length c1]) T.el24 T.sz38 T.zr38 ok ⟨rfl, trivial⟩) ?_
  rintro _ η10 ⟨pb4, rfl, ok, xe⟩
  refine .a' 41 (.appA g T.el24 T.sz38 T.by38 T.zr38 (ok.n3.n2) ((ok.n3.n2.m2).sl) (Fr.rd_cap (ok.n3.n2).m1) (by omega)) ?_
  rintro _ η11 ⟨az1, nz1, cz1, rfl, ok⟩
  refine .w 8 .asS <| .nil ?_
  refine .seq <| .r <| .w 42 (.fa T.fd38_1) <| .w 43 (.ldx T.ag3 ok.m2) <| .w 44 .neq <| .nil ?_
  refine .cd (fun C2 => ?_) (fun C2 => ?_)
  · --
    have hst : stepF (rdN l 4 4) sc (rawF l (rdN l 4 4) sc.pos) = ⟨pp, vv, sc.all ++ [g], sc.all ++ [g], vv, pp⟩ := by rw [← hg]; simp only [stepF, if_pos C2, ← hpp2, ← hvv2]
    refine .seq <| .r <| .w 45 .mvS <| ?_
    have hrd := (ok).m0.rd
    have hrc := hrd.c
    have hrm := hrd.m
    simp only at hrc hrm
    refine .c' 46 .func (clip_any hrc hrm) ?_
    rintro _ _ ⟨rfl, rfl⟩
    have ok := (ok).accClip
    refine .w 3 .asS <| .nil ?_
    refine .q (hm := mixed) <| .w 47 .mvP <| .w 48 .nil <| .w 49 (.fa T.fd92_3) <| .w 50 (.ldx T.ag25 ok.m3) <| .w 51 .mvP <| .w 52 .nil <| .w 53 (.fa T.fd92_1) <| .w 54 (.ldx T.ag3 ok.m3) <| .w 4 .asI <| .w 5 .asI <| .nil ?_
    refine .end <| hK1 _ _ <| .seq <| .seq <| .r <| .w 55 (.ldb T.ag38 ok.m2 T.sz38) <| .nil ?_
    refine .r <| .a' 9 (.alA T.zr38 ok) ?_
    rintro _ η12 ⟨pb5, rfl, ok, xe⟩
    refine .ur' (.stW (vs := [.int .i64 g.page, .int .i64 g.commit, .slice a1 g.b.length c1]) T.sz38 ok (oneL rfl)) ?_
    rintro η13 ⟨ok, cg⟩
    refine .nil ?_
    refine .r <| .w 34 .mvP <| .c' 35 .func (frame_any (pos := pp) (size := (rdN l 4 4)) (prev := vv) (salt := (rdN l 8 8)) ok.r0 ok.m4 (fun j hj e => (ok.n4).mr _ List.mem_cons_self _ List.mem_cons_self j e hj) (by omega) (by omega) (by omega) hN) ?_
    rintro _ η14 (⟨hft, aw2, cw2, rfl, cg, hbx, hcap, hfr⟩ | ⟨hft, rfl, cg, hbx⟩)
    · --
      have ok := (ok.n4).boxNew (x := (aw2, (rawF l (rdN l 4 4) pp).b.length, cw2)) cg hbx hcap hfr
      refine .w 33 .mvU <| .w 36 .ex <| .w 37 .ex <| .ur' (.stW (vs := [.int .i64 ((rawF l (rdN l 4 4) pp).page), .int .i64 ((rawF l (rdN l 4 4) pp).commit), .slice aw2 ((rawF l (rdN l 4 4) pp).b.length) cw2]) T.sz38 ok.n2 (oneL rfl)) ?_
      rintro η15 ⟨ok, cg⟩
      refine .w 10 .asB <| .nil ?_
      refine .end <| hJ0 _ _ _ ⟨⟨pp, vv, sc.all ++ [g], sc.all ++ [g], vv, pp⟩, (rawF l (rdN l 4 4) pp), true, pb5, aw2, cw2, (pp + 16 + (rdN l 4 4)), (linkN vv (rawF l (rdN l 4 4) pp)), az1, nz1, cz1, az1, nz1, nz1, _, ⟨rfl, rfl, rfl, rfl, rfl, rfl, rfl, trivial⟩, ok.n2.n2.n2.n3.k4.cx2 (by simp), hst ▸ hR.step hfit, (by simp only [List.length_append, List.length_singleton]; omega), hpl, hvl, fun _ => ⟨hft, rfl, rfl, rfl⟩, fun h => (by cases h), hft.1, nextN_lt hvl _, rfl⟩ (by simp only; omega)
    have ok := (ok.n4).boxUp cg hbx
    have ok := ok.nilC (k := 1) (e := 5)
    refine .w 33 .mvU <| .w 36 .ex <| .w 37 .ex <| .ur' (.stW (vs := [.int .i64 0, .int .i64 0, .slice none 0 0]) T.sz38 ok.n2 (oneL rfl)) ?_
    rintro η16 ⟨ok, cg⟩
    refine .w 10 .asB <| .nil ?_
    refine .end <| hJ0 _ _ _ ⟨⟨pp, vv, sc.all ++ [g], sc.all ++ [g], vv, pp⟩, (⟨0, 0, []⟩ : Fr), false, pb5, none, 0, pp, vv, az1, nz1, cz1, az1, nz1, nz1, _, ⟨rfl, rfl, rfl, rfl, rfl, rfl, rfl, trivial⟩, ok.n2.n2.n2.n3.k4.cx2 (by simp), hst ▸ hR.step hfit, (by simp only [List.length_append, List.length_singleton]; omega), hpl, hvl, fun h => (by cases h), fun _ => hft, hpl, hvl, rfl⟩ (by simp only; omega)
  have hst : stepF (rdN l 4 4) sc (rawF l (rdN l 4 4) sc.pos) = ⟨pp, vv, sc.all ++ [g], sc.l, sc.sure, sc.fin⟩ := by rw [← hg]; simp only [stepF, if_neg C2, ← hpp2, ← hvv2]
  refine .skip <| .end <| hK1 _ _ <| .seq <| .seq <| .r <| .w 55 (.ldb T.ag38 ok.m2 T.sz38) <| .nil ?_
  refine .r <| .a' 9 (.alA T.zr38 ok) ?_
  rintro _ η17 ⟨pb6, rfl, ok, xe⟩
  refine .ur' (.stW (vs := [.int .i64 g.page, .int .i64 g.commit, .slice a1 g.b.length c1]) T.sz38 ok (oneL rfl)) ?_
  rintro η18 ⟨ok, cg⟩
  refine .nil ?_
  refine .r <| .w 34 .mvP <| .c' 35 .func (frame_any (pos := pp) (size := (rdN l 4 4)) (prev := vv) (salt := (rdN l 8 8)) ok.r0 ok.m4 (fun j hj e => (ok.n4).mr _ List.mem_cons_self _ List.mem_cons_self j e hj) (by omega) (by omega) (by omega) hN) ?_
  rintro _ η19 (⟨hft, aw3, cw3, rfl, cg, hbx, hcap, hfr⟩ | ⟨hft, rfl, cg, hbx⟩)
  · --
    have ok := (ok.n4).boxNew (x := (aw3, (rawF l (rdN l 4 4) pp).b.length, cw3)) cg hbx hcap hfr
    refine .w 33 .mvU <| .w 36 .ex <| .w 37 .ex <| .ur' (.stW (vs := [.int .i64 ((rawF l (rdN l 4 4) pp).page), .int .i64 ((rawF l (rdN l 4 4) pp).commit), .slice aw3 ((rawF l (rdN l 4 4) pp).b.length) cw3]) T.sz38 ok.n2 (oneL rfl)) ?_
    rintro η20 ⟨ok, cg⟩
    refine .w 10 .asB <| .nil ?_
    refine .end <| hJ0 _ _ _ ⟨⟨pp, vv, sc.all ++ [g], sc.l, sc.sure, sc.fin⟩, (rawF l (rdN l 4 4) pp), true, pb6, aw3, cw3, (pp + 16 + (rdN l 4 4)), (linkN vv (rawF l (rdN l 4 4) pp)), az1, nz1, cz1, a3, n3, c3, _, ⟨rfl, rfl, rfl, rfl, rfl, rfl, rfl, trivial⟩, ok.n2.n2.n2.n3.k4.cx2 (by simp), hst ▸ hR.step hfit, (by simp only [List.length_append, List.length_singleton]; omega), hpl, hvl, fun _ => ⟨hft, rfl, rfl, rfl⟩, fun h => (by cases h), hft.1, nextN_lt hvl _, rfl⟩ (by simp only; omega)
  have ok := (ok.n4).boxUp cg hbx
  have ok := ok.nilC (k := 1) (e := 5)
  refine .w 33 .mvU <| .w 36 .ex <| .w 37 .ex <| .ur' (.stW (vs := [.int .i64 0, .int .i64 0, .slice none 0 0]) T.sz38 ok.n2 (oneL rfl)) ?_
  rintro η21 ⟨ok, cg⟩
  refine .w 10 .asB <| .nil ?_
  refine .end <| hJ0 _ _ _ ⟨⟨pp, vv, sc.all ++ [g], sc.l, sc.sure, sc.fin⟩, (⟨0, 0, []⟩ : Fr), false, pb6, none, 0, pp, vv, az1, nz1, cz1, a3, n3, c3, _, ⟨rfl, rfl, rfl, rfl, rfl, rfl, rfl, trivial⟩, ok.n2.n2.n2.n3.k4.cx2 (by simp), hst ▸ hR.step hfit, (by simp only [List.length_append, List.length_singleton]; omega), hpl, hvl, fun h => (by cases h), fun _ => hft, hpl, hvl, rfl⟩ (by simp only; omega)

end Go.Proofs.Ytpebbkhainpfaaa
