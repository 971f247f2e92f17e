/- The disk's changes: long, done, kept, what is wrong with a call. Conditions: the bytes are readable, few. -/
import Derived.Test.YtpebbkhainpfaaaDkMem
import Derived.Test.YtpebbkhainpfaaaWfImp
namespace Go.Proofs.Ytpebbkhainpfaaa
open Go Go.HL
theorem long_cut {h0 h : Heap} {D : Nat → Prop} {M R : List Itm} {e : TypeId} {a : Option Addr} {c n : Nat} {l : List UInt8} (ok : Hp h0 D (capI 1 e (a, l.length, c) (l.map bv) :: M) R h) (hn : n ≤ l.length) : Hp h0 D (capI 1 e (a, (longN l n).length, n) ((longN l n).map bv) :: M) R h := by
  have h1 := Cap.clip (Cap.pre ok.m0 hn)
  rw [Nat.mul_one, ← List.map_take, ← longN_le hn] at h1
  refine ok.re _ (by simp only [longN_len]; exact h1) fun j hj => ?_
  obtain ⟨o, n', c', hv⟩ := hj
  injection hv with h1 h2 h3
  exact ⟨o, _, _, by rw [← h1]⟩

set_option maxRecDepth 100000 in
set_option maxHeartbeats 2000000 in
theorem long_any {h : Heap} {n : Nat} {a : Option Addr} {c : Nat} {l : List UInt8} (ok : Hp h (blkC (sv (a, l.length, c))) [capI 1 5 (a, l.length, c) (l.map bv)] [] h) (hN : l.length ≤ 100000000) (hn : n ≤ 100000000) :
    HC Try.prog 109 #[.slice a l.length c, .int .i64 (n : Int)] h (fun v h' => ∃ a' c', v = .slice a' (longN l n).length c' ∧ Hp h (blkC (sv (a, l.length, c))) [capI 1 5 (a', (longN l n).length, c') ((longN l n).map bv)] [] h') := by
  have hle : l.length ≤ c := Cap.le ok.m0
  refine HC.go Try.func109 19 ?_
  refine .seq <| .r <| .w 4 .asS <| .nil ?_
  refine .seq <| .seq <| .r <| .w 5 .mvI <| .w 6 .mvS <| .w 7 (.len T.el22) <| .w 8 .leq <| .nil ?_
  refine .cd (fun C0 => ?_) (fun C0 => ?_)
  · --
    refine .seq <| .r <| .w 9 .mvS <| .w 10 .mvI <| .w 11 .mvI <| .w 12 (.slhm n n T.el22 T.sz5) <| .w 4 .asS <| .nil ?_
    refine .ret ⟨.slice a n n, Res.one rfl rfl, ⟨a, n, by rw [longN_len], long_cut ok (by omega)⟩⟩
  refine .skip <| .seq <| .r <| .w 13 .mvS <| .w 14 .mvI <| .w 15 .mvS <| .w 16 (.len T.el22) <| .w 17 .sub <| .a' 18 (.apz (z := ((n : Int) - (l.length : Int))) (n - l.length) T.el22 T.in3 T.sz5 T.by5 T.zr5 ok (by omega) (by omega)) ?_
  rintro _ η1 ⟨ya1, yc1, rfl, ok⟩
  refine .w 4 .asS <| .nil ?_
  refine .ret ⟨.slice ya1 ((l ++ List.replicate (n - l.length) 0).length) yc1, Res.one rfl rfl, ⟨_, _, by rw [longN_ge (by omega)], by rw [longN_ge (by omega)]; exact ok⟩⟩

theorem done0 {pos : Nat} {bl l : List UInt8} {here : Bool} : doneN ⟨0, pos, bl⟩ l here = (patchN (longN l (max l.length (pos + bl.length))) pos bl, true) := by simp [doneN]
theorem done1 {pos : Nat} {bl l : List UInt8} : doneN ⟨1, pos, bl⟩ l true = (longN l pos, true) := by simp [doneN]
theorem done2 {kind pos : Nat} {bl l : List UInt8} {here : Bool} (h1 : kind ≠ 0) (h2 : kind = 1 → here = false) : doneN ⟨kind, pos, bl⟩ l here = ([], false) := by
  unfold doneN
  rw [if_neg h1, if_neg]
  rintro ⟨h3, h4⟩
  simp only at h3
  rw [h2 h3] at h4; cases h4
theorem spl_patch {o b : List UInt8} {p : Nat} : spl (o.map bv) (p * 1) (b.map bv) = (patchN o p b).map bv := by simp [spl, patchN]

set_option maxRecDepth 100000 in
set_option maxHeartbeats 2000000 in
theorem done_any {h : Heap} {F E F2 E2 : Nat → Prop} {kind pos : Nat} {ba a : Option Addr} {bc c : Nat} {bl l : List UInt8} {here : Bool} (hb : RdL h F2 E2 (ba, bl.length, bc) bl) (hl : RdL h F E (a, l.length, c) l) (hp : pos + bl.length ≤ 16777216) (hL : l.length ≤ 16777216) :
    HC Try.prog 84 #[.agg #[.int .i64 (kind : Int), .int .i64 (pos : Int), .slice ba bl.length bc], .slice a l.length c, .bool here] h (fun v h' => ∃ w, v = .tuple #[w, .bool (doneN ⟨kind, pos, bl⟩ l here).2] ∧ Own h h' 1 5 w ((doneN ⟨kind, pos, bl⟩ l here).1.map bv)) := by
  have ok := ((Hp.nil h none_).arg hb).arg hl
  refine HC.go Try.func84 45 ?_
  refine .seq <| .r <| .a' 3 (.bxA (cs := [.int .i64 (kind : Int), .int .i64 (pos : Int), .slice ba bl.length bc]) ok) ?_
  rintro _ η1 ⟨pb1, rfl, ok, xe⟩
  refine .w 6 .asS <| .w 7 .asB <| .nil ?_
  refine .seq <| .block fun K0 hK0 => .seq <| .r <| .w 10 (.fa T.fd117_0) <| .w 11 (.ldx T.ag3 ok.m0) <| .w 12 .eql <| .w 9 .asB <| .nil ?_
  refine .cd (fun C0 => ?_) (fun C0 => ?_)
  · --
    refine .seq <| .a 13 (fun fl hh => Hp h none_ [boxI pb1 117 [.int .i64 (kind : Int), .int .i64 (pos : Int), .slice ba bl.length bc]] [rdI (fun j => F j ∧ j < h.size) (fun j => E j ∧ j < h.size) (a, l.length, c) l, rdI (fun j => F2 j ∧ j < h.size) (fun j => E2 j ∧ j < h.size) (ba, bl.length, bc) bl] hh) mixed ?_
    have hS := ok
    refine .g 0 false rfl 13 hS (fun _ => .mvS) <| .g 2 false rfl 15 hS (fun _ => .mvS) <| .g 3 false rfl 16 hS (fun _ => .len T.el22) <| .g 4 false rfl 17 hS (fun _ => .fa T.fd117_1) <| .lw 5 false rfl 18 hS (fun _ _ hS => .ldx T.ag3 hS.m0) <| .g 6 false rfl 19 hS (fun _ => .fa T.fd117_2) <| .lw 7 false rfl 20 hS (fun _ _ hS => .ldx T.ag22 hS.m0) <| .g 8 false rfl 21 hS (fun _ => .len T.el22) <| .g 9 false rfl 22 hS (fun _ => .addI) <| .g 10 false rfl 23 hS (fun _ => .maxn) <| .o1 1 <| .c' false rfl 14 .func (bclone_any (a := a) (c := c) (l := l) ok.r0 (by omega)) ?_
    rintro _ η2 own
    obtain ⟨ya1, yc1, rfl⟩ := own.formB
    have ok := ok.own own
    refine ⟨ok.n1.k1, ?_⟩
    have hS := ok.n1.k1
    refine .o1 11 <| .c' false rfl 24 .func (long_any (n := (max l.length (pos + bl.length))) (ok).loc0 (by omega) (by omega)) ?_
    rintro _ η3 ⟨ya2, yc2, rfl, q⟩
    have ok := (ok).lift1 q
    refine ⟨ok.n1.k1, ?_⟩
    have hS := ok.n1.k1
    refine .g 12 false rfl 8 hS (fun _ => .asS) <| .e ?_
    refine .seq <| .t 6 mixed ?_
    simp only [List.take_succ_cons, List.take_zero, List.drop_succ_cons, List.drop_zero]
    refine .w 25 .mvS <| .w 26 (.fa T.fd117_1) <| .w 27 (.ldx T.ag3 ok.m1) <| .w 28 (.sll pos T.el22 T.sz5 (hb := by rw [longN_len]; omega)) <| .w 29 (.fa T.fd117_2) <| .w 30 (.ldx T.ag22 ok.m1) <| .nil ?_
    refine .a' 31 (.cpyA (n := (longN l (max l.length (pos + bl.length))).length) (ys := bl.map bv) (m := bl.length) pos T.el22 T.sz5 ok ok.r1.by bv_all rfl (him := by rw [longN_len]; omega)) ?_
    rintro _ η4 ⟨rfl, ok, cg⟩
    refine .nil ?_
    refine .seq <| .r <| .w 32 .mvS <| .w 6 .asS <| .w 7 .asB <| .nil ?_
    refine .ret ⟨.tuple #[.slice ya2 ((longN l (max l.length (pos + bl.length))).length) yc2, .bool true], Res.two rfl rfl rfl, ⟨_, by rw [show kind = 0 from by omega, done0], by rw [show kind = 0 from by omega, done0]; have ok := (ok).cx spl_patch; exact ok.toOwn⟩⟩
  refine .seq <| .r <| .w 34 (.fa T.fd117_0) <| .w 35 (.ldx T.ag3 ok.m0) <| .w 36 .eql <| .w 37 .mvB <| .sd (fun G37 => ?_) (fun G37 => ?_)
  ·
    refine .w 38 .mvB <| .w 39 .pkt <| .w 33 .asB <| .nil ?_
    refine .cond (fun C1 => ?_) (fun C1 => ?_)
    · --
      refine .seq <| .a 4 (fun fl hh => cond fl True (Hp h none_ [boxI pb1 117 [.int .i64 (kind : Int), .int .i64 (pos : Int), .slice ba bl.length bc]] [rdI (fun j => F j ∧ j < h.size) (fun j => E j ∧ j < h.size) (a, l.length, c) l, rdI (fun j => F2 j ∧ j < h.size) (fun j => E2 j ∧ j < h.size) (ba, bl.length, bc) bl] hh)) mixed ?_
      have hS := ok
      refine .g 0 false rfl 40 hS (fun _ => .mvS) <| .g 2 false rfl 42 hS (fun _ => .fa T.fd117_1) <| .l 3 false rfl 43 hS (fun _ hS => .ldx T.ag3 hS.m0) <| .o1 1 <| .c' false rfl 41 .func (bclone_any (a := a) (c := c) (l := l) ok.r0 (by omega)) ?_
      rintro _ η5 own
      obtain ⟨ya3, yc3, rfl⟩ := own.formB
      have ok := ok.own own
      refine ⟨ok.n1.k1, ?_⟩
      have hS := ok.n1.k1
      refine .o1 4 <| .c' true rfl 44 .func (long_any (n := pos) (ok).loc0 (by omega) (by omega)) ?_
      rintro _ η6 ⟨ya4, yc4, rfl, q⟩
      have ok := (ok).lift1 q
      refine ⟨trivial, ?_⟩
      refine .g 5 true rfl 6 trivial (fun _ => .asS) <| .g 6 true rfl 7 trivial (fun _ => .asB) <| .e ?_
      refine .ret ⟨.tuple #[.slice ya4 ((longN l pos).length) yc4, .bool true], Res.two rfl rfl rfl, ⟨_, by rw [show kind = 1 from by omega, C1, done1], by rw [show kind = 1 from by omega, C1, done1]; exact (ok).toOwn⟩⟩
    refine .skip <| .end <| hK0 _ _ <| .seq <| .r <| .w 6 .asS <| .w 7 .asB <| .nil ?_
    refine .ret ⟨.tuple #[.slice none 0 0, .bool false], Res.two rfl rfl rfl, ⟨_, by rw [done2 (by omega) (by intro h1; first | exact absurd h1 (by omega) | simpa using C1)], by rw [done2 (by omega) (by intro h1; first | exact absurd h1 (by omega) | simpa using C1)]; exact ok.tM.nilC.toOwn⟩⟩
  refine .x 38 <| .w 39 .pkf <| .w 33 .asB <| .nil ?_
  refine .cf <| .skip <| .end <| hK0 _ _ <| .seq <| .r <| .w 6 .asS <| .w 7 .asB <| .nil ?_
  refine .ret ⟨.tuple #[.slice none 0 0, .bool false], Res.two rfl rfl rfl, ⟨_, by rw [done2 (by omega) (by intro h1; first | exact absurd h1 (by omega) | simpa using C1)], by rw [done2 (by omega) (by intro h1; first | exact absurd h1 (by omega) | simpa using C1)]; exact ok.tM.nilC.toOwn⟩⟩

theorem kept0 {kind pos k : Nat} {bl : List UInt8} (h : kind ≠ 0) : keptN ⟨kind, pos, bl⟩ k = (⟨kind, pos, bl⟩, decide (128 ≤ k)) := by simp [keptN, h]
theorem kept1 {kind pos k : Nat} {bl : List UInt8} (h : kind = 0) (hk : k ≠ 255) : keptN ⟨kind, pos, bl⟩ k = (⟨kind, pos, bl.take (bl.length * k / 255)⟩, decide (k ≠ 0)) := by simp [keptN, h, hk]
theorem kept2 {kind pos k : Nat} {bl : List UInt8} (h : kind = 0) (hk : k = 255) : keptN ⟨kind, pos, bl⟩ k = (⟨kind, pos, bl⟩, decide (k ≠ 0)) := by simp [keptN, h, hk]

set_option maxRecDepth 100000 in
set_option maxHeartbeats 2000000 in
theorem kept_any {h : Heap} {kind pos k : Nat} {ba : Option Addr} {bc : Nat} {bl : List UInt8} (hL : bl.length ≤ 16777216) (hbc : bl.length ≤ bc) (hk : k < 256) :
    HC Try.prog 83 #[.agg #[.int .i64 (kind : Int), .int .i64 (pos : Int), .slice ba bl.length bc], .int .u8 (k : Int)] h (fun v h' => v = .tuple #[.agg #[.int .i64 ((keptN ⟨kind, pos, bl⟩ k).1.kind : Int), .int .i64 ((keptN ⟨kind, pos, bl⟩ k).1.pos : Int), .slice ba (keptN ⟨kind, pos, bl⟩ k).1.b.length bc], .bool (keptN ⟨kind, pos, bl⟩ k).2] ∧ Ext h h') := by
  have ok := Hp.nil h none_
  have hm : bl.length * k ≤ 16777216 * 255 := Nat.mul_le_mul hL (by omega)
  have hq : bl.length * k / 255 ≤ bl.length := by
    have : bl.length * k ≤ bl.length * 255 := Nat.mul_le_mul_left _ (by omega)
    omega
  refine HC.go Try.func83 28 ?_
  refine .seq <| .r <| .a' 2 (.bxA (cs := [.int .i64 (kind : Int), .int .i64 (pos : Int), .slice ba bl.length bc]) ok) ?_
  rintro _ η1 ⟨pb1, rfl, ok, xe⟩
  refine .a' 4 (.alA T.zr117 ok) ?_
  rintro _ η2 ⟨pb2, rfl, ok, xe⟩
  refine .w 5 .asB <| .nil ?_
  refine .seq <| .seq <| .r <| .w 6 (.fa T.fd117_0) <| .w 7 (.ldx T.ag3 ok.m1) <| .w 8 .neq <| .nil ?_
  refine .cd (fun C0 => ?_) (fun C0 => ?_)
  · --
    refine .seq <| .r <| .w 9 (.ldb T.ag117 ok.m1 T.sz117) <| .w 10 .mvI <| .w 11 .geq <| .ur' (.stW (vs := [.int .i64 (kind : Int), .int .i64 (pos : Int), .slice ba bl.length bc]) T.sz117 ok (oneL rfl)) ?_
    rintro η3 ⟨ok, cg⟩
    refine .w 5 .asB <| .nil ?_
    refine .ret ⟨.tuple #[.agg #[.int .i64 (kind : Int), .int .i64 (pos : Int), .slice ba bl.length bc], .bool (decide (128 ≤ (k : Int)))], Res.many (vs := [.agg #[.int .i64 (kind : Int), .int .i64 (pos : Int), .slice ba bl.length bc], .bool (decide (128 ≤ (k : Int)))]) rfl ⟨⟨_, rfl, load_ag T.ag117 ok.m0 T.sz117⟩, rfl, trivial⟩ rfl, ⟨(by rw [kept0 (by omega)]; refine congrArg (fun b => Value.tuple #[_, Value.bool b]) ?_; exact decide_eq_decide.2 (by omega)), ok.chg⟩⟩
  refine .skip <| .seq <| .seq <| .r <| .w 12 .mvI <| .w 13 .neq <| .nil ?_
  refine .cd (fun C1 => ?_) (fun C1 => ?_)
  · --
    refine .r <| .w 14 (.fa T.fd117_2) <| .w 15 (.ldx T.ag22 ok.m1) <| .w 16 (.fa T.fd117_2) <| .w 17 (.ldx T.ag22 ok.m1) <| .w 18 (.len T.el22) <| .w 19 .mvI <| .w 20 (.cvi T.in3 T.in5) <| .w 21 (.mulI (hr := (by omega))) <| .w 22 .quo <| .w 23 (.sl_h (bl.length * k / 255) T.el22 T.sz5) <| .w 24 (.fa T.fd117_2) <| .ur' (.stS T.sz22 ok.n1) ?_
    rintro η4 ⟨ok, cg⟩
    refine .nil ?_
    refine .seq <| .r <| .w 25 (.ldb T.ag117 ok.m0 T.sz117) <| .w 26 .mvI <| .w 27 .neq <| .ur' (.stW (vs := [.int .i64 (kind : Int), .int .i64 (pos : Int), .slice ba (bl.length * k / 255) bc]) T.sz117 ok.n1 (oneL rfl)) ?_
    rintro η5 ⟨ok, cg⟩
    refine .w 5 .asB <| .nil ?_
    refine .ret ⟨.tuple #[.agg #[.int .i64 (kind : Int), .int .i64 (pos : Int), .slice ba (bl.length * k / 255) bc], .bool (decide ((k : Int) ≠ 0))], Res.many (vs := [.agg #[.int .i64 (kind : Int), .int .i64 (pos : Int), .slice ba (bl.length * k / 255) bc], .bool (decide ((k : Int) ≠ 0))]) rfl ⟨⟨_, rfl, load_ag T.ag117 ok.m0 T.sz117⟩, rfl, trivial⟩ rfl, ⟨(by rw [kept1 (by omega) (by omega)]; simp only [List.length_take, Nat.min_eq_left hq]; refine congrArg (fun b => Value.tuple #[_, Value.bool b]) ?_; exact decide_eq_decide.2 (by omega)), ok.chg⟩⟩
  refine .skip <| .seq <| .r <| .w 25 (.ldb T.ag117 ok.m1 T.sz117) <| .w 26 .mvI <| .w 27 .neq <| .ur' (.stW (vs := [.int .i64 (kind : Int), .int .i64 (pos : Int), .slice ba bl.length bc]) T.sz117 ok (oneL rfl)) ?_
  rintro η6 ⟨ok, cg⟩
  refine .w 5 .asB <| .nil ?_
  refine .ret ⟨.tuple #[.agg #[.int .i64 (kind : Int), .int .i64 (pos : Int), .slice ba bl.length bc], .bool (decide ((k : Int) ≠ 0))], Res.many (vs := [.agg #[.int .i64 (kind : Int), .int .i64 (pos : Int), .slice ba bl.length bc], .bool (decide ((k : Int) ≠ 0))]) rfl ⟨⟨_, rfl, load_ag T.ag117 ok.m0 T.sz117⟩, rfl, trivial⟩ rfl, ⟨(by rw [kept2 (by omega) (by omega)]; refine congrArg (fun b => Value.tuple #[_, Value.bool b]) ?_; exact decide_eq_decide.2 (by omega)), ok.chg⟩⟩

end Go.Proofs.Ytpebbkhainpfaaa
