/- The reader of a log: number, head. Conditions: the bytes are readable and no part of the reader. -/
import Derived.Test.YtpebbkhainpfaaaWfImp2
namespace Go.Proofs.Ytpebbkhainpfaaa
open Go Go.HL

set_option maxRecDepth 100000 in
set_option maxHeartbeats 2000000 in
theorem number_any {h : Heap} {F E : Nat → Prop} {r p k c : Nat} {a : Option Addr} {l : List UInt8} {v1 v2 v3 v4 : Value} (hl : RdL h F E (a, l.length, c) l) (hb : (boxI r 92 [.slice a l.length c, v1, v2, v3, v4]).p h) (h1 : 1 ≤ k) (h8 : k ≤ 8) (hp : p + k ≤ l.length) :
    HC Try.prog 88 #[.pointer (some ⟨r, 0, none⟩), .int .i64 (p : Int), .int .i64 (k : Int)] h (fun v h' => v = .int .u64 ((rdN l p k : Nat) : Int) ∧ h' = h) := by
  have hc2 := hl.m
  have hc1 : l.length ≤ c := hl.c
  simp only at hc2
  refine HC.go Try.func88 20 ?_
  refine .seq <| .r <| .w 6 .asI <| .nil ?_
  refine .seq <| .r <| .w 10 .mvP <| .w 11 .nil <| .w 12 (.fa T.fd92_0) <| .w 13 (.ldx T.ag22 hb) <| .w 14 .mvI <| .w 15 .mvI <| .k 16 .func (read_any (p := p) (size := k) (a := a) (c := c) (l := l) hl (by omega) (by omega) (by omega)) <| .w 9 .mvU <| .w 17 .ex <| .w 18 .ex <| .w 7 .asI <| .w 8 .asI <| .nil ?_
  refine .seq <| .r <| .w 19 .mvI <| .w 6 .asI <| .nil ?_
  refine .ret ⟨.int .u64 (((rdN l p k) : Nat) : Int), Res.one rfl rfl, ⟨rfl, rfl⟩⟩

set_option maxRecDepth 100000 in
set_option maxHeartbeats 2000000 in
theorem equal_any {h : Heap} {F E F' E' : Nat → Prop} {a b : Option Addr} {c d : Nat} {l l2 : List UInt8} (hl : RdL h F E (a, l.length, c) l) (hm : RdL h F' E' (b, l2.length, d) l2) :
    HC Try.prog 89 #[.slice a l.length c, .slice b l2.length d] h (fun v h' => v = .bool (decide (l = l2)) ∧ h' = h) := by
  refine HC.go Try.func89 10 ?_
  refine .seq <| .r <| .w 4 .asB <| .nil ?_
  refine .seq <| .r <| .w 5 .mvS <| .w 6 (.bts T.el22 T.in5 T.st9 (hl).by) <| .w 7 .mvS <| .w 8 (.bts T.el22 T.in5 T.st9 (hm).by) <| .w 9 .tEq <| .w 4 .asB <| .nil ?_
  refine .ret ⟨.bool ((BA l).toList == (BA l2).toList), Res.one rfl rfl, ⟨by rw [tolist_eq], rfl⟩⟩

set_option maxRecDepth 100000 in
set_option maxHeartbeats 2000000 in
theorem head_short {h : Heap} {F E : Nat → Prop} {r c : Nat} {a : Option Addr} {l : List UInt8} (hl : RdL h F E (a, l.length, c) l) (hb : (boxI r 92 [.slice a l.length c, .int .i64 0, .int .i64 0, .int .u64 0, .int .u64 0]).p h) (hd : ∀ j, F j ∨ E j → j ≠ r) (h20 : l.length < 20) :
    HC Try.prog 47 #[.pointer (some ⟨r, 0, none⟩)] h (fun v h' => v = .int .i64 6 ∧ ∃ cs, Chg (fun j => j = r) h h' ∧ (boxI r 92 cs).p h') := by
  have hc2 := hl.m
  have hc1 : l.length ≤ c := hl.c
  simp only at hc2
  have ok := ((Hp.nil h (fun j => j = r)).arg hl).obj (boxI r 92 [.slice a l.length c, .int .i64 0, .int .i64 0, .int .u64 0, .int .u64 0]) hb (fun j e => ⟨e ▸ block_lt hb, e⟩) (by simp) (by
    intro b hm j e hj
    rcases List.mem_cons.1 hm with rfl | hm
    · exact hd j (hj.imp And.left And.left) e
    · cases hm)
  have h8 := rdN_lt8 l 8
  have h4 := rdN_lt4 l 4
  refine HC.go Try.func47 60 ?_
  refine .seq <| .r <| .w 2 .asI <| .nil ?_
  refine .seq <| .seq <| .r <| .w 6 .mvP <| .w 7 .nil <| .w 8 (.fa T.fd92_0) <| .w 9 (.ldx T.ag22 ok.m0) <| .w 10 (.len T.el22) <| .w 11 .lss <| .nil ?_
  refine .cd (fun C0 => ?_) (fun C0 => ?_)
  · --
    refine .seq <| .r <| .w 2 .asI <| .nil ?_
    refine .ret ⟨.int .i64 6, Res.one rfl rfl, ⟨rfl, _, ok.chg, ok.m0⟩⟩
  omega

set_option maxRecDepth 100000 in
set_option maxHeartbeats 2000000 in
theorem head_form1 {h : Heap} {F E : Nat → Prop} {r c : Nat} {a : Option Addr} {l : List UInt8} (hl : RdL h F E (a, l.length, c) l) (hb : (boxI r 92 [.slice a l.length c, .int .i64 0, .int .i64 0, .int .u64 0, .int .u64 0]).p h) (hd : ∀ j, F j ∨ E j → j ≠ r) (h20 : 20 ≤ l.length) (hk : okZ ((rdN l 4 4 : Nat) : Int) = false) :
    HC Try.prog 47 #[.pointer (some ⟨r, 0, none⟩)] h (fun v h' => v = .int .i64 8 ∧ ∃ cs, Chg (fun j => j = r) h h' ∧ (boxI r 92 cs).p h') := by
  have hc2 := hl.m
  have hc1 : l.length ≤ c := hl.c
  simp only at hc2
  have ok := ((Hp.nil h (fun j => j = r)).arg hl).obj (boxI r 92 [.slice a l.length c, .int .i64 0, .int .i64 0, .int .u64 0, .int .u64 0]) hb (fun j e => ⟨e ▸ block_lt hb, e⟩) (by simp) (by
    intro b hm j e hj
    rcases List.mem_cons.1 hm with rfl | hm
    · exact hd j (hj.imp And.left And.left) e
    · cases hm)
  have h8 := rdN_lt8 l 8
  have h4 := rdN_lt4 l 4
  refine HC.go Try.func47 60 ?_
  refine .seq <| .r <| .w 2 .asI <| .nil ?_
  refine .seq <| .seq <| .r <| .w 6 .mvP <| .w 7 .nil <| .w 8 (.fa T.fd92_0) <| .w 9 (.ldx T.ag22 ok.m0) <| .w 10 (.len T.el22) <| .w 11 .lss <| .nil ?_
  refine .cd (fun C0 => ?_) (fun C0 => ?_)
  · --
    omega
  refine .skip <| .seq <| .r <| .w 12 .mvP <| .w 13 .nil <| .w 14 (.fa T.fd92_0) <| .w 15 (.ldx T.ag22 ok.m0) <| .w 16 (.sl_h ((l.take 20).length) T.el22 T.sz5 (hb := by (simp; omega))) <| ?_
  have ok := ok.d0 (rdI (fun j => F j ∧ j < h.size) (fun j => E j ∧ j < h.size) (a, (l.take 20).length, c) (l.take 20)) ((ok.r0).pre (l2 := l.take 20) (List.take_prefix _ _)) (fun _ h => h)
  refine .w 3 .asS <| .nil ?_
  refine .seq <| .r <| .w 17 .mvP <| .w 18 .mvP <| .w 19 .mvP <| .k 20 .func (number_any (p := 4) (k := 4) (l := l) ok.r1 ok.m0 (by omega) (by omega) (by omega)) <| .w 21 (.cvi T.in3 T.in25) <| .w 22 .mvP <| .k 23 .func (number_any (p := 8) (k := 8) (l := l) ok.r1 ok.m0 (by omega) (by omega) (by omega)) <| .w 24 .nil <| .w 25 (.fa T.fd92_2) <| .ur' (.stI T.sz3 ok) ?_
  rintro η1 ⟨ok, cg⟩
  refine .w 26 .nil <| .w 27 (.fa T.fd92_4) <| .ur' (.stI T.sz25 ok) ?_
  rintro η2 ⟨ok, cg⟩
  refine .nil ?_
  refine .seq <| .q (hm := mixed) <| .w 29 .mvP <| .w 30 .nil <| .w 31 (.fa T.fd92_2) <| .w 32 (.ldx T.ag3 ok.m0) <| .w 33 .mvP <| .w 34 .nil <| .w 35 (.fa T.fd92_4) <| .w 36 (.ldx T.ag25 ok.m0) <| .k 37 .func (start_bad (z := (((rdN l 4 4) : Nat) : Int)) (salt := (rdN l 8 8)) (by omega) (by assumption)) <| .w 28 .mvU <| .w 38 .ex <| .w 39 .ex <| .w 4 .asS <| .w 5 .asI <| .nil ?_
  refine .seq <| .seq <| .r <| .w 40 .mvI <| .w 41 .neq <| .w 42 .mvB <| .sd (fun G42 => ?_) (fun G42 => ?_)
  ·
    refine .x 43 <| .x 44 <| .x 45 <| .x 46 <| .w 47 .pkt <| .nil ?_
    refine .ct <| .seq <| .r <| .w 2 .asI <| .nil ?_
    refine .ret ⟨.int .i64 8, Res.one rfl rfl, ⟨rfl, _, ok.chg, ok.m0⟩⟩
  omega

set_option maxRecDepth 100000 in
set_option maxHeartbeats 2000000 in
theorem head_form2 {h : Heap} {F E : Nat → Prop} {r c : Nat} {a : Option Addr} {l : List UInt8} (hl : RdL h F E (a, l.length, c) l) (hb : (boxI r 92 [.slice a l.length c, .int .i64 0, .int .i64 0, .int .u64 0, .int .u64 0]).p h) (hd : ∀ j, F j ∨ E j → j ≠ r) (h20 : 20 ≤ l.length) (hk : okZ ((rdN l 4 4 : Nat) : Int) = true) (hh : headN (rdN l 4 4) (rdN l 8 8) ≠ l.take 20) :
    HC Try.prog 47 #[.pointer (some ⟨r, 0, none⟩)] h (fun v h' => v = .int .i64 8 ∧ ∃ cs, Chg (fun j => j = r) h h' ∧ (boxI r 92 cs).p h') := by
  have hc2 := hl.m
  have hc1 : l.length ≤ c := hl.c
  simp only at hc2
  have ok := ((Hp.nil h (fun j => j = r)).arg hl).obj (boxI r 92 [.slice a l.length c, .int .i64 0, .int .i64 0, .int .u64 0, .int .u64 0]) hb (fun j e => ⟨e ▸ block_lt hb, e⟩) (by simp) (by
    intro b hm j e hj
    rcases List.mem_cons.1 hm with rfl | hm
    · exact hd j (hj.imp And.left And.left) e
    · cases hm)
  have h8 := rdN_lt8 l 8
  have h4 := rdN_lt4 l 4
  refine HC.go Try.func47 60 ?_
  refine .seq <| .r <| .w 2 .asI <| .nil ?_
  refine .seq <| .seq <| .r <| .w 6 .mvP <| .w 7 .nil <| .w 8 (.fa T.fd92_0) <| .w 9 (.ldx T.ag22 ok.m0) <| .w 10 (.len T.el22) <| .w 11 .lss <| .nil ?_
  refine .cd (fun C0 => ?_) (fun C0 => ?_)
  · --
    omega
  refine .skip <| .seq <| .r <| .w 12 .mvP <| .w 13 .nil <| .w 14 (.fa T.fd92_0) <| .w 15 (.ldx T.ag22 ok.m0) <| .w 16 (.sl_h ((l.take 20).length) T.el22 T.sz5 (hb := by (simp; omega))) <| ?_
  have ok := ok.d0 (rdI (fun j => F j ∧ j < h.size) (fun j => E j ∧ j < h.size) (a, (l.take 20).length, c) (l.take 20)) ((ok.r0).pre (l2 := l.take 20) (List.take_prefix _ _)) (fun _ h => h)
  refine .w 3 .asS <| .nil ?_
  refine .seq <| .r <| .w 17 .mvP <| .w 18 .mvP <| .w 19 .mvP <| .k 20 .func (number_any (p := 4) (k := 4) (l := l) ok.r1 ok.m0 (by omega) (by omega) (by omega)) <| .w 21 (.cvi T.in3 T.in25) <| .w 22 .mvP <| .k 23 .func (number_any (p := 8) (k := 8) (l := l) ok.r1 ok.m0 (by omega) (by omega) (by omega)) <| .w 24 .nil <| .w 25 (.fa T.fd92_2) <| .ur' (.stI T.sz3 ok) ?_
  rintro η1 ⟨ok, cg⟩
  refine .w 26 .nil <| .w 27 (.fa T.fd92_4) <| .ur' (.stI T.sz25 ok) ?_
  rintro η2 ⟨ok, cg⟩
  refine .nil ?_
  refine .seq <| .a 8 (fun fl hh => cond fl True (Hp h (fun j => j = r) [boxI r 92 [.slice a l.length c, .int .i64 0, .int .i64 (((rdN l 4 4) : Nat) : Int), .int .u64 0, .int .u64 (((rdN l 8 8) : Nat) : Int)]] [rdI (fun j => F j ∧ j < h.size) (fun j => E j ∧ j < h.size) (a, (l.take 20).length, c) (l.take 20), rdI (fun j => F j ∧ j < h.size) (fun j => E j ∧ j < h.size) (a, l.length, c) l] hh)) mixed ?_
  have hS := ok
  refine .g 0 false rfl 29 hS (fun _ => .mvP) <| .g 1 false rfl 30 hS (fun _ => .nil) <| .g 2 false rfl 31 hS (fun _ => .fa T.fd92_2) <| .l 3 false rfl 32 hS (fun _ hS => .ldx T.ag3 hS.m0) <| .g 4 false rfl 33 hS (fun _ => .mvP) <| .g 5 false rfl 34 hS (fun _ => .nil) <| .g 6 false rfl 35 hS (fun _ => .fa T.fd92_4) <| .l 7 false rfl 36 hS (fun _ hS => .ldx T.ag25 hS.m0) <| .o1 8 <| .c' true rfl 37 .func (start_ok (n := (rdN l 4 4)) (salt := (rdN l 8 8)) (by omega) (by omega) (by assumption)) ?_
  rintro _ η3 ⟨yw1, rfl, own⟩
  obtain ⟨ya1, yc1, rfl⟩ := own.formB
  have ok := ok.own own
  refine ⟨trivial, ?_⟩
  refine .g 9 true rfl 28 trivial (fun _ => .mvU) <| .g 10 true rfl 38 trivial (fun _ => .ex) <| .g 11 true rfl 39 trivial (fun _ => .ex) <| .g 12 true rfl 4 trivial (fun _ => .asS) <| .g 13 true rfl 5 trivial (fun _ => .asI) <| .e ?_
  refine .seq <| .seq <| .r <| .w 40 .mvI <| .w 41 .neq <| .w 42 .mvB <| .sd (fun G42 => ?_) (fun G42 => ?_)
  ·
    omega
  refine .w 43 .mvS <| .w 44 .mvS <| .k 45 .func (equal_any (a := ya1) (c := yc1) (l := (headN (rdN l 4 4) (rdN l 8 8))) (b := a) (d := c) (l2 := l.take 20) (RdL.ofCapB (v := (ya1, (headN (rdN l 4 4) (rdN l 8 8)).length, yc1)) (l := (headN (rdN l 4 4) (rdN l 8 8))) ok.m0) ok.r0) <| .w 46 .notd <| .w 47 .pkf <| .nil ?_
  refine .cd (fun C1 => ?_) (fun C1 => ?_)
  · --
    refine .seq <| .r <| .w 2 .asI <| .nil ?_
    refine .ret ⟨.int .i64 8, Res.one rfl rfl, ⟨rfl, _, ok.chg, ok.m1⟩⟩
  exact absurd C1 (by simpa using hh)

set_option maxRecDepth 100000 in
set_option maxHeartbeats 2000000 in
theorem head_ok {h : Heap} {F E : Nat → Prop} {r c : Nat} {a : Option Addr} {l : List UInt8} (hl : RdL h F E (a, l.length, c) l) (hb : (boxI r 92 [.slice a l.length c, .int .i64 0, .int .i64 0, .int .u64 0, .int .u64 0]).p h) (hd : ∀ j, F j ∨ E j → j ≠ r) (h20 : 20 ≤ l.length) (hk : okZ ((rdN l 4 4 : Nat) : Int) = true) (hh : headN (rdN l 4 4) (rdN l 8 8) = l.take 20) :
    HC Try.prog 47 #[.pointer (some ⟨r, 0, none⟩)] h (fun v h' => v = .int .i64 0 ∧ Chg (fun j => j = r) h h' ∧ (boxI r 92 [.slice a l.length c, .int .i64 20, .int .i64 ((rdN l 4 4 : Nat) : Int), .int .u64 ((firstN l : Nat) : Int), .int .u64 ((rdN l 8 8 : Nat) : Int)]).p h') := by
  have hc2 := hl.m
  have hc1 : l.length ≤ c := hl.c
  simp only at hc2
  have ok := ((Hp.nil h (fun j => j = r)).arg hl).obj (boxI r 92 [.slice a l.length c, .int .i64 0, .int .i64 0, .int .u64 0, .int .u64 0]) hb (fun j e => ⟨e ▸ block_lt hb, e⟩) (by simp) (by
    intro b hm j e hj
    rcases List.mem_cons.1 hm with rfl | hm
    · exact hd j (hj.imp And.left And.left) e
    · cases hm)
  have h8 := rdN_lt8 l 8
  have h4 := rdN_lt4 l 4
  refine HC.go Try.func47 60 ?_
  refine .seq <| .r <| .w 2 .asI <| .nil ?_
  refine .seq <| .seq <| .r <| .w 6 .mvP <| .w 7 .nil <| .w 8 (.fa T.fd92_0) <| .w 9 (.ldx T.ag22 ok.m0) <| .w 10 (.len T.el22) <| .w 11 .lss <| .nil ?_
  refine .cd (fun C0 => ?_) (fun C0 => ?_)
  · --
    omega
  refine .skip <| .seq <| .r <| .w 12 .mvP <| .w 13 .nil <| .w 14 (.fa T.fd92_0) <| .w 15 (.ldx T.ag22 ok.m0) <| .w 16 (.sl_h ((l.take 20).length) T.el22 T.sz5 (hb := by (simp; omega))) <| ?_
  have ok := ok.d0 (rdI (fun j => F j ∧ j < h.size) (fun j => E j ∧ j < h.size) (a, (l.take 20).length, c) (l.take 20)) ((ok.r0).pre (l2 := l.take 20) (List.take_prefix _ _)) (fun _ h => h)
  refine .w 3 .asS <| .nil ?_
  refine .seq <| .r <| .w 17 .mvP <| .w 18 .mvP <| .w 19 .mvP <| .k 20 .func (number_any (p := 4) (k := 4) (l := l) ok.r1 ok.m0 (by omega) (by omega) (by omega)) <| .w 21 (.cvi T.in3 T.in25) <| .w 22 .mvP <| .k 23 .func (number_any (p := 8) (k := 8) (l := l) ok.r1 ok.m0 (by omega) (by omega) (by omega)) <| .w 24 .nil <| .w 25 (.fa T.fd92_2) <| .ur' (.stI T.sz3 ok) ?_
  rintro η1 ⟨ok, cg⟩
  refine .w 26 .nil <| .w 27 (.fa T.fd92_4) <| .ur' (.stI T.sz25 ok) ?_
  rintro η2 ⟨ok, cg⟩
  refine .nil ?_
  refine .seq <| .a 8 (fun fl hh => cond fl True (Hp h (fun j => j = r) [boxI r 92 [.slice a l.length c, .int .i64 0, .int .i64 (((rdN l 4 4) : Nat) : Int), .int .u64 0, .int .u64 (((rdN l 8 8) : Nat) : Int)]] [rdI (fun j => F j ∧ j < h.size) (fun j => E j ∧ j < h.size) (a, (l.take 20).length, c) (l.take 20), rdI (fun j => F j ∧ j < h.size) (fun j => E j ∧ j < h.size) (a, l.length, c) l] hh)) mixed ?_
  have hS := ok
  refine .g 0 false rfl 29 hS (fun _ => .mvP) <| .g 1 false rfl 30 hS (fun _ => .nil) <| .g 2 false rfl 31 hS (fun _ => .fa T.fd92_2) <| .l 3 false rfl 32 hS (fun _ hS => .ldx T.ag3 hS.m0) <| .g 4 false rfl 33 hS (fun _ => .mvP) <| .g 5 false rfl 34 hS (fun _ => .nil) <| .g 6 false rfl 35 hS (fun _ => .fa T.fd92_4) <| .l 7 false rfl 36 hS (fun _ hS => .ldx T.ag25 hS.m0) <| .o1 8 <| .c' true rfl 37 .func (start_ok (n := (rdN l 4 4)) (salt := (rdN l 8 8)) (by omega) (by omega) (by assumption)) ?_
  rintro _ η3 ⟨yw1, rfl, own⟩
  obtain ⟨ya1, yc1, rfl⟩ := own.formB
  have ok := ok.own own
  refine ⟨trivial, ?_⟩
  refine .g 9 true rfl 28 trivial (fun _ => .mvU) <| .g 10 true rfl 38 trivial (fun _ => .ex) <| .g 11 true rfl 39 trivial (fun _ => .ex) <| .g 12 true rfl 4 trivial (fun _ => .asS) <| .g 13 true rfl 5 trivial (fun _ => .asI) <| .e ?_
  refine .seq <| .seq <| .r <| .w 40 .mvI <| .w 41 .neq <| .w 42 .mvB <| .sd (fun G42 => ?_) (fun G42 => ?_)
  ·
    omega
  refine .w 43 .mvS <| .w 44 .mvS <| .k 45 .func (equal_any (a := ya1) (c := yc1) (l := (headN (rdN l 4 4) (rdN l 8 8))) (b := a) (d := c) (l2 := l.take 20) (RdL.ofCapB (v := (ya1, (headN (rdN l 4 4) (rdN l 8 8)).length, yc1)) (l := (headN (rdN l 4 4) (rdN l 8 8))) ok.m0) ok.r0) <| .w 46 .notd <| .w 47 .pkf <| .nil ?_
  refine .cd (fun C1 => ?_) (fun C1 => ?_)
  · --
    exact absurd C1 (by simpa using hh)
  refine .skip <| .seq <| .r <| .w 48 .mvP <| .w 49 .nil <| .w 50 (.fa T.fd92_1) <| .ur' (.stI T.sz3 ok.n1) ?_
  rintro η4 ⟨ok, cg⟩
  refine .nil ?_
  refine .seq <| .r <| .w 51 .mvP <| .w 52 .mvP <| .w 53 .nil <| .w 54 (.fa T.fd92_4) <| .w 55 (.ldx T.ag25 ok.m0) <| .w 56 .mvS <| .k 57 .func (next_any (by omega) (a := a) (c := c) (l := l.take 20) ok.r0) <| .w 58 .nil <| .w 59 (.fa T.fd92_3) <| .ur' (.stI T.sz25 ok) ?_
  rintro η5 ⟨ok, cg⟩
  refine .nil ?_
  refine .seq <| .r <| .w 2 .asI <| .nil ?_
  refine .ret ⟨.int .i64 0, Res.one rfl rfl, ⟨rfl, ok.chg, ok.m0⟩⟩

end Go.Proofs.Ytpebbkhainpfaaa
