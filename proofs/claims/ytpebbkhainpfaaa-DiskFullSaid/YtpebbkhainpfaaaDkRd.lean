/- A disk's calls: Read, Size, Dark, Changes, Cut, New, and the calls to no disk. Conditions: the disk is in order. -/
import Derived.Test.YtpebbkhainpfaaaDkCall
namespace Go.HL
open Go Go.Proofs.Ytpebbkhainpfaaa
theorem Hp.addE {h0 h h' : Heap} {D : Nat → Prop} {M R : List Itm} {a b : Itm} (ok : Hp h0 D M R h) (q : Hp h none_ [a] [b] h') (hb : ∀ j, b.F j → (∃ i ∈ R, i.F j) ∨ h.size ≤ j) : Hp h0 D (a :: M) (b :: R) h' := by
  have o := ok.newM (it := a) q.chg q.m0 fun j hj => by
    have h1 := (q.m _ List.mem_cons_self).2 j hj
    exact ⟨h1.2.elim (fun f => f.elim) id, h1.1⟩
  refine ⟨o.chg, o.m, fun i hi => ?_, o.mm, fun x hx y hy j hj hj2 => ?_⟩
  · rcases List.mem_cons.1 hi with rfl | hi
    · exact q.r _ List.mem_cons_self
    · exact o.r i hi
  · rcases List.mem_cons.1 hy with rfl | hy
    · rcases List.mem_cons.1 hx with rfl | hx
      · exact q.mr _ List.mem_cons_self _ List.mem_cons_self j hj hj2
      · rcases hb j hj2 with ⟨i, hi, h1⟩ | h1
        · exact ok.mr x hx i hi j hj h1
        · have := ((ok.m x hx).2 j hj).1
          omega
    · exact o.mr x hx y hy j hj hj2
end Go.HL
namespace Go.Proofs.Ytpebbkhainpfaaa
open Go Go.HL
theorem take_min {α : Type} (l : List α) (q : Nat) : l.take (min q l.length) = l.take q := by
  rw [List.take_eq_take_iff]; omega
theorem size_0 {r : RD} {n : List UInt8} (h : r.dark = true ∨ thereN r.abs n = false) : sizeN r.abs n = (0, false) := by unfold sizeN; rw [if_pos (by exact h)]
theorem size_1 {r : RD} {n : List UInt8} {f : RF} (h : ¬ r.dark = true) (hg : bget r.fs n = some f) (hh : f.here = true) : sizeN r.abs n = (f.nl.length, true) := by
  unfold sizeN; rw [if_neg]
  · simp [RD.abs, hg, RF.abs]
  · rintro (h1 | h1)
    · exact h h1
    · rw [there_f hg, hh] at h1; cases h1
theorem read_w {d : Dk} {n : List UInt8} {y z : Int} (h : ¬ (wrongN d n [y, z] : Int) = 0) : readN d n y z = ([], wrongN d n [y, z]) := by unfold readN; rw [if_pos (by omega)]
theorem read_n {r : RD} {n : List UInt8} {y z : Int} (h : wrongN r.abs n [y, z] = 0) (h1 : thereN r.abs n = false) : readN r.abs n y z = ([], 4) := by
  unfold readN thereN at *
  rw [if_neg (by omega)]
  cases hf : r.abs.fs n with
  | none => rfl
  | some f => rw [hf] at h1; simp only at h1 ⊢; rw [if_pos h1]
theorem read_f {r : RD} {n : List UInt8} {p q : Nat} {f : RF} (h : wrongN r.abs n [(p : Int), (q : Int)] = 0) (hg : bget r.fs n = some f) (hh : f.here = true) : readN r.abs n p q = ((f.nl.drop p).take q, 0) := by
  unfold readN
  rw [if_neg (by omega)]
  simp only [RD.abs, hg, Option.map_some]
  rw [if_neg (by show ¬ f.here = false; rw [hh]; decide)]
  rfl
def cutR (r : RD) (z : Int) : RD := if r.dark = true then r else ⟨r.m, r.fs, r.dark, max z (-1), r.chg⟩
theorem cutR_abs {r : RD} {z : Int} : (cutR r z).abs = cutN r.abs z := by
  unfold cutR cutN
  by_cases h : r.dark = true
  · rw [if_pos h, if_pos (by exact h)]
  · rw [if_neg h, if_neg (by exact h)]; rfl
theorem cutR_fs {r : RD} {z : Int} : (cutR r z).fs = r.fs := by unfold cutR; split <;> rfl
theorem flsNil {h0 h : Heap} {D : Nat → Prop} {M R : List Itm} (ok : Hp h0 D M R h) : Hp h0 D (flsI [] :: M) R h := Hp.star (l := []) ok

set_option maxRecDepth 100000 in
set_option maxHeartbeats 2000000 in
theorem size_anyD {h : Heap} {d : Nat} {r : RD} (hd : (dskI d r).p h) {n : List UInt8} :
    HC Try.prog 31 #[.pointer (some ⟨d, 0, none⟩), .string (BA n)] h (fun v h' => v = .tuple #[.int .i64 ((sizeN r.abs n).1 : Int), .bool (sizeN r.abs n).2] ∧ h' = h) := by
  obtain ⟨hd1, hd2, hd3, hd4⟩ := dsk_parts hd
  refine HC.go Try.func31 30 ?_
  refine .seq <| .r <| .w 4 .asI <| .w 5 .asB <| .nil ?_
  refine .seq <| .seq <| .r <| .w 6 .mvP <| .w 7 (.pEqS T.pt57) <| .w 8 .mvB <| .w 9 .mvP <| .w 10 .nil <| .w 11 (.fa T.fd113_1) <| .w 12 (.ldx T.ag4 hd1) <| .w 13 .pkf <| .w 14 .mvB <| .spl (fun G14 => ?_) (fun G14 => ?_)
  ·
    refine .x 15 <| .x 16 <| .x 17 <| .x 18 <| .w 19 .pkt <| .nil ?_
    refine .ct <| .seq <| .r <| .w 4 .asI <| .w 5 .asB <| .nil ?_
    refine .ret ⟨.tuple #[.int .i64 0, .bool false], Res.two rfl rfl rfl, ⟨by first | rw [size_0 (.inl (by assumption))]; rfl | rw [size_0 (.inr hnotf1)]; rfl, rfl⟩⟩
  refine .w 15 .mvP <| .w 16 .mvT <| .c' 17 .func (there_any (d := d) (r := r) (n := n) hd) ?_
  rintro _ _ ⟨(⟨hnotf1, rfl⟩ | ⟨tf1, hgtf1, hhtf1, rfl⟩), heq⟩
  · --
    obtain rfl := heq.symm
    refine .w 18 (.pEqN T.pt118) <| .w 19 .pkf <| .nil ?_
    refine .ct <| .seq <| .r <| .w 4 .asI <| .w 5 .asB <| .nil ?_
    refine .ret ⟨.tuple #[.int .i64 0, .bool false], Res.two rfl rfl rfl, ⟨by first | rw [size_0 (.inl (by assumption))]; rfl | rw [size_0 (.inr hnotf1)]; rfl, rfl⟩⟩
  obtain rfl := heq.symm
  refine .w 18 (.pEqS T.pt118) <| .w 19 .pkf <| .nil ?_
  refine .cf <| .skip <| .seq <| ?_
  have hfb := hd4 n tf1 hgtf1
  refine .r <| .w 20 .mvP <| .w 21 .nil <| .w 22 (.fa T.fd113_0) <| .w 23 (.ldx T.ag111 hd1) <| .w 24 .mvT <| .w 25 (.lk KV.ba n (v := .pointer (some ⟨tf1.blk, 0, none⟩)) T.mp111 (stB_iff T.st9) T.zr118 hd2 (by rw [ents_get, hgtf1]; rfl)) <| .w 26 .nil <| .w 27 (.fa T.fd122_0) <| .w 28 (.ldx T.ag22 hfb) <| .w 29 (.len T.el22) <| .w 4 .asI <| .w 5 .asB <| .nil ?_
  refine .ret ⟨.tuple #[.int .i64 (tf1.nl.length : Int), .bool true], Res.two rfl rfl rfl, ⟨by rw [size_1 (by intro h9; simp [h9] at *) hgtf1 hhtf1], rfl⟩⟩

set_option maxRecDepth 100000 in
set_option maxHeartbeats 2000000 in
theorem read_anyD {h : Heap} {d : Nat} {r : RD} {E : Nat → Prop} {n : List UInt8} {y z : Int} (ok : Hp h none_ [] [dskI d r, bysI E r.fs] h) (hk : DkOk r.abs) (hy : -9223372036854775808 ≤ y ∧ y ≤ 9223372036854775807) (hz : -9223372036854775808 ≤ z ∧ z ≤ 9223372036854775807) :
    HC Try.prog 45 #[.pointer (some ⟨d, 0, none⟩), .string (BA n), .int .i64 y, .int .i64 z] h (fun v h' => ∃ w, v = .tuple #[w, .int .i64 ((readN r.abs n y z).2 : Int)] ∧ Own h h' 1 5 w ((readN r.abs n y z).1.map bv)) := by
  refine HC.go Try.func45 53 ?_
  refine .seq <| .r <| .w 8 .asS <| .w 9 .asI <| .nil ?_
  refine .seq <| .seq <| .r <| .w 12 .mvP <| .w 13 .mvT <| .w 14 .mvI <| .w 15 .mvI <| .a' 16 (.lit [.tmp 14, .tmp 15] (cs := [.int .i64 y, .int .i64 z]) T.el101 T.sz3 T.zr3 ok ⟨rfl, rfl, trivial⟩) ?_
  rintro _ η1 ⟨pb1, rfl, ok, xe⟩
  refine .k 17 .func (wrong_any (d := d) (r := r) (n := n) (dsk_parts (ok.r0)).1 (a := some ⟨pb1, 0, none⟩) (c := 2) (l := [y, z]) (RdL.ofCapI ok.m0)) <| .w 10 .asI <| .nil ?_
  refine .seq <| .r <| .w 18 .mvI <| .w 19 .neq <| .nil ?_
  refine .cd (fun C0 => ?_) (fun C0 => ?_)
  · --
    refine .seq <| .r <| .w 20 .mvI <| .w 8 .asS <| .w 9 .asI <| .nil ?_
    refine .ret ⟨.tuple #[.slice none 0 0, .int .i64 (wrongN r.abs n [y, z] : Int)], Res.two rfl rfl rfl, ⟨_, (by rw [read_w C0] <;> rfl), by rw [read_w C0]; exact (ok.nilC (k := 1) (e := 5)).toOwn⟩⟩
  have hw0 : wrongN r.abs n [y, z] = 0 := by omega
  obtain ⟨p, rfl⟩ : ∃ p : Nat, y = (p : Int) := ⟨y.toNat, by have := (wrongN_ok hw0).2.2.1 y (by simp); omega⟩
  obtain ⟨q, rfl⟩ : ∃ q : Nat, z = (q : Int) := ⟨z.toNat, by have := (wrongN_ok hw0).2.2.1 z (by simp); omega⟩
  have ok := (ok).tM
  refine .skip <| .seq <| .r <| .w 21 .mvP <| .w 22 .mvT <| .c' 23 .func (there_any (d := d) (r := r) (n := n) (ok.r0)) ?_
  rintro _ _ ⟨(⟨hnotf1, rfl⟩ | ⟨tf1, hgtf1, hhtf1, rfl⟩), heq⟩
  · --
    obtain rfl := heq.symm
    refine .w 11 .asP <| .nil ?_
    refine .seq <| .block fun K0 hK0 => .seq <| .r <| .w 25 .mvP <| .w 26 (.pEqN T.pt118) <| .w 24 .asB <| .nil ?_
    refine .ct <| .seq <| .r <| .w 8 .asS <| .w 9 .asI <| .nil ?_
    refine .ret ⟨.tuple #[.slice none 0 0, .int .i64 4], Res.two rfl rfl rfl, ⟨_, (by rw [read_n hw0 hnotf1] <;> rfl), by rw [read_n hw0 hnotf1]; exact (ok.nilC (k := 1) (e := 5)).toOwn⟩⟩
  obtain rfl := heq.symm
  refine .w 11 .asP <| .nil ?_
  refine .seq <| .block fun K0 hK0 => .seq <| ?_
  obtain ⟨hd1, hd2, hd3, hd4⟩ := dsk_parts (ok.r0)
  have hfb := hd4 n tf1 hgtf1
  have hnl : tf1.nl.length ≤ 16777216 := (hk.fs n tf1.abs (by simp [RD.abs, hgtf1])).1.now
  have ok := ok.d1 (rdI E E (tf1.na, tf1.nl.length, tf1.nc) tf1.nl) (Bys.get ok.r1 hgtf1).now (fun _ h => h.elim id id)
  have hnc : tf1.nl.length ≤ tf1.nc := ok.r0.c
  refine .r <| .w 25 .mvP <| .w 26 (.pEqS T.pt118) <| .w 24 .asB <| .nil ?_
  refine .cf <| .seq <| .r <| .w 28 .mvI <| .w 29 .mvP <| .w 30 .nil <| .w 31 (.fa T.fd122_0) <| .w 32 (.ldx T.ag22 hfb) <| .w 33 (.len T.el22) <| .w 34 .geq <| .w 27 .asB <| .nil ?_
  refine .cd (fun C2 => ?_) (fun C2 => ?_)
  · --
    refine .seq <| .r <| .w 8 .asS <| .w 9 .asI <| .nil ?_
    refine .ret ⟨.tuple #[.slice none 0 0, .int .i64 0], Res.two rfl rfl rfl, ⟨_, (by rw [show readN r.abs n p q = ([], 0) from by rw [read_f hw0 hgtf1 hhtf1, List.drop_eq_nil_of_le (by omega), List.take_nil]] <;> rfl), by rw [show readN r.abs n p q = ([], 0) from by rw [read_f hw0 hgtf1 hhtf1, List.drop_eq_nil_of_le (by omega), List.take_nil]]; exact (ok.nilC (k := 1) (e := 5)).toOwn⟩⟩
  refine .skip <| .end <| hK0 _ _ <| .seq <| .t 17 mixed ?_
  simp only [List.take_succ_cons, List.take_zero, List.drop_succ_cons, List.drop_zero]
  refine .w 35 .mvP <| .w 36 .nil <| .w 37 (.fa T.fd122_0) <| .w 38 (.ldx T.ag22 hfb) <| .w 39 .mvI <| .w 40 .mvI <| .w 41 .mvI <| .w 42 .mvP <| .w 43 .nil <| .w 44 (.fa T.fd122_0) <| .w 45 (.ldx T.ag22 hfb) <| .w 46 (.len T.el22) <| .w 47 .mvI <| .w 48 .sub <| .w 49 .min2 <| .w 50 .add <| ?_
  rw [show ((p : Int) + (min (q : Int) ((tf1.nl.length : Int) - (p : Int)))) = (((p + min q (tf1.nl.length - p)) : Nat) : Int) from by omega]
  refine .w 51 (.slh p (p + min q (tf1.nl.length - p)) T.el22 T.sz5) <| ?_
  generalize hc1 : cutA tf1.na p tf1.nc 1 = ca1
  generalize hn1 : (p + min q (tf1.nl.length - p)) - p = cn1
  obtain rfl : cn1 = ((tf1.nl.drop p).take q).length := by rw [← hn1]; rw [List.length_take, List.length_drop]; omega
  have ok := ok.d0 (rdI E E (ca1, ((tf1.nl.drop p).take q).length, tf1.nc - p) ((tf1.nl.drop p).take q)) (by have h1 := ok.r0.cut (i := p) (j := (p + min q (tf1.nl.length - p))) (by omega) (by omega); rw [show ((tf1.nl).drop p).take ((p + min q (tf1.nl.length - p)) - p) = (tf1.nl.drop p).take q from by rw [Nat.add_sub_cancel_left, ← List.length_drop, take_min]] at h1; rw [← hc1, ← hn1]; exact h1) (fun _ h => h)
  refine .nil ?_
  refine .c' 52 .func (bclone_any (a := ca1) (c := tf1.nc - p) (l := (tf1.nl.drop p).take q) ok.r0 (by simp; omega)) ?_
  rintro _ η2 own
  obtain ⟨ya1, yc1, rfl⟩ := own.formB
  have ok := ok.own own
  refine .w 8 .asS <| .w 9 .asI <| .nil ?_
  refine .ret ⟨.tuple #[.slice ya1 (((tf1.nl.drop p).take q).length) yc1, .int .i64 0], Res.two rfl rfl rfl, ⟨_, (by rw [read_f hw0 hgtf1 hhtf1] <;> rfl), by rw [read_f hw0 hgtf1 hhtf1]; exact (ok).toOwn⟩⟩

set_option maxRecDepth 100000 in
set_option maxHeartbeats 2000000 in
theorem dark_any {h : Heap} {d : Nat} {r : RD} (hd : (dboxI d r).p h) :
    HC Try.prog 44 #[.pointer (some ⟨d, 0, none⟩)] h (fun v h' => v = .bool r.dark ∧ h' = h) := by
  have hd1 := hd
  refine HC.go Try.func44 11 ?_
  refine .seq <| .r <| .w 2 .asB <| .nil ?_
  refine .seq <| .r <| .w 3 .mvP <| .w 4 (.pNeS T.pt57) <| .w 5 .mvB <| .w 6 .mvP <| .w 7 .nil <| .w 8 (.fa T.fd113_1) <| .w 9 (.ldx T.ag4 hd1) <| .w 10 .pkt <| .w 2 .asB <| .nil ?_
  refine .ret ⟨.bool r.dark, Res.one rfl rfl, ⟨rfl, rfl⟩⟩

set_option maxRecDepth 100000 in
set_option maxHeartbeats 2000000 in
theorem changes_any {h : Heap} {d : Nat} {r : RD} (hd : (dboxI d r).p h) :
    HC Try.prog 33 #[.pointer (some ⟨d, 0, none⟩)] h (fun v h' => v = .int .i64 r.chg ∧ h' = h) := by
  have hd1 := hd
  refine HC.go Try.func33 9 ?_
  refine .seq <| .r <| .w 2 .asI <| .nil ?_
  refine .seq <| .seq <| .r <| .w 3 .mvP <| .w 4 (.pEqS T.pt57) <| .nil ?_
  refine .cf <| .skip <| .seq <| .r <| .w 5 .mvP <| .w 6 .nil <| .w 7 (.fa T.fd113_3) <| .w 8 (.ldx T.ag3 hd1) <| .w 2 .asI <| .nil ?_
  refine .ret ⟨.int .i64 r.chg, Res.one rfl rfl, ⟨rfl, rfl⟩⟩

set_option maxRecDepth 100000 in
set_option maxHeartbeats 2000000 in
theorem cut_any {h : Heap} {d : Nat} {r : RD} {z : Int} (ok : Hp h (dskI d r).F [dskI d r] [] h) :
    HC Try.prog 38 #[.pointer (some ⟨d, 0, none⟩), .int .i64 z] h (fun v h' => v = .tuple #[] ∧ Hp h (dskI d r).F [dskI d (cutR r z)] [] h') := by
  have ok := ok.dopn
  refine HC.go Try.func38 18 ?_
  refine .seq <| .r <| .w 4 .mvP <| .w 5 (.pNeS T.pt57) <| .w 6 .mvB <| .w 7 .mvP <| .w 8 .nil <| .w 9 (.fa T.fd113_1) <| .w 10 (.ldx T.ag4 ok.m0) <| .w 11 .not <| .w 12 .pkt <| .nil ?_
  refine .cond (fun C0 => ?_) (fun C0 => ?_)
  · --
    refine .r <| .w 13 .mvP <| .w 14 .mvI <| .w 15 .max2 <| .w 16 .nil <| .w 17 (.fa T.fd113_2) <| .ur' (.stI T.sz3 ok) ?_
    rintro η1 ⟨ok, cg⟩
    refine .nil ?_
    refine .end <| ⟨.tuple #[], Res.none rfl, (by unfold cutR; rw [if_neg (by intro h9; simp [h9] at *)]; exact ⟨rfl, Hp.dcls (r := ⟨r.m, r.fs, r.dark, max z (-1), r.chg⟩) ok⟩)⟩
  refine .skip <| .end <| ⟨.tuple #[], Res.none rfl, (by unfold cutR; rw [if_pos (by simp_all)]; exact ⟨rfl, Hp.dcls (r := r) ok⟩)⟩

set_option maxRecDepth 100000 in
set_option maxHeartbeats 2000000 in
theorem new_any {h : Heap} :
    HC Try.prog 28 #[] h (fun v h' => ∃ d r, v = .pointer (some ⟨d, 0, none⟩) ∧ r.abs = newN ∧ Hp h none_ [dskI d r] [bysI none_ r.fs] h') := by
  have ok := Hp.nil h none_
  refine HC.go Try.func28 4 ?_
  refine .seq <| .r <| .w 0 .asP <| .nil ?_
  refine .seq <| .r <| .a' 1 (.mkm kvB ok) ?_
  rintro _ η1 ⟨mb1, rfl, ok⟩
  refine .w 2 (.bd #[.map (some mb1), .bool false, .int .i64 (-1), .int .i64 0] T.zr113 T.pl113 rfl) <| .a' 3 (.bxA (cs := [.map (some mb1), .bool false, .int .i64 (-1), .int .i64 0]) ok) ?_
  rintro _ η2 ⟨pb1, rfl, ok, xe⟩
  refine .w 0 .asP <| .nil ?_
  refine .ret ⟨.pointer (some ⟨pb1, 0, none⟩), Res.one rfl rfl, ⟨pb1, ⟨mb1, [], false, -1, 0⟩, rfl, rfl, ((Hp.dcls (r := ⟨mb1, [], false, -1, 0⟩) (flsNil ok).n2.n2).dE (bysI none_ []) (fun _ h => by cases h) (fun _ f => f))⟩⟩

set_option maxRecDepth 100000 in
set_option maxHeartbeats 2000000 in
theorem writeNil_any {h : Heap} {n : List UInt8} {z : Int} {v : Value} :
    HC Try.prog 29 #[.pointer none, .string (BA n), .int .i64 z, v] h (fun v h' => v = .int .i64 2 ∧ Ext h h') := by
  have ok := Hp.nil h none_
  refine HC.go Try.func29 34 ?_
  refine .seq <| .r <| .w 8 .asI <| .nil ?_
  refine .seq <| .seq <| .r <| .w 10 .mvP <| .w 11 .mvT <| .w 12 .mvI <| .a' 13 (.lit [.tmp 12] (cs := [.int .i64 z]) T.el101 T.sz3 T.zr3 ok ⟨rfl, trivial⟩) ?_
  rintro _ η1 ⟨pb1, rfl, ok, xe⟩
  refine .k 14 .func (wrongNil_any (n := n) (v := .slice (some ⟨pb1, 0, none⟩) 1 1)) <| .w 9 .asI <| .nil ?_
  refine .seq <| .r <| .w 15 .mvI <| .w 16 .neq <| .nil ?_
  refine .ct <| .seq <| .r <| .w 17 .mvI <| .w 8 .asI <| .nil ?_
  refine .ret ⟨.int .i64 2, Res.one rfl rfl, ⟨rfl, ok.chg⟩⟩

set_option maxRecDepth 100000 in
set_option maxHeartbeats 2000000 in
theorem filesNil_any {h : Heap} :
    HC Try.prog 43 #[.pointer none] h (fun v h' => v = .slice none 0 0 ∧ Ext h h') := by
  have ok := Hp.nil h none_
  refine HC.go Try.func43 15 ?_
  refine .seq <| .r <| .a' 1 (.bxP ok) ?_
  rintro _ η1 ⟨pb1, rfl, ok, xe⟩
  refine .w 2 .asS <| .nil ?_
  refine .seq <| .seq <| .r <| .w 3 (.ldx T.ag57 ok.m0) <| .w 4 (.pEqN T.pt57) <| .w 5 .mvB <| .x 6 <| .x 7 <| .x 8 <| .x 9 <| .w 10 .pkt <| .nil ?_
  refine .ct <| .seq <| .r <| .w 2 .asS <| .nil ?_
  refine .ret ⟨.slice none 0 0, Res.one rfl rfl, ⟨rfl, ok.chg⟩⟩

set_option maxRecDepth 100000 in
set_option maxHeartbeats 2000000 in
theorem copyNil_any {h : Heap} :
    HC Try.prog 36 #[.pointer none] h (fun v h' => v = .pointer none ∧ h' = h) := by
  refine HC.go Try.func36 48 ?_
  refine .seq <| .r <| .w 2 .asP <| .nil ?_
  refine .seq <| .seq <| .r <| .w 7 .mvP <| .w 8 (.pEqN T.pt57) <| .nil ?_
  refine .ct <| .seq <| .r <| .w 2 .asP <| .nil ?_
  refine .ret ⟨.pointer none, Res.one rfl rfl, ⟨rfl, rfl⟩⟩

set_option maxRecDepth 100000 in
set_option maxHeartbeats 2000000 in
theorem darkNil_any {h : Heap} :
    HC Try.prog 44 #[.pointer none] h (fun v h' => v = .bool false ∧ h' = h) := by
  refine HC.go Try.func44 11 ?_
  refine .seq <| .r <| .w 2 .asB <| .nil ?_
  refine .seq <| .r <| .w 3 .mvP <| .w 4 (.pNeN T.pt57) <| .w 5 .mvB <| .x 6 <| .x 7 <| .x 8 <| .x 9 <| .w 10 .pkf <| .w 2 .asB <| .nil ?_
  refine .ret ⟨.bool false, Res.one rfl rfl, ⟨rfl, rfl⟩⟩

set_option maxRecDepth 100000 in
set_option maxHeartbeats 2000000 in
theorem changesNil_any {h : Heap} :
    HC Try.prog 33 #[.pointer none] h (fun v h' => v = .int .i64 0 ∧ h' = h) := by
  refine HC.go Try.func33 9 ?_
  refine .seq <| .r <| .w 2 .asI <| .nil ?_
  refine .seq <| .seq <| .r <| .w 3 .mvP <| .w 4 (.pEqN T.pt57) <| .nil ?_
  refine .ct <| .seq <| .r <| .w 2 .asI <| .nil ?_
  refine .ret ⟨.int .i64 0, Res.one rfl rfl, ⟨rfl, rfl⟩⟩

end Go.Proofs.Ytpebbkhainpfaaa
