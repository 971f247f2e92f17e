/- The document's disk: New, wrong, count, change. Conditions: the state is readable and in order, the change is. The document's disk: Write, Truncate, Remove, Read, Size, Files, Cut, New. Conditions: the state is readable and in order. The document's disk: Read, Size, Files, Cut, New, Sync. Conditions: the state is readable and in order. The document's disk: Cut, New, Sync. Conditions: the state is readable and in order. -/
import Derived.Test.YtpebbkhainpfaaaPk8
namespace Go.Proofs.Ytpebbkhainpfaaa
open Go Go.HL
def wrongW (gn : Bool) (n : List UInt8) (y z : Int) : Nat := if n.length < 1 ∨ 32 < n.length ∨ y < 0 ∨ z < 0 then 1 else if gn = true then 13 else 0
def countW (w : WD) : WD := if w.left = 0 then ⟨w.safe, w.now, w.pend, w.left, true, w.many⟩ else ⟨w.safe, w.now, w.pend, if 0 < w.left then w.left - 1 else w.left, w.gone, w.many + 1⟩
def countC (lf : Int) : Nat := if lf = 0 then 13 else 0
def changeW (w : WD) (c : WC) : WD × Nat := if w.left = 0 then (countW w, 13) else (⟨w.safe, doW w.now c, w.pend ++ [c], if 0 < w.left then w.left - 1 else w.left, w.gone, w.many + 1⟩, 0)
/-- A state in order. -/
structure WS (w : WD) : Prop where
  nowl : w.now.length ≤ 100000
  safel : w.safe.length ≤ 100000
  pendl : w.pend.length ≤ 300
  nowb : ∀ f ∈ w.now, f.b.length ≤ 16777216
  safeb : ∀ f ∈ w.safe, f.b.length ≤ 16777216
  pend : ∀ c ∈ w.pend, c.pos + c.b.length ≤ 16777216 ∧ c.kind ≤ 2
  many : 0 ≤ w.many ∧ w.many ≤ 1000000000
theorem RWC.one (l : List RWC) : ∀ u ∈ l.flatMap RWC.cells, u.oneCell' = true := fun u hu => by
  obtain ⟨x, _, hx⟩ := List.mem_flatMap.1 hu
  simp [RWC.cells] at hx
  rcases hx with rfl | rfl | rfl | rfl <;> rfl
theorem RWF.one (l : List RWF) : ∀ u ∈ l.flatMap RWF.cells, u.oneCell' = true := fun u hu => by
  obtain ⟨x, _, hx⟩ := List.mem_flatMap.1 hu
  simp [RWF.cells] at hx
  rcases hx with rfl | rfl <;> rfl
theorem WRet.to {h η h' : Heap} {E : Nat → Prop} {w : RW} (hx : Ext h η) (q : WRet η (fun j => E j ∧ j < h.size) w h') : WRet h E w h' :=
  ⟨hx.trans q.ext, q.rd.mono fun j hj => hj.imp (·.1) fun h => ⟨Nat.le_trans hx.size h.1, h.2⟩⟩
theorem changeW_0 {w : WD} {c : WC} (h : w.left = 0) : changeW w c = (countW w, 13) := if_pos h
theorem changeW_1 {w : WD} {c : WC} (h : ¬ w.left = 0) : changeW w c = (⟨w.safe, doW w.now c, w.pend ++ [c], if 0 < w.left then w.left - 1 else w.left, w.gone, w.many + 1⟩, 0) := if_neg h
theorem countW_0 {w : WD} (h : w.left = 0) : countW w = ⟨w.safe, w.now, w.pend, w.left, true, w.many⟩ := if_pos h
theorem ch_by {h : Heap} {E E0 E1 : Nat → Prop} {x : SV} {pl : List RWC} {c : RWC} (hp : RwB 4 RWC.cells RWC.sb h E0 x pl) (hx : RdL h E1 E1 (c.ba, c.bl.length, c.bc) c.bl) (h0 : ∀ j, E0 j → E j) (h1 : ∀ j, E1 j → E j) : ∀ y ∈ pl ++ [c], RdL h E E ((RWC.sb y).1, (RWC.sb y).2.2.length, (RWC.sb y).2.1) (RWC.sb y).2.2 := fun y hy => by
  rcases List.mem_append.1 hy with hy | hy
  · exact (hp.by' y hy).mono h0 h0
  · rw [List.mem_singleton.1 hy]; exact hx.mono h1 h1
theorem ew_to {E : Nat → Prop} {h η η' h' : Heap} (h0 : h.size ≤ η.size) (hl : ∀ j, ((E j ∧ j < h.size) ∨ Nw η η' j) → j < h'.size) : ∀ j, ((E j ∧ j < h.size) ∨ Nw η η' j) → (E j ∨ Nw h h' j) := fun j hj => hj.elim (fun h => .inl h.1) fun q => .inr ⟨Nat.le_trans h0 q.1, hl j (.inr q)⟩
theorem nowb_of {l : List RWF} (h : ∀ f ∈ l.map RWF.abs, f.b.length ≤ 16777216) : ∀ f ∈ l, f.bl.length ≤ 16777216 := fun f hf => h _ (List.mem_map.2 ⟨f, hf, rfl⟩)

set_option maxRecDepth 100000 in
set_option maxHeartbeats 2000000 in
theorem rwrong_any {h : Heap} {sa na pa : Option Addr} {sc nc pc : Nat} {sl nl : List RWF} {pl : List RWC} {lf : Int} {gn : Bool} {mn : Int} {n : List UInt8} {y z : Int} : HC Try.prog 99 #[.agg #[.slice sa sl.length sc, .slice na nl.length nc, .slice pa pl.length pc, .int .i64 lf, .bool gn, .int .i64 mn], .string (BA n), .int .i64 y, .int .i64 z] h (fun v h' => v = .int .i64 (wrongW gn n y z : Int) ∧ Ext h h') := by
  have ok := Hp.nil h none_
  refine HC.go Try.func99 27 ?_
  refine .seq <| .r <| .a' 4 (.bxA (cs := [.slice sa sl.length sc, .slice na nl.length nc, .slice pa pl.length pc, .int .i64 lf, .bool gn, .int .i64 mn]) ok) ?_
  rintro _ η1 ⟨pb1, rfl, ok, xe⟩
  refine .w 8 .asI <| .nil ?_
  refine .seq <| .seq <| .r <| .w 9 .mvT <| .w 10 (.lenT T.st9) <| .w 11 .lss <| .w 12 .mvB <| .sd (fun G12 => ?_) (fun G12 => ?_)
  ·
    refine .x 13 <| .x 14 <| .x 15 <| .w 16 .pkt <| .w 17 .mvB <| .x 18 <| .x 19 <| .w 20 .pkt <| .w 21 .mvB <| .x 22 <| .x 23 <| .w 24 .pkt <| .nil ?_
    refine .ct <| .seq <| .r <| .w 8 .asI <| .nil ?_
    refine .ret ⟨.int .i64 1, Res.one rfl rfl, ⟨by unfold wrongW; rw [if_pos (by first | exact .inl (by omega) | exact .inr (.inl (by omega)) | exact .inr (.inr (.inl (by omega))) | exact .inr (.inr (.inr (by omega))))]; rfl, ok.chg⟩⟩
  refine .w 13 .mvT <| .w 14 (.lenT T.st9) <| .w 15 .gtr <| .w 16 .pkf <| .w 17 .mvB <| .sd (fun G17 => ?_) (fun G17 => ?_)
  ·
    refine .x 18 <| .x 19 <| .w 20 .pkt <| .w 21 .mvB <| .x 22 <| .x 23 <| .w 24 .pkt <| .nil ?_
    refine .ct <| .seq <| .r <| .w 8 .asI <| .nil ?_
    refine .ret ⟨.int .i64 1, Res.one rfl rfl, ⟨by unfold wrongW; rw [if_pos (by first | exact .inl (by omega) | exact .inr (.inl (by omega)) | exact .inr (.inr (.inl (by omega))) | exact .inr (.inr (.inr (by omega))))]; rfl, ok.chg⟩⟩
  refine .w 18 .mvI <| .w 19 .lss <| .w 20 .pkf <| .w 21 .mvB <| .sd (fun G21 => ?_) (fun G21 => ?_)
  ·
    refine .x 22 <| .x 23 <| .w 24 .pkt <| .nil ?_
    refine .ct <| .seq <| .r <| .w 8 .asI <| .nil ?_
    refine .ret ⟨.int .i64 1, Res.one rfl rfl, ⟨by unfold wrongW; rw [if_pos (by first | exact .inl (by omega) | exact .inr (.inl (by omega)) | exact .inr (.inr (.inl (by omega))) | exact .inr (.inr (.inr (by omega))))]; rfl, ok.chg⟩⟩
  refine .w 22 .mvI <| .w 23 .lss <| .w 24 .pkf <| .nil ?_
  refine .cd (fun C0 => ?_) (fun C0 => ?_)
  · --
    refine .seq <| .r <| .w 8 .asI <| .nil ?_
    refine .ret ⟨.int .i64 1, Res.one rfl rfl, ⟨by unfold wrongW; rw [if_pos (by first | exact .inl (by omega) | exact .inr (.inl (by omega)) | exact .inr (.inr (.inl (by omega))) | exact .inr (.inr (.inr (by omega))))]; rfl, ok.chg⟩⟩
  refine .skip <| .seq <| .seq <| .r <| .w 25 (.fa T.fd69_4) <| .w 26 (.ldx T.ag4 ok.m0) <| .nil ?_
  refine .cond (fun C1 => ?_) (fun C1 => ?_)
  · --
    refine .seq <| .r <| .w 8 .asI <| .nil ?_
    refine .ret ⟨.int .i64 13, Res.one rfl rfl, ⟨by unfold wrongW; rw [if_neg (by omega), if_pos (by assumption)]; rfl, ok.chg⟩⟩
  refine .skip <| .seq <| .r <| .w 8 .asI <| .nil ?_
  refine .ret ⟨.int .i64 0, Res.one rfl rfl, ⟨by unfold wrongW; rw [if_neg (by omega), if_neg (by rw [C1]; decide)]; rfl, ok.chg⟩⟩

set_option maxRecDepth 100000 in
set_option maxHeartbeats 2000000 in
theorem count_any {h : Heap} {sa na pa : Option Addr} {sc nc pc : Nat} {sl nl : List RWF} {pl : List RWC} {lf : Int} {gn : Bool} {mn : Int} (hm : 0 ≤ mn ∧ mn ≤ 1000000000) (hl : lf ≤ 9223372036854775807) : HC Try.prog 103 #[.agg #[.slice sa sl.length sc, .slice na nl.length nc, .slice pa pl.length pc, .int .i64 lf, .bool gn, .int .i64 mn]] h (fun v h' => v = .tuple #[.agg #[.slice sa sl.length sc, .slice na nl.length nc, .slice pa pl.length pc, .int .i64 (if 0 < lf then lf - 1 else lf), .bool (if lf = 0 then true else gn), .int .i64 (if lf = 0 then mn else mn + 1)], .int .i64 (countC lf : Int)] ∧ Ext h h') := by
  have ok := Hp.nil h none_
  refine HC.go Try.func103 21 ?_
  refine .seq <| .r <| .a' 1 (.bxA (cs := [.slice sa sl.length sc, .slice na nl.length nc, .slice pa pl.length pc, .int .i64 lf, .bool gn, .int .i64 mn]) ok) ?_
  rintro _ η1 ⟨pb1, rfl, ok, xe⟩
  refine .a' 2 (.alA T.zr69 ok) ?_
  rintro _ η2 ⟨pb2, rfl, ok, xe⟩
  refine .w 3 .asI <| .nil ?_
  refine .seq <| .seq <| .r <| .w 4 (.fa T.fd69_3) <| .w 5 (.ldx T.ag3 ok.m1) <| .w 6 .eql <| .nil ?_
  refine .cd (fun C0 => ?_) (fun C0 => ?_)
  · --
    refine .seq <| .r <| .w 7 (.fa T.fd69_4) <| .ur' (.stB T.sz4 ok.n1) ?_
    rintro η3 ⟨ok, cg⟩
    refine .nil ?_
    refine .seq <| .r <| .w 8 (.ldb T.ag69 ok.m0 T.sz69) <| .ur' (.stW (vs := [.slice sa sl.length sc, .slice na nl.length nc, .slice pa pl.length pc, .int .i64 lf, .bool true, .int .i64 mn]) T.sz69 ok.n1 (oneL rfl)) ?_
    rintro η4 ⟨ok, cg⟩
    refine .w 3 .asI <| .nil ?_
    refine .ret ⟨.tuple #[.agg #[.slice sa sl.length sc, .slice na nl.length nc, .slice pa pl.length pc, .int .i64 lf, .bool true, .int .i64 mn], .int .i64 13], Res.many (vs := [.agg #[.slice sa sl.length sc, .slice na nl.length nc, .slice pa pl.length pc, .int .i64 lf, .bool true, .int .i64 mn], .int .i64 13]) rfl ⟨⟨_, rfl, load_ag T.ag69 ok.m0 T.sz69⟩, rfl, trivial⟩ rfl, ⟨by unfold countC; rw [if_pos C0, if_pos C0, if_pos C0, if_neg (by omega)]; rfl, ok.chg⟩⟩
  refine .skip <| .seq <| .seq <| .r <| .w 9 (.fa T.fd69_3) <| .w 10 (.ldx T.ag3 ok.m1) <| .w 11 .gtr <| .nil ?_
  refine .cd (fun C1 => ?_) (fun C1 => ?_)
  · --
    refine .r <| .w 12 (.fa T.fd69_3) <| .w 13 (.ldx T.ag3 ok.m1) <| .w 14 .sub <| .w 15 (.fa T.fd69_3) <| .ur' (.stI T.sz3 ok.n1) ?_
    rintro η5 ⟨ok, cg⟩
    refine .nil ?_
    refine .seq <| .r <| .w 16 (.fa T.fd69_5) <| .w 17 (.ldx T.ag3 ok.m0) <| .w 18 .add <| .w 19 (.fa T.fd69_5) <| .ur' (.stI T.sz3 ok) ?_
    rintro η6 ⟨ok, cg⟩
    refine .nil ?_
    refine .seq <| .r <| .w 20 (.ldb T.ag69 ok.m0 T.sz69) <| .ur' (.stW (vs := [.slice sa sl.length sc, .slice na nl.length nc, .slice pa pl.length pc, .int .i64 (lf - 1), .bool gn, .int .i64 (mn + 1)]) T.sz69 ok.n1 (oneL rfl)) ?_
    rintro η7 ⟨ok, cg⟩
    refine .w 3 .asI <| .nil ?_
    refine .ret ⟨.tuple #[.agg #[.slice sa sl.length sc, .slice na nl.length nc, .slice pa pl.length pc, .int .i64 (lf - 1), .bool gn, .int .i64 (mn + 1)], .int .i64 0], Res.many (vs := [.agg #[.slice sa sl.length sc, .slice na nl.length nc, .slice pa pl.length pc, .int .i64 (lf - 1), .bool gn, .int .i64 (mn + 1)], .int .i64 0]) rfl ⟨⟨_, rfl, load_ag T.ag69 ok.m0 T.sz69⟩, rfl, trivial⟩ rfl, ⟨by unfold countC; rw [if_neg C0, if_neg C0, if_neg C0, if_pos C1]; rfl, ok.chg⟩⟩
  refine .skip <| .seq <| .r <| .w 16 (.fa T.fd69_5) <| .w 17 (.ldx T.ag3 ok.m1) <| .w 18 .add <| .w 19 (.fa T.fd69_5) <| .ur' (.stI T.sz3 ok.n1) ?_
  rintro η8 ⟨ok, cg⟩
  refine .nil ?_
  refine .seq <| .r <| .w 20 (.ldb T.ag69 ok.m0 T.sz69) <| .ur' (.stW (vs := [.slice sa sl.length sc, .slice na nl.length nc, .slice pa pl.length pc, .int .i64 lf, .bool gn, .int .i64 (mn + 1)]) T.sz69 ok.n1 (oneL rfl)) ?_
  rintro η9 ⟨ok, cg⟩
  refine .w 3 .asI <| .nil ?_
  refine .ret ⟨.tuple #[.agg #[.slice sa sl.length sc, .slice na nl.length nc, .slice pa pl.length pc, .int .i64 lf, .bool gn, .int .i64 (mn + 1)], .int .i64 0], Res.many (vs := [.agg #[.slice sa sl.length sc, .slice na nl.length nc, .slice pa pl.length pc, .int .i64 lf, .bool gn, .int .i64 (mn + 1)], .int .i64 0]) rfl ⟨⟨_, rfl, load_ag T.ag69 ok.m0 T.sz69⟩, rfl, trivial⟩ rfl, ⟨by unfold countC; rw [if_neg C0, if_neg C0, if_neg C0, if_neg C1]; rfl, ok.chg⟩⟩

set_option maxRecDepth 100000 in
set_option maxHeartbeats 2000000 in
theorem change_any {h : Heap} {E : Nat → Prop} {sa na pa : Option Addr} {sc nc pc : Nat} {sl nl : List RWF} {pl : List RWC} {lf : Int} {gn : Bool} {mn : Int} {xk xp : Nat} {xn xl : List UInt8} {xa : Option Addr} {xc : Nat} (hw : DocW h E ⟨sa, sc, sl, na, nc, nl, pa, pc, pl, lf, gn, mn⟩) (hs : WS (RW.abs ⟨sa, sc, sl, na, nc, nl, pa, pc, pl, lf, gn, mn⟩)) (hl : lf ≤ 9223372036854775807) (hx : RdL h E E (xa, xl.length, xc) xl) (hxp : xp + xl.length ≤ 16777216) : HC Try.prog 100 #[.agg #[.slice sa sl.length sc, .slice na nl.length nc, .slice pa pl.length pc, .int .i64 lf, .bool gn, .int .i64 mn], .agg #[.int .i64 (xk : Int), .int .i64 (xp : Int), .string (BA xn), .slice xa xl.length xc]] h (fun v h' => ∃ w : RW, v = .tuple #[.agg #[.slice w.sa w.sl.length w.sc, .slice w.na w.nl.length w.nc, .slice w.pa w.pl.length w.pc, .int .i64 w.left, .bool w.gone, .int .i64 w.many], .int .i64 ((changeW (RW.abs ⟨sa, sc, sl, na, nc, nl, pa, pc, pl, lf, gn, mn⟩) ⟨xk, xp, xn, xl⟩).2 : Int)] ∧ w.abs = (changeW (RW.abs ⟨sa, sc, sl, na, nc, nl, pa, pc, pl, lf, gn, mn⟩) ⟨xk, xp, xn, xl⟩).1 ∧ WRet h E w h') := by
  have hsm := hs.many
  have hsl1 := hs.nowl
  have hsl2 := hs.pendl
  simp only [RW.abs, List.length_map] at hsm hsl1 hsl2
  have hnb := nowb_of hs.nowb
  have ok := (Hp.nil h none_).old (chwI (fun j => E j ∧ j < h.size) (pa, pl.length, pc) pl) (hw.p.lt (by decide)) (fun j hj => hj.2)
  have ok := ok.old (flwI (fun j => E j ∧ j < h.size) (na, nl.length, nc) nl) (hw.n.lt (by decide)) (fun j hj => hj.2)
  have ok := ok.old (flwI (fun j => E j ∧ j < h.size) (sa, sl.length, sc) sl) (hw.s.lt (by decide)) (fun j hj => hj.2)
  have ok := ok.old (rdI (fun j => E j ∧ j < h.size) (fun j => E j ∧ j < h.size) (xa, xl.length, xc) xl) hx.lt (fun j hj => hj.elim (·.2) (·.2))
  refine HC.go Try.func100 30 ?_
  refine .seq <| .r <| .a' 2 (.bxA (cs := [.slice sa sl.length sc, .slice na nl.length nc, .slice pa pl.length pc, .int .i64 lf, .bool gn, .int .i64 mn]) ok) ?_
  rintro _ η1 ⟨pb1, rfl, ok, xe⟩
  refine .a' 3 (.bxA (cs := [.int .i64 (xk : Int), .int .i64 (xp : Int), .string (BA xn), .slice xa xl.length xc]) ok) ?_
  rintro _ η2 ⟨pb2, rfl, ok, xe⟩
  refine .a' 4 (.alA T.zr69 ok) ?_
  rintro _ η3 ⟨pb3, rfl, ok, xe⟩
  refine .w 5 .asI <| .nil ?_
  refine .seq <| .r <| .w 9 (.ldb T.ag69 ok.m2 T.sz69) <| .c' 10 .func (count_any (by omega) (by omega)) ?_
  rintro _ η4 ⟨rfl, hx⟩
  have ok := ok.ext hx
  refine .w 8 .mvU <| .w 11 .ex <| .w 12 .ex <| .a' 6 (.alA T.zr69 ok) ?_
  rintro _ η5 ⟨pb4, rfl, ok, xe⟩
  refine .ur' (.stW (vs := [.slice sa sl.length sc, .slice na nl.length nc, .slice pa pl.length pc, .int .i64 (if 0 < lf then lf - 1 else lf), .bool (if lf = 0 then true else gn), .int .i64 (if lf = 0 then mn else mn + 1)]) T.sz69 ok (oneL rfl)) ?_
  rintro η6 ⟨ok, cg⟩
  refine .w 7 .asI <| .nil ?_
  refine .seq <| .seq <| .r <| .w 13 .mvI <| .w 14 .eql <| .nil ?_
  refine .cd (fun C0 => ?_) (fun C0 => ?_)
  · --
    have hl0 : ¬ lf = 0 := by intro h; unfold countC at C0; rw [if_pos h] at C0; simp at C0
    refine .seq <| .r <| .w 15 (.fa T.fd69_1) <| .w 16 (.ldx T.ag66 ok.m3) <| .w 17 (.ldb T.ag152 ok.m2 T.sz152) <| .c' 18 .func (do_ret (xk := xk) (xp := xp) (xn := xn) (xl := xl) (xa := xa) (xc := xc) ok.r2 ok.r0 (by omega) hnb (by omega)) ?_
    rintro _ η7 ⟨adw1, cdw1, ldw1, rfl, hddw1, hxdw1, rddw1⟩
    have hsz0 := ok.chg.size
    have ok := ok.grow hxdw1 (r := flwI (fun j => E j ∧ j < h.size) (na, nl.length, nc) nl) (by simp) (flwI (fun j => (fun j => E j ∧ j < h.size) j ∨ Nw η6 η7 j) (adw1, ldw1.length, cdw1) ldw1) rddw1 (fun j hj => hj)
    refine .w 19 (.fa T.fd69_1) <| .ur' (.stS T.sz66 ok) ?_
    rintro η8 ⟨ok, cg⟩
    refine .nil ?_
    refine .a 8 (fun fl hh => cond fl True (Hp h none_ [boxI pb4 69 [.slice sa sl.length sc, .slice adw1 ldw1.length cdw1, .slice pa pl.length pc, .int .i64 (if 0 < lf then lf - 1 else lf), .bool (if lf = 0 then true else gn), .int .i64 (if lf = 0 then mn else mn + 1)], boxI pb3 69 [.slice none 0 0, .slice none 0 0, .slice none 0 0, .int .i64 0, .bool false, .int .i64 0], boxI pb2 152 [.int .i64 (xk : Int), .int .i64 (xp : Int), .string (BA xn), .slice xa xl.length xc], boxI pb1 69 [.slice sa sl.length sc, .slice na nl.length nc, .slice pa pl.length pc, .int .i64 lf, .bool gn, .int .i64 mn]] [flwI (fun j => (fun j => E j ∧ j < h.size) j ∨ Nw η6 η7 j) (adw1, ldw1.length, cdw1) ldw1, rdI (fun j => E j ∧ j < h.size) (fun j => E j ∧ j < h.size) (xa, xl.length, xc) xl, flwI (fun j => E j ∧ j < h.size) (sa, sl.length, sc) sl, flwI (fun j => E j ∧ j < h.size) (na, nl.length, nc) nl, chwI (fun j => E j ∧ j < h.size) (pa, pl.length, pc) pl] hh)) mixed ?_
    have hS := ok
    refine .g 1 false rfl 21 hS (fun _ => .fa T.fd69_2) <| .l 2 false rfl 22 hS (fun _ hS => .ldx T.ag67 hS.m3) <| .l 4 false rfl 24 hS (fun _ hS => .ldb T.ag152 hS.m2 T.sz152) <| .o2 0 5 ?_ ?_
    ·
      refine .a' false rfl 20 (.lit [] (cs := []) T.el67 T.sz152 T.zr152 ok trivial) ?_
      rintro _ η9 ⟨pb5, rfl, ok, xe⟩
      refine ⟨ok.n4.n4.n4.n4.k4, ?_⟩
      have hS := ok.n4.n4.n4.n4.k4
      refine .o2 3 5 ?_ ?_
      ·
        refine .a' false rfl 23 (.app (news := pl.flatMap RWC.cells) T.el67 T.sz152 T.by152 T.zr152 ok (ok.r4).sl (RWC.one pl) (by simp only [List.length_nil, flat_len RWC.cells_len]; omega)) ?_
        rintro _ η10 ⟨ya1, yn1, yc1, rfl, ok, ap⟩
        have ok := ok.cx (ys := pl.flatMap RWC.cells) (by simp)
        obtain rfl : yn1 = pl.length := (Sl.sz (Cap.sl ok.m0) RWC.cells_len (by decide)).1.symm
        refine ⟨ok.n4.n4.n4.n4.k4, ?_⟩
        have hS := ok.n4.n4.n4.n4.k4
        refine .o1 5 <| .a' false rfl 25 (.lit [.tmp 24] (cs := [.int .i64 (xk : Int), .int .i64 (xp : Int), .string (BA xn), .slice xa xl.length xc]) T.el67 T.sz152 T.zr152 ok ⟨rfl, trivial⟩) ?_
        rintro _ η11 ⟨pb6, rfl, ok, xe⟩
        refine ⟨ok.n5.n5.n5.n5.k4, ?_⟩
        have hS := ok.n5.n5.n5.n5.k4
        refine .o1 6 <| .a' false rfl 26 (.app (news := [.int .i64 (xk : Int), .int .i64 (xp : Int), .string (BA xn), .slice xa xl.length xc]) T.el67 T.sz152 T.by152 T.zr152 ok.n1 (ok.n1.m1).sl (oneL rfl) (by rw [flat_len RWC.cells_len]; simp only [List.length_cons, List.length_nil]; omega)) ?_
        rintro _ η12 ⟨ya2, yn2, yc2, rfl, ok, ap⟩
        have ok := ok.cx (ys := (pl ++ [(⟨xk, xp, xn, xa, xc, xl⟩ : RWC)]).flatMap RWC.cells) (by simp [RWC.cells])
        obtain rfl : yn2 = (pl ++ [(⟨xk, xp, xn, xa, xc, xl⟩ : RWC)]).length := (Sl.sz (Cap.sl ok.m0) RWC.cells_len (by decide)).1.symm
        refine ⟨ok.n5.n5.n5.n5.k4, ?_⟩
        have hS := ok.n5.n5.n5.n5.k4
        refine .g 7 false rfl 27 hS (fun _ => .fa T.fd69_2) <| .o1 8 <| .ur' true rfl (.stS T.sz67 ok.n2) ?_
        rintro η13 ⟨ok, cg⟩
        refine ⟨trivial, ?_⟩
        refine .e ?_
        refine .seq <| .r <| .w 28 (.ldb T.ag69 ok.m0 T.sz69) <| .w 29 .mvI <| .ur' (.stW (vs := [.slice sa sl.length sc, .slice adw1 ldw1.length cdw1, .slice ya2 ((pl ++ [(⟨xk, xp, xn, xa, xc, xl⟩ : RWC)]).length) yc2, .int .i64 (if 0 < lf then lf - 1 else lf), .bool (if lf = 0 then true else gn), .int .i64 (if lf = 0 then mn else mn + 1)]) T.sz69 ok.n3 (oneL rfl)) ?_
        rintro η14 ⟨ok, cg⟩
        refine .w 5 .asI <| .nil ?_
        have hfr := ok.n2
        refine .ret ⟨.tuple #[.agg #[.slice sa sl.length sc, .slice adw1 ldw1.length cdw1, .slice ya2 ((pl ++ [(⟨xk, xp, xn, xa, xc, xl⟩ : RWC)]).length) yc2, .int .i64 (if 0 < lf then lf - 1 else lf), .bool (if lf = 0 then true else gn), .int .i64 (if lf = 0 then mn else mn + 1)], .int .i64 (countC lf : Int)], Res.many (vs := [.agg #[.slice sa sl.length sc, .slice adw1 ldw1.length cdw1, .slice ya2 ((pl ++ [(⟨xk, xp, xn, xa, xc, xl⟩ : RWC)]).length) yc2, .int .i64 (if 0 < lf then lf - 1 else lf), .bool (if lf = 0 then true else gn), .int .i64 (if lf = 0 then mn else mn + 1)], .int .i64 (countC lf : Int)]) rfl ⟨⟨_, rfl, load_ag T.ag69 ok.m0 T.sz69⟩, rfl, trivial⟩ rfl, ⟨⟨sa, sc, sl, adw1, cdw1, ldw1, ya2, yc2, pl ++ [(⟨xk, xp, xn, xa, xc, xl⟩ : RWC)], if 0 < lf then lf - 1 else lf, gn, mn + 1⟩, by rw [changeW_1 (by exact hl0)]; simp [hl0, countC, RW.cells], by rw [changeW_1 (by exact hl0)]; simp only [RW.abs, List.map_append, List.map_cons, List.map_nil, hddw1]; rfl, ok.chg, ⟨(ok.r2).mono fun _ h => .inl h.1, (ok.r0).mono (ew_to hsz0 ok.l0), RwB.ofCap (by decide) RWC.cells_len hfr.m0 (fun j hj => .inr (hfr.fresh j hj)) (ch_by (E0 := fun j => E j ∧ j < h.size) (E1 := fun j => E j ∧ j < h.size) ok.r4 ok.r1 (fun _ h => .inl h.1) (fun _ h => .inl h.1))⟩⟩⟩
      ·
        refine .a' false rfl 25 (.lit [.tmp 24] (cs := [.int .i64 (xk : Int), .int .i64 (xp : Int), .string (BA xn), .slice xa xl.length xc]) T.el67 T.sz152 T.zr152 ok ⟨rfl, trivial⟩) ?_
        rintro _ η15 ⟨pb7, rfl, ok, xe⟩
        refine ⟨ok.n5.n5.n5.n5.k4, ?_⟩
        have hS := ok.n5.n5.n5.n5.k4
        refine .o1 3 <| .a' false rfl 23 (.app (news := pl.flatMap RWC.cells) T.el67 T.sz152 T.by152 T.zr152 ok.n1 (ok.n1.r4).sl (RWC.one pl) (by simp only [List.length_nil, flat_len RWC.cells_len]; omega)) ?_
        rintro _ η16 ⟨ya3, yn3, yc3, rfl, ok, ap⟩
        have ok := ok.cx (ys := pl.flatMap RWC.cells) (by simp)
        obtain rfl : yn3 = pl.length := (Sl.sz (Cap.sl ok.m0) RWC.cells_len (by decide)).1.symm
        refine ⟨ok.n5.n5.n5.n5.k4, ?_⟩
        have hS := ok.n5.n5.n5.n5.k4
        refine .o1 6 <| .a' false rfl 26 (.app (news := [.int .i64 (xk : Int), .int .i64 (xp : Int), .string (BA xn), .slice xa xl.length xc]) T.el67 T.sz152 T.by152 T.zr152 ok (ok.m1).sl (oneL rfl) (by rw [flat_len RWC.cells_len]; simp only [List.length_cons, List.length_nil]; omega)) ?_
        rintro _ η17 ⟨ya4, yn4, yc4, rfl, ok, ap⟩
        have ok := ok.cx (ys := (pl ++ [(⟨xk, xp, xn, xa, xc, xl⟩ : RWC)]).flatMap RWC.cells) (by simp [RWC.cells])
        obtain rfl : yn4 = (pl ++ [(⟨xk, xp, xn, xa, xc, xl⟩ : RWC)]).length := (Sl.sz (Cap.sl ok.m0) RWC.cells_len (by decide)).1.symm
        refine ⟨ok.n5.n5.n5.n5.k4, ?_⟩
        have hS := ok.n5.n5.n5.n5.k4
        refine .g 7 false rfl 27 hS (fun _ => .fa T.fd69_2) <| .o1 8 <| .ur' true rfl (.stS T.sz67 ok.n2) ?_
        rintro η18 ⟨ok, cg⟩
        refine ⟨trivial, ?_⟩
        refine .e ?_
        refine .seq <| .r <| .w 28 (.ldb T.ag69 ok.m0 T.sz69) <| .w 29 .mvI <| .ur' (.stW (vs := [.slice sa sl.length sc, .slice adw1 ldw1.length cdw1, .slice ya4 ((pl ++ [(⟨xk, xp, xn, xa, xc, xl⟩ : RWC)]).length) yc4, .int .i64 (if 0 < lf then lf - 1 else lf), .bool (if lf = 0 then true else gn), .int .i64 (if lf = 0 then mn else mn + 1)]) T.sz69 ok.n3 (oneL rfl)) ?_
        rintro η19 ⟨ok, cg⟩
        refine .w 5 .asI <| .nil ?_
        have hfr := ok.n2
        refine .ret ⟨.tuple #[.agg #[.slice sa sl.length sc, .slice adw1 ldw1.length cdw1, .slice ya4 ((pl ++ [(⟨xk, xp, xn, xa, xc, xl⟩ : RWC)]).length) yc4, .int .i64 (if 0 < lf then lf - 1 else lf), .bool (if lf = 0 then true else gn), .int .i64 (if lf = 0 then mn else mn + 1)], .int .i64 (countC lf : Int)], Res.many (vs := [.agg #[.slice sa sl.length sc, .slice adw1 ldw1.length cdw1, .slice ya4 ((pl ++ [(⟨xk, xp, xn, xa, xc, xl⟩ : RWC)]).length) yc4, .int .i64 (if 0 < lf then lf - 1 else lf), .bool (if lf = 0 then true else gn), .int .i64 (if lf = 0 then mn else mn + 1)], .int .i64 (countC lf : Int)]) rfl ⟨⟨_, rfl, load_ag T.ag69 ok.m0 T.sz69⟩, rfl, trivial⟩ rfl, ⟨⟨sa, sc, sl, adw1, cdw1, ldw1, ya4, yc4, pl ++ [(⟨xk, xp, xn, xa, xc, xl⟩ : RWC)], if 0 < lf then lf - 1 else lf, gn, mn + 1⟩, by rw [changeW_1 (by exact hl0)]; simp [hl0, countC, RW.cells], by rw [changeW_1 (by exact hl0)]; simp only [RW.abs, List.map_append, List.map_cons, List.map_nil, hddw1]; rfl, ok.chg, ⟨(ok.r2).mono fun _ h => .inl h.1, (ok.r0).mono (ew_to hsz0 ok.l0), RwB.ofCap (by decide) RWC.cells_len hfr.m0 (fun j hj => .inr (hfr.fresh j hj)) (ch_by (E0 := fun j => E j ∧ j < h.size) (E1 := fun j => E j ∧ j < h.size) ok.r4 ok.r1 (fun _ h => .inl h.1) (fun _ h => .inl h.1))⟩⟩⟩
    ·
      refine .a' false rfl 25 (.lit [.tmp 24] (cs := [.int .i64 (xk : Int), .int .i64 (xp : Int), .string (BA xn), .slice xa xl.length xc]) T.el67 T.sz152 T.zr152 ok ⟨rfl, trivial⟩) ?_
      rintro _ η20 ⟨pb8, rfl, ok, xe⟩
      refine ⟨ok.n4.n4.n4.n4.k4, ?_⟩
      have hS := ok.n4.n4.n4.n4.k4
      refine .o1 0 <| .a' false rfl 20 (.lit [] (cs := []) T.el67 T.sz152 T.zr152 ok trivial) ?_
      rintro _ η21 ⟨pb9, rfl, ok, xe⟩
      refine ⟨ok.n5.n5.n5.n5.k4, ?_⟩
      have hS := ok.n5.n5.n5.n5.k4
      refine .o1 3 <| .a' false rfl 23 (.app (news := pl.flatMap RWC.cells) T.el67 T.sz152 T.by152 T.zr152 ok (ok.r4).sl (RWC.one pl) (by simp only [List.length_nil, flat_len RWC.cells_len]; omega)) ?_
      rintro _ η22 ⟨ya5, yn5, yc5, rfl, ok, ap⟩
      have ok := ok.cx (ys := pl.flatMap RWC.cells) (by simp)
      obtain rfl : yn5 = pl.length := (Sl.sz (Cap.sl ok.m0) RWC.cells_len (by decide)).1.symm
      refine ⟨ok.n5.n5.n5.n5.k4, ?_⟩
      have hS := ok.n5.n5.n5.n5.k4
      refine .o1 6 <| .a' false rfl 26 (.app (news := [.int .i64 (xk : Int), .int .i64 (xp : Int), .string (BA xn), .slice xa xl.length xc]) T.el67 T.sz152 T.by152 T.zr152 ok (ok.m1).sl (oneL rfl) (by rw [flat_len RWC.cells_len]; simp only [List.length_cons, List.length_nil]; omega)) ?_
      rintro _ η23 ⟨ya6, yn6, yc6, rfl, ok, ap⟩
      have ok := ok.cx (ys := (pl ++ [(⟨xk, xp, xn, xa, xc, xl⟩ : RWC)]).flatMap RWC.cells) (by simp [RWC.cells])
      obtain rfl : yn6 = (pl ++ [(⟨xk, xp, xn, xa, xc, xl⟩ : RWC)]).length := (Sl.sz (Cap.sl ok.m0) RWC.cells_len (by decide)).1.symm
      refine ⟨ok.n5.n5.n5.n5.k4, ?_⟩
      have hS := ok.n5.n5.n5.n5.k4
      refine .g 7 false rfl 27 hS (fun _ => .fa T.fd69_2) <| .o1 8 <| .ur' true rfl (.stS T.sz67 ok.n2) ?_
      rintro η24 ⟨ok, cg⟩
      refine ⟨trivial, ?_⟩
      refine .e ?_
      refine .seq <| .r <| .w 28 (.ldb T.ag69 ok.m0 T.sz69) <| .w 29 .mvI <| .ur' (.stW (vs := [.slice sa sl.length sc, .slice adw1 ldw1.length cdw1, .slice ya6 ((pl ++ [(⟨xk, xp, xn, xa, xc, xl⟩ : RWC)]).length) yc6, .int .i64 (if 0 < lf then lf - 1 else lf), .bool (if lf = 0 then true else gn), .int .i64 (if lf = 0 then mn else mn + 1)]) T.sz69 ok.n3 (oneL rfl)) ?_
      rintro η25 ⟨ok, cg⟩
      refine .w 5 .asI <| .nil ?_
      have hfr := ok.n2
      refine .ret ⟨.tuple #[.agg #[.slice sa sl.length sc, .slice adw1 ldw1.length cdw1, .slice ya6 ((pl ++ [(⟨xk, xp, xn, xa, xc, xl⟩ : RWC)]).length) yc6, .int .i64 (if 0 < lf then lf - 1 else lf), .bool (if lf = 0 then true else gn), .int .i64 (if lf = 0 then mn else mn + 1)], .int .i64 (countC lf : Int)], Res.many (vs := [.agg #[.slice sa sl.length sc, .slice adw1 ldw1.length cdw1, .slice ya6 ((pl ++ [(⟨xk, xp, xn, xa, xc, xl⟩ : RWC)]).length) yc6, .int .i64 (if 0 < lf then lf - 1 else lf), .bool (if lf = 0 then true else gn), .int .i64 (if lf = 0 then mn else mn + 1)], .int .i64 (countC lf : Int)]) rfl ⟨⟨_, rfl, load_ag T.ag69 ok.m0 T.sz69⟩, rfl, trivial⟩ rfl, ⟨⟨sa, sc, sl, adw1, cdw1, ldw1, ya6, yc6, pl ++ [(⟨xk, xp, xn, xa, xc, xl⟩ : RWC)], if 0 < lf then lf - 1 else lf, gn, mn + 1⟩, by rw [changeW_1 (by exact hl0)]; simp [hl0, countC, RW.cells], by rw [changeW_1 (by exact hl0)]; simp only [RW.abs, List.map_append, List.map_cons, List.map_nil, hddw1]; rfl, ok.chg, ⟨(ok.r2).mono fun _ h => .inl h.1, (ok.r0).mono (ew_to hsz0 ok.l0), RwB.ofCap (by decide) RWC.cells_len hfr.m0 (fun j hj => .inr (hfr.fresh j hj)) (ch_by (E0 := fun j => E j ∧ j < h.size) (E1 := fun j => E j ∧ j < h.size) ok.r4 ok.r1 (fun _ h => .inl h.1) (fun _ h => .inl h.1))⟩⟩⟩
  have hl0 : lf = 0 := by by_cases h : lf = 0; exact h; exact absurd (by unfold countC; rw [if_neg h]; rfl) C0
  refine .skip <| .seq <| .r <| .w 28 (.ldb T.ag69 ok.m0 T.sz69) <| .w 29 .mvI <| .ur' (.stW (vs := [.slice sa sl.length sc, .slice na nl.length nc, .slice pa pl.length pc, .int .i64 (if 0 < lf then lf - 1 else lf), .bool (if lf = 0 then true else gn), .int .i64 (if lf = 0 then mn else mn + 1)]) T.sz69 ok.n1 (oneL rfl)) ?_
  rintro η26 ⟨ok, cg⟩
  refine .w 5 .asI <| .nil ?_
  refine .ret ⟨.tuple #[.agg #[.slice sa sl.length sc, .slice na nl.length nc, .slice pa pl.length pc, .int .i64 (if 0 < lf then lf - 1 else lf), .bool (if lf = 0 then true else gn), .int .i64 (if lf = 0 then mn else mn + 1)], .int .i64 (countC lf : Int)], Res.many (vs := [.agg #[.slice sa sl.length sc, .slice na nl.length nc, .slice pa pl.length pc, .int .i64 (if 0 < lf then lf - 1 else lf), .bool (if lf = 0 then true else gn), .int .i64 (if lf = 0 then mn else mn + 1)], .int .i64 (countC lf : Int)]) rfl ⟨⟨_, rfl, load_ag T.ag69 ok.m0 T.sz69⟩, rfl, trivial⟩ rfl, ⟨⟨sa, sc, sl, na, nc, nl, pa, pc, pl, lf, true, mn⟩, by rw [changeW_0 (by exact hl0)]; simp [hl0, countC, RW.cells], by rw [changeW_0 (by exact hl0), countW_0 (by exact hl0)]; rfl, ok.chg, ⟨ok.r1.mono (fun _ h => .inl (And.left h)), ok.r2.mono (fun _ h => .inl (And.left h)), ok.r3.mono (fun _ h => .inl (And.left h))⟩⟩⟩

end Go.Proofs.Ytpebbkhainpfaaa

namespace Go.Proofs.Ytpebbkhainpfaaa
open Go Go.HL
def hasW (l : List WF) (n : List UInt8) : Bool := (l.find? fun f => decide (f.n = n)).isSome
def writeW (w : WD) (n : List UInt8) (z : Int) (b : List UInt8) : WD × Nat := if wrongW w.gone n z 0 ≠ 0 then (w, wrongW w.gone n z 0) else if 16777216 < z ∨ 16777216 - z < b.length then (w, 5) else changeW w ⟨0, z.toNat, n, longN b b.length⟩
def truncW (w : WD) (n : List UInt8) (z : Int) : WD × Nat := if wrongW w.gone n z 0 ≠ 0 then (w, wrongW w.gone n z 0) else if hasW w.now n = false then (w, 4) else if 16777216 < z then (w, 5) else changeW w ⟨1, z.toNat, n, []⟩
def removeW (w : WD) (n : List UInt8) : WD × Nat := if wrongW w.gone n 0 0 ≠ 0 then (w, wrongW w.gone n 0 0) else if hasW w.now n = false then (w, 4) else changeW w ⟨2, 0, n, []⟩
def readW (w : WD) (n : List UInt8) (y z : Int) : List UInt8 × Nat := if wrongW w.gone n y z ≠ 0 then ([], wrongW w.gone n y z) else match w.now.find? fun f => decide (f.n = n) with | none => ([], 4) | some f => ((f.b.drop y.toNat).take z.toNat, 0)
def sizeW (w : WD) (n : List UInt8) : Nat × Bool := match w.now.find? fun f => decide (f.n = n) with | none => (0, false) | some f => if w.gone = true then (0, false) else (f.b.length, true)
def filesW (w : WD) : List (List UInt8) := if w.gone = true then [] else w.now.map (·.n)
def cutW (w : WD) (z : Int) : WD := if w.gone = true then w else ⟨w.safe, w.now, w.pend, max z (-1), w.gone, w.many⟩
def newW : WD := ⟨[], [], [], -1, false, 0⟩
theorem ew_up {E X : Nat → Prop} {h h' : Heap} (h1 : ∀ j, X j → E j ∨ h.size ≤ j) (hl : ∀ j, X j → j < h'.size) : ∀ j, X j → (E j ∨ Nw h h' j) := fun j hj => (h1 j hj).imp id fun q => ⟨q, hl j hj⟩
section
variable {w : WD} {n b : List UInt8} {z : Int} {p : Nat}
theorem writeW_w (h : ¬ (wrongW w.gone n z 0 : Int) = 0) : writeW w n z b = (w, wrongW w.gone n z 0) := by unfold writeW; rw [if_pos (by omega)]
theorem writeW_f (h : wrongW w.gone n z 0 = 0) (h2 : 16777216 < z ∨ 16777216 - z < b.length) : writeW w n z b = (w, 5) := by unfold writeW; rw [if_neg (by omega), if_pos h2]
theorem writeW_d (h : wrongW w.gone n (p : Int) 0 = 0) (h2 : ¬ (16777216 < (p : Int) ∨ 16777216 - (p : Int) < b.length)) : writeW w n (p : Int) b = changeW w ⟨0, p, n, longN b b.length⟩ := by unfold writeW; rw [if_neg (by omega), if_neg h2]; rfl
theorem truncW_w (h : ¬ (wrongW w.gone n z 0 : Int) = 0) : truncW w n z = (w, wrongW w.gone n z 0) := by unfold truncW; rw [if_pos (by omega)]
theorem truncW_n (h : wrongW w.gone n z 0 = 0) (h1 : hasW w.now n = false) : truncW w n z = (w, 4) := by unfold truncW; rw [if_neg (by omega), if_pos h1]
theorem truncW_f (h : wrongW w.gone n z 0 = 0) (h1 : hasW w.now n = true) (h2 : 16777216 < z) : truncW w n z = (w, 5) := by unfold truncW; rw [if_neg (by omega), if_neg (by rw [h1]; decide), if_pos h2]
theorem truncW_d (h : wrongW w.gone n (p : Int) 0 = 0) (h1 : hasW w.now n = true) (h2 : ¬ 16777216 < (p : Int)) : truncW w n (p : Int) = changeW w ⟨1, p, n, []⟩ := by unfold truncW; rw [if_neg (by omega), if_neg (by rw [h1]; decide), if_neg h2]; rfl
theorem removeW_w (h : ¬ (wrongW w.gone n 0 0 : Int) = 0) : removeW w n = (w, wrongW w.gone n 0 0) := by unfold removeW; rw [if_pos (by omega)]
theorem removeW_n (h : wrongW w.gone n 0 0 = 0) (h1 : hasW w.now n = false) : removeW w n = (w, 4) := by unfold removeW; rw [if_neg (by omega), if_pos h1]
theorem removeW_d (h : wrongW w.gone n 0 0 = 0) (h1 : hasW w.now n = true) : removeW w n = changeW w ⟨2, 0, n, []⟩ := by unfold removeW; rw [if_neg (by omega), if_neg (by rw [h1]; decide)]
theorem wrongW_pos {gn : Bool} {n : List UInt8} {y z : Int} (h : wrongW gn n y z = 0) : 0 ≤ y ∧ 0 ≤ z := by
  unfold wrongW at h
  split at h
  · cases h
  · omega
theorem hasW_y {f : WF} {l : List WF} (h : l.find? (fun f => decide (f.n = n)) = some f) : hasW l n = true := by unfold hasW; rw [h]; rfl
theorem hasW_n {l : List WF} (h : l.find? (fun f => decide (f.n = n)) = none) : hasW l n = false := by unfold hasW; rw [h]; rfl
end

set_option maxRecDepth 100000 in
set_option maxHeartbeats 2000000 in
theorem rwrite_any {h : Heap} {E F1 E1 : Nat → Prop} {sa na pa : Option Addr} {sc nc pc : Nat} {sl nl : List RWF} {pl : List RWC} {lf : Int} {gn : Bool} {mn : Int} {n : List UInt8} {z : Int} {a : Option Addr} {c : Nat} {l : List UInt8} (hw : DocW h E ⟨sa, sc, sl, na, nc, nl, pa, pc, pl, lf, gn, mn⟩) (hs : WS (RW.abs ⟨sa, sc, sl, na, nc, nl, pa, pc, pl, lf, gn, mn⟩)) (hl : lf ≤ 9223372036854775807) (hb : RdL h F1 E1 (a, l.length, c) l) (hz : -9223372036854775808 ≤ z ∧ z ≤ 9223372036854775807) : HC Try.prog 72 #[.agg #[.slice sa sl.length sc, .slice na nl.length nc, .slice pa pl.length pc, .int .i64 lf, .bool gn, .int .i64 mn], .string (BA n), .int .i64 z, .slice a l.length c] h (fun v h' => ∃ w : RW, v = .tuple #[.agg #[.slice w.sa w.sl.length w.sc, .slice w.na w.nl.length w.nc, .slice w.pa w.pl.length w.pc, .int .i64 w.left, .bool w.gone, .int .i64 w.many], .int .i64 ((writeW (RW.abs ⟨sa, sc, sl, na, nc, nl, pa, pc, pl, lf, gn, mn⟩) n z l).2 : Int)] ∧ w.abs = (writeW (RW.abs ⟨sa, sc, sl, na, nc, nl, pa, pc, pl, lf, gn, mn⟩) n z l).1 ∧ WRet h E w h') := by
  have hsm := hs.many
  have hsl1 := hs.nowl
  have hsl2 := hs.pendl
  have hsl3 := hs.safel
  simp only [RW.abs, List.length_map] at hsm hsl1 hsl2 hsl3
  have hnb := nowb_of hs.nowb
  have ok := (Hp.nil h none_).old (chwI (fun j => E j ∧ j < h.size) (pa, pl.length, pc) pl) (hw.p.lt (by decide)) (fun j hj => hj.2)
  have ok := ok.old (flwI (fun j => E j ∧ j < h.size) (na, nl.length, nc) nl) (hw.n.lt (by decide)) (fun j hj => hj.2)
  have ok := ok.old (flwI (fun j => E j ∧ j < h.size) (sa, sl.length, sc) sl) (hw.s.lt (by decide)) (fun j hj => hj.2)
  have hcn := hw.n.m
  have hcs := hw.s.m
  have hcp := hw.p.m
  simp only at hcn hcs hcp
  have hbc := hb.c
  have hbm := hb.m
  simp only at hbc hbm
  have ok := ok.arg hb
  refine HC.go Try.func72 40 ?_
  refine .seq <| .r <| .a' 4 (.bxA (cs := [.slice sa sl.length sc, .slice na nl.length nc, .slice pa pl.length pc, .int .i64 lf, .bool gn, .int .i64 mn]) ok) ?_
  rintro _ η1 ⟨pb1, rfl, ok, xe⟩
  refine .a' 8 (.alA T.zr69 ok) ?_
  rintro _ η2 ⟨pb2, rfl, ok, xe⟩
  refine .w 9 .asI <| .nil ?_
  refine .seq <| .seq <| .r <| .w 11 (.ldb T.ag69 ok.m1 T.sz69) <| .w 12 .mvT <| .w 13 .mvI <| .c' 14 .func (rwrong_any (n := n) (y := z) (z := 0)) ?_
  rintro _ η3 ⟨rfl, hx⟩
  have ok := ok.ext hx
  refine .w 10 .asI <| .nil ?_
  refine .seq <| .r <| .w 15 .mvI <| .w 16 .neq <| .nil ?_
  refine .cd (fun C0 => ?_) (fun C0 => ?_)
  · --
    refine .seq <| .r <| .w 17 (.ldb T.ag69 ok.m1 T.sz69) <| .w 18 .mvI <| .ur' (.stW (vs := [.slice sa sl.length sc, .slice na nl.length nc, .slice pa pl.length pc, .int .i64 lf, .bool gn, .int .i64 mn]) T.sz69 ok (oneL rfl)) ?_
    rintro η4 ⟨ok, cg⟩
    refine .w 9 .asI <| .nil ?_
    refine .ret ⟨.tuple #[.agg #[.slice sa sl.length sc, .slice na nl.length nc, .slice pa pl.length pc, .int .i64 lf, .bool gn, .int .i64 mn], .int .i64 (wrongW gn n z 0 : Int)], Res.many (vs := [.agg #[.slice sa sl.length sc, .slice na nl.length nc, .slice pa pl.length pc, .int .i64 lf, .bool gn, .int .i64 mn], .int .i64 (wrongW gn n z 0 : Int)]) rfl ⟨⟨_, rfl, load_ag T.ag69 ok.m0 T.sz69⟩, rfl, trivial⟩ rfl, ⟨⟨sa, sc, sl, na, nc, nl, pa, pc, pl, lf, gn, mn⟩, by rw [writeW_w (by exact C0)] <;> rfl, by rw [writeW_w (by exact C0)], ok.chg, ⟨ok.r1.mono (fun _ h => .inl (And.left h)), ok.r2.mono (fun _ h => .inl (And.left h)), ok.r3.mono (fun _ h => .inl (And.left h))⟩⟩⟩
  have hw0 : wrongW gn n z 0 = 0 := by omega
  obtain ⟨p, rfl⟩ : ∃ p : Nat, z = (p : Int) := ⟨(z).toNat, by have := wrongW_pos hw0; omega⟩
  refine .skip <| .seq <| .seq <| .r <| .w 19 .mvI <| .w 20 .gtr <| .w 21 .mvB <| .sd (fun G21 => ?_) (fun G21 => ?_)
  ·
    refine .x 22 <| .x 23 <| .x 24 <| .x 25 <| .x 26 <| .w 27 .pkt <| .nil ?_
    refine .ct <| .seq <| .r <| .w 28 (.ldb T.ag69 ok.m1 T.sz69) <| .ur' (.stW (vs := [.slice sa sl.length sc, .slice na nl.length nc, .slice pa pl.length pc, .int .i64 lf, .bool gn, .int .i64 mn]) T.sz69 ok (oneL rfl)) ?_
    rintro η5 ⟨ok, cg⟩
    refine .w 9 .asI <| .nil ?_
    refine .ret ⟨.tuple #[.agg #[.slice sa sl.length sc, .slice na nl.length nc, .slice pa pl.length pc, .int .i64 lf, .bool gn, .int .i64 mn], .int .i64 5], Res.many (vs := [.agg #[.slice sa sl.length sc, .slice na nl.length nc, .slice pa pl.length pc, .int .i64 lf, .bool gn, .int .i64 mn], .int .i64 5]) rfl ⟨⟨_, rfl, load_ag T.ag69 ok.m0 T.sz69⟩, rfl, trivial⟩ rfl, ⟨⟨sa, sc, sl, na, nc, nl, pa, pc, pl, lf, gn, mn⟩, by rw [writeW_f (by exact hw0) (by omega)] <;> rfl, by rw [writeW_f (by exact hw0) (by omega)], ok.chg, ⟨ok.r1.mono (fun _ h => .inl (And.left h)), ok.r2.mono (fun _ h => .inl (And.left h)), ok.r3.mono (fun _ h => .inl (And.left h))⟩⟩⟩
  refine .w 22 .mvS <| .w 23 (.len T.el22) <| .w 24 .mvI <| .w 25 .sub <| .w 26 .gtr <| .w 27 .pkf <| .nil ?_
  refine .cd (fun C1 => ?_) (fun C1 => ?_)
  · --
    refine .seq <| .r <| .w 28 (.ldb T.ag69 ok.m1 T.sz69) <| .ur' (.stW (vs := [.slice sa sl.length sc, .slice na nl.length nc, .slice pa pl.length pc, .int .i64 lf, .bool gn, .int .i64 mn]) T.sz69 ok (oneL rfl)) ?_
    rintro η6 ⟨ok, cg⟩
    refine .w 9 .asI <| .nil ?_
    refine .ret ⟨.tuple #[.agg #[.slice sa sl.length sc, .slice na nl.length nc, .slice pa pl.length pc, .int .i64 lf, .bool gn, .int .i64 mn], .int .i64 5], Res.many (vs := [.agg #[.slice sa sl.length sc, .slice na nl.length nc, .slice pa pl.length pc, .int .i64 lf, .bool gn, .int .i64 mn], .int .i64 5]) rfl ⟨⟨_, rfl, load_ag T.ag69 ok.m0 T.sz69⟩, rfl, trivial⟩ rfl, ⟨⟨sa, sc, sl, na, nc, nl, pa, pc, pl, lf, gn, mn⟩, by rw [writeW_f (by exact hw0) (by omega)] <;> rfl, by rw [writeW_f (by exact hw0) (by omega)], ok.chg, ⟨ok.r1.mono (fun _ h => .inl (And.left h)), ok.r2.mono (fun _ h => .inl (And.left h)), ok.r3.mono (fun _ h => .inl (And.left h))⟩⟩⟩
  refine .skip <| .seq <| .a 8 (fun fl hh => cond fl True (Hp h none_ [boxI pb2 69 [.slice none 0 0, .slice none 0 0, .slice none 0 0, .int .i64 0, .bool false, .int .i64 0], boxI pb1 69 [.slice sa sl.length sc, .slice na nl.length nc, .slice pa pl.length pc, .int .i64 lf, .bool gn, .int .i64 mn]] [rdI (fun j => F1 j ∧ j < h.size) (fun j => E1 j ∧ j < h.size) (a, l.length, c) l, flwI (fun j => E j ∧ j < h.size) (sa, sl.length, sc) sl, flwI (fun j => E j ∧ j < h.size) (na, nl.length, nc) nl, chwI (fun j => E j ∧ j < h.size) (pa, pl.length, pc) pl] hh)) mixed ?_
  have hS := ok
  refine .l 0 false rfl 29 hS (fun _ hS => .ldb T.ag69 hS.m1 T.sz69) <| .g 1 false rfl 30 hS (fun _ => .mvT) <| .g 2 false rfl 31 hS (fun _ => .mvI) <| .g 3 false rfl 32 hS (fun _ => .mvS) <| .g 4 false rfl 33 hS (fun _ => .mvS) <| .g 5 false rfl 34 hS (fun _ => .len T.el22) <| .o1 6 <| .c' false rfl 35 .func (rlong_any (a := a) (c := c) (l := l) (n := l.length) ok.r0 (by omega)) ?_
  rintro _ η7 own
  obtain ⟨ya1, yc1, rfl⟩ := own.formB
  have ok := ok.own own
  refine ⟨ok.n2.n2.k2, ?_⟩
  have hS := ok.n2.n2.k2
  refine .g 7 false rfl 36 hS (fun _ => .bd #[.int .i64 0, .int .i64 (p : Int), .string (BA n), .slice ya1 ((longN l l.length).length) yc1] T.zr152 T.pl152 rfl) <| .o1 8 <| ?_
  have hfx := (ok).fresh
  have ok := (ok).frzB (l := (longN l l.length)) rfl
  refine .c' true rfl 37 .func (change_any (E := (fun j => (E j ∧ j < h.size) ∨ blkC (sv (ya1, (longN l l.length).length, yc1)) j)) (sa := sa) (na := na) (pa := pa) (sc := sc) (nc := nc) (pc := pc) (sl := sl) (nl := nl) (pl := pl) (lf := lf) (gn := gn) (mn := mn) (xk := 0) (xp := p) (xn := n) (xl := (longN l l.length)) (xa := ya1) (xc := yc1) ⟨(ok.r2).mono (fun _ h => .inl h), (ok.r3).mono (fun _ h => .inl h), (ok.r4).mono (fun _ h => .inl h)⟩ hs hl ((ok.r0).mono (fun _ h => .inr h) (fun _ f => f.elim)) (by rw [longN_len]; omega)) ?_
  rintro _ η8 ⟨wch1, rfl, hwch1, hrch1⟩
  have hsz0 := ok.chg.size
  have ok := ok.or (r := flwI (fun j => E j ∧ j < h.size) (sa, sl.length, sc) sl) (r' := rdI (blkC (sv (ya1, (longN l l.length).length, yc1))) none_ (ya1, (longN l l.length).length, yc1) (longN l l.length)) (by simp) (by simp) (docI (fun j => (E j ∧ j < h.size) ∨ blkC (sv (ya1, (longN l l.length).length, yc1)) j) ⟨sa, sc, sl, na, nc, nl, pa, pc, pl, lf, gn, mn⟩) ⟨(ok.r2).mono (fun _ h => .inl h), (ok.r3).mono (fun _ h => .inl h), (ok.r4).mono (fun _ h => .inl h)⟩ (fun j hj => hj.imp id .inl)
  have ok := ok.grow hrch1.ext (r := docI (fun j => (E j ∧ j < h.size) ∨ blkC (sv (ya1, (longN l l.length).length, yc1)) j) ⟨sa, sc, sl, na, nc, nl, pa, pc, pl, lf, gn, mn⟩) (by simp) (docI (fun j => (fun j => (E j ∧ j < h.size) ∨ blkC (sv (ya1, (longN l l.length).length, yc1)) j) j ∨ Nw η7 η8 j) wch1) hrch1.rd (fun j hj => hj)
  refine ⟨trivial, ?_⟩
  refine .g 9 true rfl 38 trivial (fun _ => .ex) <| .g 10 true rfl 39 trivial (fun _ => .ex) <| .o1 11 <| .ur' true rfl (.stW (vs := [.slice wch1.sa wch1.sl.length wch1.sc, .slice wch1.na wch1.nl.length wch1.nc, .slice wch1.pa wch1.pl.length wch1.pc, .int .i64 wch1.left, .bool wch1.gone, .int .i64 wch1.many]) T.sz69 ok (oneL rfl)) ?_
  rintro η9 ⟨ok, cg⟩
  refine ⟨trivial, ?_⟩
  refine .g 12 true rfl 9 trivial (fun _ => .asI) <| .e ?_
  refine .ret ⟨.tuple #[.agg #[.slice wch1.sa wch1.sl.length wch1.sc, .slice wch1.na wch1.nl.length wch1.nc, .slice wch1.pa wch1.pl.length wch1.pc, .int .i64 wch1.left, .bool wch1.gone, .int .i64 wch1.many], .int .i64 ((changeW (RW.abs ⟨sa, sc, sl, na, nc, nl, pa, pc, pl, lf, gn, mn⟩) ⟨0, p, n, (longN l l.length)⟩).2 : Int)], Res.many (vs := [.agg #[.slice wch1.sa wch1.sl.length wch1.sc, .slice wch1.na wch1.nl.length wch1.nc, .slice wch1.pa wch1.pl.length wch1.pc, .int .i64 wch1.left, .bool wch1.gone, .int .i64 wch1.many], .int .i64 ((changeW (RW.abs ⟨sa, sc, sl, na, nc, nl, pa, pc, pl, lf, gn, mn⟩) ⟨0, p, n, (longN l l.length)⟩).2 : Int)]) rfl ⟨⟨_, rfl, load_ag T.ag69 ok.m0 T.sz69⟩, rfl, trivial⟩ rfl, ⟨wch1, by rw [writeW_d (by exact hw0) (by omega)] <;> rfl, by rw [writeW_d (by exact hw0) (by omega)]; exact hwch1, ok.chg, (ok.r0).mono (ew_up (fun j hj => by rcases hj with (h | h) | h; exact .inl h.1; exact .inr (hfx j h).1; exact .inr (Nat.le_trans hsz0 h.1)) ok.l0)⟩⟩

set_option maxRecDepth 100000 in
set_option maxHeartbeats 2000000 in
theorem rtrunc_any {h : Heap} {E : Nat → Prop} {sa na pa : Option Addr} {sc nc pc : Nat} {sl nl : List RWF} {pl : List RWC} {lf : Int} {gn : Bool} {mn : Int} {n : List UInt8} {z : Int} (hw : DocW h E ⟨sa, sc, sl, na, nc, nl, pa, pc, pl, lf, gn, mn⟩) (hs : WS (RW.abs ⟨sa, sc, sl, na, nc, nl, pa, pc, pl, lf, gn, mn⟩)) (hl : lf ≤ 9223372036854775807) (hz : -9223372036854775808 ≤ z ∧ z ≤ 9223372036854775807) : HC Try.prog 75 #[.agg #[.slice sa sl.length sc, .slice na nl.length nc, .slice pa pl.length pc, .int .i64 lf, .bool gn, .int .i64 mn], .string (BA n), .int .i64 z] h (fun v h' => ∃ w : RW, v = .tuple #[.agg #[.slice w.sa w.sl.length w.sc, .slice w.na w.nl.length w.nc, .slice w.pa w.pl.length w.pc, .int .i64 w.left, .bool w.gone, .int .i64 w.many], .int .i64 ((truncW (RW.abs ⟨sa, sc, sl, na, nc, nl, pa, pc, pl, lf, gn, mn⟩) n z).2 : Int)] ∧ w.abs = (truncW (RW.abs ⟨sa, sc, sl, na, nc, nl, pa, pc, pl, lf, gn, mn⟩) n z).1 ∧ WRet h E w h') := by
  have hsm := hs.many
  have hsl1 := hs.nowl
  have hsl2 := hs.pendl
  have hsl3 := hs.safel
  simp only [RW.abs, List.length_map] at hsm hsl1 hsl2 hsl3
  have hnb := nowb_of hs.nowb
  have ok := (Hp.nil h none_).old (chwI (fun j => E j ∧ j < h.size) (pa, pl.length, pc) pl) (hw.p.lt (by decide)) (fun j hj => hj.2)
  have ok := ok.old (flwI (fun j => E j ∧ j < h.size) (na, nl.length, nc) nl) (hw.n.lt (by decide)) (fun j hj => hj.2)
  have ok := ok.old (flwI (fun j => E j ∧ j < h.size) (sa, sl.length, sc) sl) (hw.s.lt (by decide)) (fun j hj => hj.2)
  have hcn := hw.n.m
  have hcs := hw.s.m
  have hcp := hw.p.m
  simp only at hcn hcs hcp
  refine HC.go Try.func75 33 ?_
  refine .seq <| .r <| .a' 3 (.bxA (cs := [.slice sa sl.length sc, .slice na nl.length nc, .slice pa pl.length pc, .int .i64 lf, .bool gn, .int .i64 mn]) ok) ?_
  rintro _ η1 ⟨pb1, rfl, ok, xe⟩
  refine .a' 6 (.alA T.zr69 ok) ?_
  rintro _ η2 ⟨pb2, rfl, ok, xe⟩
  refine .w 7 .asI <| .nil ?_
  refine .seq <| .seq <| .r <| .w 9 (.ldb T.ag69 ok.m1 T.sz69) <| .w 10 .mvT <| .w 11 .mvI <| .c' 12 .func (rwrong_any (n := n) (y := z) (z := 0)) ?_
  rintro _ η3 ⟨rfl, hx⟩
  have ok := ok.ext hx
  refine .w 8 .asI <| .nil ?_
  refine .seq <| .r <| .w 13 .mvI <| .w 14 .neq <| .nil ?_
  refine .cd (fun C0 => ?_) (fun C0 => ?_)
  · --
    refine .seq <| .r <| .w 15 (.ldb T.ag69 ok.m1 T.sz69) <| .w 16 .mvI <| .ur' (.stW (vs := [.slice sa sl.length sc, .slice na nl.length nc, .slice pa pl.length pc, .int .i64 lf, .bool gn, .int .i64 mn]) T.sz69 ok (oneL rfl)) ?_
    rintro η4 ⟨ok, cg⟩
    refine .w 7 .asI <| .nil ?_
    refine .ret ⟨.tuple #[.agg #[.slice sa sl.length sc, .slice na nl.length nc, .slice pa pl.length pc, .int .i64 lf, .bool gn, .int .i64 mn], .int .i64 (wrongW gn n z 0 : Int)], Res.many (vs := [.agg #[.slice sa sl.length sc, .slice na nl.length nc, .slice pa pl.length pc, .int .i64 lf, .bool gn, .int .i64 mn], .int .i64 (wrongW gn n z 0 : Int)]) rfl ⟨⟨_, rfl, load_ag T.ag69 ok.m0 T.sz69⟩, rfl, trivial⟩ rfl, ⟨⟨sa, sc, sl, na, nc, nl, pa, pc, pl, lf, gn, mn⟩, by rw [truncW_w (by exact C0)] <;> rfl, by rw [truncW_w (by exact C0)], ok.chg, ⟨ok.r0.mono (fun _ h => .inl (And.left h)), ok.r1.mono (fun _ h => .inl (And.left h)), ok.r2.mono (fun _ h => .inl (And.left h))⟩⟩⟩
  have hw0 : wrongW gn n z 0 = 0 := by omega
  obtain ⟨p, rfl⟩ : ∃ p : Nat, z = (p : Int) := ⟨(z).toNat, by have := wrongW_pos hw0; omega⟩
  refine .skip <| .seq <| .seq <| .r <| .w 17 (.fa T.fd69_1) <| .w 18 (.ldx T.ag66 ok.m1) <| .w 19 .mvT <| .c' 20 .func (find_any (a := na) (c := nc) (l := nl) (n := n) ok.r1) ?_
  rintro _ _ ⟨_, rfl, (⟨k1, hkk1, rfl, hnk1, hmk1⟩ | ⟨rfl, hmk1⟩), heq⟩
  · --
    obtain rfl := heq.symm
    have hfd := fd_some hkk1 hnk1 hmk1
    refine .w 21 .lss <| .nil ?_
    refine .cd (fun C1 => ?_) (fun C1 => ?_)
    · --
      omega
    refine .skip <| .seq <| .seq <| .r <| .w 23 .mvI <| .w 24 .gtr <| .nil ?_
    refine .cd (fun C2 => ?_) (fun C2 => ?_)
    · --
      refine .seq <| .r <| .w 25 (.ldb T.ag69 ok.m1 T.sz69) <| .ur' (.stW (vs := [.slice sa sl.length sc, .slice na nl.length nc, .slice pa pl.length pc, .int .i64 lf, .bool gn, .int .i64 mn]) T.sz69 ok (oneL rfl)) ?_
      rintro η5 ⟨ok, cg⟩
      refine .w 7 .asI <| .nil ?_
      refine .ret ⟨.tuple #[.agg #[.slice sa sl.length sc, .slice na nl.length nc, .slice pa pl.length pc, .int .i64 lf, .bool gn, .int .i64 mn], .int .i64 5], Res.many (vs := [.agg #[.slice sa sl.length sc, .slice na nl.length nc, .slice pa pl.length pc, .int .i64 lf, .bool gn, .int .i64 mn], .int .i64 5]) rfl ⟨⟨_, rfl, load_ag T.ag69 ok.m0 T.sz69⟩, rfl, trivial⟩ rfl, ⟨⟨sa, sc, sl, na, nc, nl, pa, pc, pl, lf, gn, mn⟩, by rw [truncW_f (by exact hw0) (hasW_y (by exact hfd)) (by omega)] <;> rfl, by rw [truncW_f (by exact hw0) (hasW_y (by exact hfd)) (by omega)], ok.chg, ⟨ok.r0.mono (fun _ h => .inl (And.left h)), ok.r1.mono (fun _ h => .inl (And.left h)), ok.r2.mono (fun _ h => .inl (And.left h))⟩⟩⟩
    refine .skip <| .seq <| .r <| .w 26 (.ldb T.ag69 ok.m1 T.sz69) <| .w 27 .mvT <| .w 28 .mvI <| .w 29 (.bd #[.int .i64 1, .int .i64 (p : Int), .string (BA n), .slice none 0 0] T.zr152 T.pl152 rfl) <| ?_
    refine .c' 30 .func (change_any (E := (fun j => E j ∧ j < h.size)) (sa := sa) (na := na) (pa := pa) (sc := sc) (nc := nc) (pc := pc) (sl := sl) (nl := nl) (pl := pl) (lf := lf) (gn := gn) (mn := mn) (xk := 1) (xp := p) (xn := n) (xl := ([] : List UInt8)) (xa := none) (xc := 0) ⟨(ok.r0), (ok.r1), (ok.r2)⟩ hs hl (RdL.nil _ _ _) (by simp only [List.length_nil]; omega)) ?_
    rintro _ η6 ⟨wch1, rfl, hwch1, hrch1⟩
    have hsz0 := ok.chg.size
    have ok := ok.grow hrch1.ext (r := flwI (fun j => E j ∧ j < h.size) (sa, sl.length, sc) sl) (by simp) (docI (fun j => (fun j => E j ∧ j < h.size) j ∨ Nw η3 η6 j) wch1) hrch1.rd (fun j hj => hj)
    refine .w 31 .ex <| .w 32 .ex <| .ur' (.stW (vs := [.slice wch1.sa wch1.sl.length wch1.sc, .slice wch1.na wch1.nl.length wch1.nc, .slice wch1.pa wch1.pl.length wch1.pc, .int .i64 wch1.left, .bool wch1.gone, .int .i64 wch1.many]) T.sz69 ok (oneL rfl)) ?_
    rintro η7 ⟨ok, cg⟩
    refine .w 7 .asI <| .nil ?_
    refine .ret ⟨.tuple #[.agg #[.slice wch1.sa wch1.sl.length wch1.sc, .slice wch1.na wch1.nl.length wch1.nc, .slice wch1.pa wch1.pl.length wch1.pc, .int .i64 wch1.left, .bool wch1.gone, .int .i64 wch1.many], .int .i64 ((changeW (RW.abs ⟨sa, sc, sl, na, nc, nl, pa, pc, pl, lf, gn, mn⟩) ⟨1, p, n, ([] : List UInt8)⟩).2 : Int)], Res.many (vs := [.agg #[.slice wch1.sa wch1.sl.length wch1.sc, .slice wch1.na wch1.nl.length wch1.nc, .slice wch1.pa wch1.pl.length wch1.pc, .int .i64 wch1.left, .bool wch1.gone, .int .i64 wch1.many], .int .i64 ((changeW (RW.abs ⟨sa, sc, sl, na, nc, nl, pa, pc, pl, lf, gn, mn⟩) ⟨1, p, n, ([] : List UInt8)⟩).2 : Int)]) rfl ⟨⟨_, rfl, load_ag T.ag69 ok.m0 T.sz69⟩, rfl, trivial⟩ rfl, ⟨wch1, by rw [truncW_d (by exact hw0) (hasW_y (by exact hfd)) (by omega)] <;> rfl, by rw [truncW_d (by exact hw0) (hasW_y (by exact hfd)) (by omega)]; exact hwch1, ok.chg, (ok.r0).mono (ew_up (fun j hj => by rcases hj with h | h; exact .inl h.1; exact .inr (Nat.le_trans hsz0 h.1)) ok.l0)⟩⟩
  obtain rfl := heq.symm
  have hfd := fd_none hmk1
  refine .w 21 .lss <| .nil ?_
  refine .ct <| .seq <| .r <| .w 22 (.ldb T.ag69 ok.m1 T.sz69) <| .ur' (.stW (vs := [.slice sa sl.length sc, .slice na nl.length nc, .slice pa pl.length pc, .int .i64 lf, .bool gn, .int .i64 mn]) T.sz69 ok (oneL rfl)) ?_
  rintro η8 ⟨ok, cg⟩
  refine .w 7 .asI <| .nil ?_
  refine .ret ⟨.tuple #[.agg #[.slice sa sl.length sc, .slice na nl.length nc, .slice pa pl.length pc, .int .i64 lf, .bool gn, .int .i64 mn], .int .i64 4], Res.many (vs := [.agg #[.slice sa sl.length sc, .slice na nl.length nc, .slice pa pl.length pc, .int .i64 lf, .bool gn, .int .i64 mn], .int .i64 4]) rfl ⟨⟨_, rfl, load_ag T.ag69 ok.m0 T.sz69⟩, rfl, trivial⟩ rfl, ⟨⟨sa, sc, sl, na, nc, nl, pa, pc, pl, lf, gn, mn⟩, by rw [truncW_n (by exact hw0) (hasW_n (by exact hfd))] <;> rfl, by rw [truncW_n (by exact hw0) (hasW_n (by exact hfd))], ok.chg, ⟨ok.r0.mono (fun _ h => .inl (And.left h)), ok.r1.mono (fun _ h => .inl (And.left h)), ok.r2.mono (fun _ h => .inl (And.left h))⟩⟩⟩

set_option maxRecDepth 100000 in
set_option maxHeartbeats 2000000 in
theorem rremove_any {h : Heap} {E : Nat → Prop} {sa na pa : Option Addr} {sc nc pc : Nat} {sl nl : List RWF} {pl : List RWC} {lf : Int} {gn : Bool} {mn : Int} {n : List UInt8} (hw : DocW h E ⟨sa, sc, sl, na, nc, nl, pa, pc, pl, lf, gn, mn⟩) (hs : WS (RW.abs ⟨sa, sc, sl, na, nc, nl, pa, pc, pl, lf, gn, mn⟩)) (hl : lf ≤ 9223372036854775807) : HC Try.prog 77 #[.agg #[.slice sa sl.length sc, .slice na nl.length nc, .slice pa pl.length pc, .int .i64 lf, .bool gn, .int .i64 mn], .string (BA n)] h (fun v h' => ∃ w : RW, v = .tuple #[.agg #[.slice w.sa w.sl.length w.sc, .slice w.na w.nl.length w.nc, .slice w.pa w.pl.length w.pc, .int .i64 w.left, .bool w.gone, .int .i64 w.many], .int .i64 ((removeW (RW.abs ⟨sa, sc, sl, na, nc, nl, pa, pc, pl, lf, gn, mn⟩) n).2 : Int)] ∧ w.abs = (removeW (RW.abs ⟨sa, sc, sl, na, nc, nl, pa, pc, pl, lf, gn, mn⟩) n).1 ∧ WRet h E w h') := by
  have hsm := hs.many
  have hsl1 := hs.nowl
  have hsl2 := hs.pendl
  have hsl3 := hs.safel
  simp only [RW.abs, List.length_map] at hsm hsl1 hsl2 hsl3
  have hnb := nowb_of hs.nowb
  have ok := (Hp.nil h none_).old (chwI (fun j => E j ∧ j < h.size) (pa, pl.length, pc) pl) (hw.p.lt (by decide)) (fun j hj => hj.2)
  have ok := ok.old (flwI (fun j => E j ∧ j < h.size) (na, nl.length, nc) nl) (hw.n.lt (by decide)) (fun j hj => hj.2)
  have ok := ok.old (flwI (fun j => E j ∧ j < h.size) (sa, sl.length, sc) sl) (hw.s.lt (by decide)) (fun j hj => hj.2)
  have hcn := hw.n.m
  have hcs := hw.s.m
  have hcp := hw.p.m
  simp only at hcn hcs hcp
  refine HC.go Try.func77 26 ?_
  refine .seq <| .r <| .a' 2 (.bxA (cs := [.slice sa sl.length sc, .slice na nl.length nc, .slice pa pl.length pc, .int .i64 lf, .bool gn, .int .i64 mn]) ok) ?_
  rintro _ η1 ⟨pb1, rfl, ok, xe⟩
  refine .a' 4 (.alA T.zr69 ok) ?_
  rintro _ η2 ⟨pb2, rfl, ok, xe⟩
  refine .w 5 .asI <| .nil ?_
  refine .seq <| .seq <| .r <| .w 7 (.ldb T.ag69 ok.m1 T.sz69) <| .w 8 .mvT <| .c' 9 .func (rwrong_any (n := n) (y := 0) (z := 0)) ?_
  rintro _ η3 ⟨rfl, hx⟩
  have ok := ok.ext hx
  refine .w 6 .asI <| .nil ?_
  refine .seq <| .r <| .w 10 .mvI <| .w 11 .neq <| .nil ?_
  refine .cd (fun C0 => ?_) (fun C0 => ?_)
  · --
    refine .seq <| .r <| .w 12 (.ldb T.ag69 ok.m1 T.sz69) <| .w 13 .mvI <| .ur' (.stW (vs := [.slice sa sl.length sc, .slice na nl.length nc, .slice pa pl.length pc, .int .i64 lf, .bool gn, .int .i64 mn]) T.sz69 ok (oneL rfl)) ?_
    rintro η4 ⟨ok, cg⟩
    refine .w 5 .asI <| .nil ?_
    refine .ret ⟨.tuple #[.agg #[.slice sa sl.length sc, .slice na nl.length nc, .slice pa pl.length pc, .int .i64 lf, .bool gn, .int .i64 mn], .int .i64 (wrongW gn n 0 0 : Int)], Res.many (vs := [.agg #[.slice sa sl.length sc, .slice na nl.length nc, .slice pa pl.length pc, .int .i64 lf, .bool gn, .int .i64 mn], .int .i64 (wrongW gn n 0 0 : Int)]) rfl ⟨⟨_, rfl, load_ag T.ag69 ok.m0 T.sz69⟩, rfl, trivial⟩ rfl, ⟨⟨sa, sc, sl, na, nc, nl, pa, pc, pl, lf, gn, mn⟩, by rw [removeW_w (by exact C0)] <;> rfl, by rw [removeW_w (by exact C0)], ok.chg, ⟨ok.r0.mono (fun _ h => .inl (And.left h)), ok.r1.mono (fun _ h => .inl (And.left h)), ok.r2.mono (fun _ h => .inl (And.left h))⟩⟩⟩
  have hw0 : wrongW gn n 0 0 = 0 := by omega
  refine .skip <| .seq <| .seq <| .r <| .w 14 (.fa T.fd69_1) <| .w 15 (.ldx T.ag66 ok.m1) <| .w 16 .mvT <| .c' 17 .func (find_any (a := na) (c := nc) (l := nl) (n := n) ok.r1) ?_
  rintro _ _ ⟨_, rfl, (⟨k1, hkk1, rfl, hnk1, hmk1⟩ | ⟨rfl, hmk1⟩), heq⟩
  · --
    obtain rfl := heq.symm
    have hfd := fd_some hkk1 hnk1 hmk1
    refine .w 18 .lss <| .nil ?_
    refine .cd (fun C1 => ?_) (fun C1 => ?_)
    · --
      omega
    refine .skip <| .seq <| .r <| .w 20 (.ldb T.ag69 ok.m1 T.sz69) <| .w 21 .mvT <| .w 22 (.bd #[.int .i64 2, .int .i64 0, .string (BA n), .slice none 0 0] T.zr152 T.pl152 rfl) <| ?_
    refine .c' 23 .func (change_any (E := (fun j => E j ∧ j < h.size)) (sa := sa) (na := na) (pa := pa) (sc := sc) (nc := nc) (pc := pc) (sl := sl) (nl := nl) (pl := pl) (lf := lf) (gn := gn) (mn := mn) (xk := 2) (xp := 0) (xn := n) (xl := ([] : List UInt8)) (xa := none) (xc := 0) ⟨(ok.r0), (ok.r1), (ok.r2)⟩ hs hl (RdL.nil _ _ _) (by simp only [List.length_nil]; omega)) ?_
    rintro _ η5 ⟨wch1, rfl, hwch1, hrch1⟩
    have hsz0 := ok.chg.size
    have ok := ok.grow hrch1.ext (r := flwI (fun j => E j ∧ j < h.size) (sa, sl.length, sc) sl) (by simp) (docI (fun j => (fun j => E j ∧ j < h.size) j ∨ Nw η3 η5 j) wch1) hrch1.rd (fun j hj => hj)
    refine .w 24 .ex <| .w 25 .ex <| .ur' (.stW (vs := [.slice wch1.sa wch1.sl.length wch1.sc, .slice wch1.na wch1.nl.length wch1.nc, .slice wch1.pa wch1.pl.length wch1.pc, .int .i64 wch1.left, .bool wch1.gone, .int .i64 wch1.many]) T.sz69 ok (oneL rfl)) ?_
    rintro η6 ⟨ok, cg⟩
    refine .w 5 .asI <| .nil ?_
    refine .ret ⟨.tuple #[.agg #[.slice wch1.sa wch1.sl.length wch1.sc, .slice wch1.na wch1.nl.length wch1.nc, .slice wch1.pa wch1.pl.length wch1.pc, .int .i64 wch1.left, .bool wch1.gone, .int .i64 wch1.many], .int .i64 ((changeW (RW.abs ⟨sa, sc, sl, na, nc, nl, pa, pc, pl, lf, gn, mn⟩) ⟨2, 0, n, ([] : List UInt8)⟩).2 : Int)], Res.many (vs := [.agg #[.slice wch1.sa wch1.sl.length wch1.sc, .slice wch1.na wch1.nl.length wch1.nc, .slice wch1.pa wch1.pl.length wch1.pc, .int .i64 wch1.left, .bool wch1.gone, .int .i64 wch1.many], .int .i64 ((changeW (RW.abs ⟨sa, sc, sl, na, nc, nl, pa, pc, pl, lf, gn, mn⟩) ⟨2, 0, n, ([] : List UInt8)⟩).2 : Int)]) rfl ⟨⟨_, rfl, load_ag T.ag69 ok.m0 T.sz69⟩, rfl, trivial⟩ rfl, ⟨wch1, by rw [removeW_d (by exact hw0) (hasW_y (by exact hfd))] <;> rfl, by rw [removeW_d (by exact hw0) (hasW_y (by exact hfd))]; exact hwch1, ok.chg, (ok.r0).mono (ew_up (fun j hj => by rcases hj with h | h; exact .inl h.1; exact .inr (Nat.le_trans hsz0 h.1)) ok.l0)⟩⟩
  obtain rfl := heq.symm
  have hfd := fd_none hmk1
  refine .w 18 .lss <| .nil ?_
  refine .ct <| .seq <| .r <| .w 19 (.ldb T.ag69 ok.m1 T.sz69) <| .ur' (.stW (vs := [.slice sa sl.length sc, .slice na nl.length nc, .slice pa pl.length pc, .int .i64 lf, .bool gn, .int .i64 mn]) T.sz69 ok (oneL rfl)) ?_
  rintro η7 ⟨ok, cg⟩
  refine .w 5 .asI <| .nil ?_
  refine .ret ⟨.tuple #[.agg #[.slice sa sl.length sc, .slice na nl.length nc, .slice pa pl.length pc, .int .i64 lf, .bool gn, .int .i64 mn], .int .i64 4], Res.many (vs := [.agg #[.slice sa sl.length sc, .slice na nl.length nc, .slice pa pl.length pc, .int .i64 lf, .bool gn, .int .i64 mn], .int .i64 4]) rfl ⟨⟨_, rfl, load_ag T.ag69 ok.m0 T.sz69⟩, rfl, trivial⟩ rfl, ⟨⟨sa, sc, sl, na, nc, nl, pa, pc, pl, lf, gn, mn⟩, by rw [removeW_n (by exact hw0) (hasW_n (by exact hfd))] <;> rfl, by rw [removeW_n (by exact hw0) (hasW_n (by exact hfd))], ok.chg, ⟨ok.r0.mono (fun _ h => .inl (And.left h)), ok.r1.mono (fun _ h => .inl (And.left h)), ok.r2.mono (fun _ h => .inl (And.left h))⟩⟩⟩

end Go.Proofs.Ytpebbkhainpfaaa

namespace Go.Proofs.Ytpebbkhainpfaaa
open Go Go.HL
def syncW (w : WD) (n : List UInt8) : WD × Nat :=
  if wrongW w.gone n 0 0 ≠ 0 then (w, wrongW w.gone n 0 0) else if hasW w.now n = false ∧ (withoutL WC.n w.pend n).length = w.pend.length then (w, 4) else if w.left = 0 then (countW w, 13)
  else (⟨match w.now.find? fun f => decide (f.n = n) with | none => withoutL WF.n w.safe n | some f => withL WF.n f w.safe, w.now, withoutL WC.n w.pend n, if 0 < w.left then w.left - 1 else w.left, w.gone, w.many + 1⟩, 0)
section
variable {w : WD} {n b : List UInt8} {y z : Int} {p q : Nat} {f : WF}
theorem readW_w (h : ¬ (wrongW w.gone n y z : Int) = 0) : readW w n y z = ([], wrongW w.gone n y z) := by unfold readW; rw [if_pos (by omega)]
theorem readW_n (h : wrongW w.gone n y z = 0) (h1 : w.now.find? (fun f => decide (f.n = n)) = none) : readW w n y z = ([], 4) := by unfold readW; rw [if_neg (by omega), h1]
theorem readW_f (h : wrongW w.gone n (p : Int) (q : Int) = 0) (h1 : w.now.find? (fun f => decide (f.n = n)) = some f) : readW w n (p : Int) (q : Int) = ((f.b.drop p).take q, 0) := by unfold readW; rw [if_neg (by omega), h1]; rfl
theorem sizeW_n (h1 : w.now.find? (fun f => decide (f.n = n)) = none) : sizeW w n = (0, false) := by unfold sizeW; rw [h1]
theorem sizeW_g (h1 : w.gone = true) : sizeW w n = (0, false) := by unfold sizeW; cases w.now.find? (fun f => decide (f.n = n)) with | none => rfl | some f => simp only; rw [if_pos h1]
theorem sizeW_f (h1 : w.now.find? (fun f => decide (f.n = n)) = some f) (h2 : w.gone = false) : sizeW w n = (f.b.length, true) := by unfold sizeW; rw [h1]; simp only; rw [if_neg (by rw [h2]; decide)]
theorem syncW_w (h : ¬ (wrongW w.gone n 0 0 : Int) = 0) : syncW w n = (w, wrongW w.gone n 0 0) := by unfold syncW; rw [if_pos (by omega)]
theorem syncW_n (h : wrongW w.gone n 0 0 = 0) (h1 : hasW w.now n = false) (h2 : (withoutL WC.n w.pend n).length = w.pend.length) : syncW w n = (w, 4) := by unfold syncW; rw [if_neg (by omega), if_pos ⟨h1, h2⟩]
theorem syncW_p (h : wrongW w.gone n 0 0 = 0) (h1 : ¬ (hasW w.now n = false ∧ (withoutL WC.n w.pend n).length = w.pend.length)) (h2 : w.left = 0) : syncW w n = (countW w, 13) := by unfold syncW; rw [if_neg (by omega), if_neg h1, if_pos h2]
theorem syncW_d (h : wrongW w.gone n 0 0 = 0) (h1 : ¬ (hasW w.now n = false ∧ (withoutL WC.n w.pend n).length = w.pend.length)) (h2 : ¬ w.left = 0) {s : List WF} (hs : (match w.now.find? fun f => decide (f.n = n) with | none => withoutL WF.n w.safe n | some f => withL WF.n f w.safe) = s) : syncW w n = (⟨s, w.now, withoutL WC.n w.pend n, if 0 < w.left then w.left - 1 else w.left, w.gone, w.many + 1⟩, 0) := by unfold syncW; rw [if_neg (by omega), if_neg h1, if_neg h2, hs]
end
theorem wog {α : Type} {nm : α → List UInt8} {x : α} {l : List α} {n : List UInt8} (h : nm x ≠ n) : withoutL nm (x :: l) n = x :: withoutL nm l n := by simp [withoutL, h]
theorem wos {α : Type} {nm : α → List UInt8} {x : α} {l : List α} {n : List UInt8} (h : nm x = n) : withoutL nm (x :: l) n = withoutL nm l n := by simp [withoutL, h]
theorem pend_len {pl : List RWC} {n : List UInt8} : (withoutL WC.n (pl.map RWC.abs) n).length = (withoutL RWC.n pl n).length := by rw [← withoutL_map RWC.n WC.n RWC.abs (fun _ => rfl), List.length_map]

theorem take_snoc {l : List UInt8} {p i : Nat} (h : p + i < l.length) : (l.drop p).take i ++ [l[p + i]] = (l.drop p).take (i + 1) := by
  rw [List.take_succ_eq_append_getElem (by simp; omega), List.getElem_drop]
theorem files_own {h h' : Heap} {e : TypeId} {v : Value} {w : WD} {gn : Bool} {nl : List RWF} {o : List (List UInt8)} {i : Nat} (hg : w.gone = gn) (hn : w.now = nl.map RWF.abs) (ho : o = (nl.take i).map RWF.n) (hi : i ≤ nl.length) (hig : i = 0 ∨ gn = false) (he : i = nl.length ∨ gn = true) (q : Own h h' 1 e v (o.map kvB)) : Own h h' 1 e v ((filesW w).map kvB) := by
  have : filesW w = o := by
    unfold filesW
    rw [hg, hn]
    cases gn
    · have : i = nl.length := by simpa using he
      subst this
      rw [ho, List.take_length, if_neg (by decide), List.map_map]; rfl
    · have : i = 0 := by simpa using hig
      subst this
      rw [ho]; rfl
  rw [this]; exact q
theorem take_end {l : List UInt8} {p i q : Nat} (h1 : i ≤ q) (h2 : i = 0 ∨ p + i ≤ l.length) (h : ¬ (p + i < l.length ∧ i < q)) : (l.drop p).take i = (l.drop p).take q := by
  rcases Nat.lt_or_ge i q with h3 | h3
  · rw [List.take_of_length_le (by simp; omega), List.take_of_length_le (by simp; omega)]
  · rw [Nat.le_antisymm h1 h3]

set_option maxRecDepth 100000 in
set_option maxHeartbeats 2000000 in
theorem dread_any {h : Heap} {E : Nat → Prop} {sa na pa : Option Addr} {sc nc pc : Nat} {sl nl : List RWF} {pl : List RWC} {lf : Int} {gn : Bool} {mn : Int} {n : List UInt8} {y z : Int} (hw : DocW h E ⟨sa, sc, sl, na, nc, nl, pa, pc, pl, lf, gn, mn⟩) (hs : WS (RW.abs ⟨sa, sc, sl, na, nc, nl, pa, pc, pl, lf, gn, mn⟩)) (hy : -9223372036854775808 ≤ y ∧ y ≤ 9223372036854775807) (hz : -9223372036854775808 ≤ z ∧ z ≤ 9223372036854775807) : HC Try.prog 73 #[.agg #[.slice sa sl.length sc, .slice na nl.length nc, .slice pa pl.length pc, .int .i64 lf, .bool gn, .int .i64 mn], .string (BA n), .int .i64 y, .int .i64 z] h (fun v h' => ∃ w, v = .tuple #[w, .int .i64 ((readW (RW.abs ⟨sa, sc, sl, na, nc, nl, pa, pc, pl, lf, gn, mn⟩) n y z).2 : Int)] ∧ Own h h' 1 5 w ((readW (RW.abs ⟨sa, sc, sl, na, nc, nl, pa, pc, pl, lf, gn, mn⟩) n y z).1.map bv)) := by
  have hsm := hs.many
  have hsl1 := hs.nowl
  have hsl2 := hs.pendl
  have hsl3 := hs.safel
  simp only [RW.abs, List.length_map] at hsm hsl1 hsl2 hsl3
  have hnb := nowb_of hs.nowb
  have ok := (Hp.nil h none_).old (chwI (fun j => E j ∧ j < h.size) (pa, pl.length, pc) pl) (hw.p.lt (by decide)) (fun j hj => hj.2)
  have ok := ok.old (flwI (fun j => E j ∧ j < h.size) (na, nl.length, nc) nl) (hw.n.lt (by decide)) (fun j hj => hj.2)
  have ok := ok.old (flwI (fun j => E j ∧ j < h.size) (sa, sl.length, sc) sl) (hw.s.lt (by decide)) (fun j hj => hj.2)
  have hcn := hw.n.m
  have hcs := hw.s.m
  have hcp := hw.p.m
  simp only at hcn hcs hcp
  refine HC.go Try.func73 60 ?_
  refine .seq <| .r <| .a' 4 (.bxA (cs := [.slice sa sl.length sc, .slice na nl.length nc, .slice pa pl.length pc, .int .i64 lf, .bool gn, .int .i64 mn]) ok) ?_
  rintro _ η1 ⟨pb1, rfl, ok, xe⟩
  refine .w 8 .asS <| .w 9 .asI <| .nil ?_
  refine .seq <| .seq <| .r <| .w 14 (.ldb T.ag69 ok.m0 T.sz69) <| .w 15 .mvT <| .w 16 .mvI <| .w 17 .mvI <| .c' 18 .func (rwrong_any (n := n) (y := y) (z := z)) ?_
  rintro _ η2 ⟨rfl, hx⟩
  have ok := ok.ext hx
  refine .w 10 .asI <| .nil ?_
  refine .seq <| .r <| .w 19 .mvI <| .w 20 .neq <| .nil ?_
  refine .cd (fun C0 => ?_) (fun C0 => ?_)
  · --
    refine .seq <| .r <| .w 21 .mvI <| .w 8 .asS <| .w 9 .asI <| .nil ?_
    refine .ret ⟨.tuple #[.slice none 0 0, .int .i64 (wrongW gn n y z : Int)], Res.two rfl rfl rfl, ⟨_, by rw [readW_w (by exact C0)] <;> rfl, by rw [readW_w (by exact C0)]; exact Own.nil ok.chg _ _⟩⟩
  refine .skip <| .seq <| .r <| .w 22 (.fa T.fd69_1) <| .w 23 (.ldx T.ag66 ok.m0) <| .w 24 .mvT <| .c' 25 .func (find_any (a := na) (c := nc) (l := nl) (n := n) ok.r1) ?_
  rintro _ _ ⟨_, rfl, (⟨k1, hkk1, rfl, hnk1, hmk1⟩ | ⟨rfl, hmk1⟩), heq⟩
  · --
    obtain rfl := heq.symm
    have hfd := fd_some hkk1 hnk1 hmk1
    refine .w 11 .asI <| .nil ?_
    refine .seq <| .seq <| .r <| .w 26 .mvI <| .w 27 .lss <| .nil ?_
    refine .cd (fun C1 => ?_) (fun C1 => ?_)
    · --
      omega
    refine .skip <| .seq <| ?_
    obtain ⟨⟨fn, fa, fc, fl⟩, hf⟩ : ∃ f, nl[k1] = f := ⟨_, rfl⟩
    rw [hf] at hfd
    have hw0 : wrongW gn n y z = 0 := by omega
    obtain ⟨p, rfl⟩ : ∃ p : Nat, y = (p : Int) := ⟨y.toNat, by have := wrongW_pos hw0; omega⟩
    obtain ⟨q, rfl⟩ : ∃ q : Nat, z = (q : Int) := ⟨z.toNat, by have := wrongW_pos hw0; omega⟩
    have ok := ok.d1 (rdI (fun j => E j ∧ j < h.size) (fun j => E j ∧ j < h.size) (fa, fl.length, fc) fl) (by have h9 := (ok.r1).by' _ (List.getElem_mem hkk1); rw [hf] at h9; exact h9) (fun _ h => h.elim id id)
    have hfb := hnb _ (List.getElem_mem hkk1)
    rw [hf] at hfb
    simp only at hfb
    have hfc := ok.r0.c
    have hfm := ok.r0.m
    simp only at hfc hfm
    refine .r <| .w 12 .asS <| ?_
    have ok := ok.nilC (k := 1) (e := 5)
    refine .nil ?_
    refine .seq <| .seq <| .r <| .w 28 .mvI <| .w 13 .asI <| .nil ?_
    refine .block fun K0 hK0 => .loop (fun m s hh => ∃ (i : Nat) (a12 : Option Addr) (c12 : Nat), Has s [(2, .int .i64 (p : Int)), (3, .int .i64 (q : Int)), (4, .pointer (some ⟨pb1, 0, none⟩)), (11, .int .i64 (k1 : Int)), (12, .slice a12 (((fl.drop p).take i).length) c12), (13, .int .i64 ((p + i : Nat) : Int))] ∧ Hp h none_ [capI 1 5 (a12, ((fl.drop p).take i).length, c12) (((fl.drop p).take i).map bv), boxI pb1 69 [.slice sa sl.length sc, .slice na nl.length nc, .slice pa pl.length pc, .int .i64 lf, .bool gn, .int .i64 mn]] [rdI (fun j => E j ∧ j < h.size) (fun j => E j ∧ j < h.size) (fa, fl.length, fc) fl, flwI (fun j => E j ∧ j < h.size) (sa, sl.length, sc) sl, flwI (fun j => E j ∧ j < h.size) (na, nl.length, nc) nl, chwI (fun j => E j ∧ j < h.size) (pa, pl.length, pc) pl] hh ∧ i ≤ q ∧ (i = 0 ∨ p + i ≤ fl.length) ∧ m = q - i) ?_ ?_
    · exact ⟨_, 0, none, 0, ⟨rfl, rfl, rfl, rfl, rfl, rfl, trivial⟩, (ok.n1.n1).k2, Nat.zero_le _, .inl rfl, rfl⟩
    rintro _ _ η3 ⟨i, a12, c12, hs, ok, hi, hip, rfl⟩ J0 hJ0
    refine .frame hs fun τ => ?_
    refine .seq <| .seq <| .r <| .w 29 .mvI <| .w 30 (.fa T.fd69_1) <| .w 31 (.ldx T.ag66 ok.m1) <| .w 32 .mvI <| ?_
    obtain ⟨bb1, oo1, rfl, fb1⟩ := ok.r2.pos (by omega)
    refine .w 33 (.ix k1 T.el66 T.sz86) <| .w 34 (.fa T.fd86_1) <| .w 35 (.ld T.ag22 (sl_at (v := .slice fa fl.length fc) RWF.cells_len (ok.r2).sl (i := k1) (j := 1) (by omega) (by rw [hf]; rfl))) <| .w 36 (.len T.el22) <| .w 37 .lss <| .w 38 .mvB <| .sd (fun G38 => ?_) (fun G38 => ?_)
    ·
      refine .w 39 .mvI <| .w 40 .mvI <| .w 41 .sub <| .w 42 .mvI <| .w 43 .lss <| .w 44 .pkt <| .nil ?_
      refine .cdr (fun C2 => ?_) (fun C2 => ?_)
      · --
        refine .exit <| hK0 _ _ <| .seq <| .r <| .w 59 .mvS <| .w 8 .asS <| .w 9 .asI <| .nil ?_
        refine .ret ⟨.tuple #[.slice a12 (((fl.drop p).take i).length) c12, .int .i64 0], Res.two rfl rfl rfl, ⟨_, by rw [readW_f (by exact hw0) (by exact hfd)] <;> rfl, by rw [readW_f (by exact hw0) (by exact hfd)]; show Own _ _ 1 _ _ (((fl.drop p).take q).map bv); rw [← take_end hi hip (by omega)]; exact (ok).toOwn⟩⟩
      refine .skip <| .seq <| .block fun K1 hK1 => .r <| .w 47 .mvS <| .w 48 (.fa T.fd69_1) <| .w 49 (.ldx T.ag66 ok.m1) <| .w 50 .mvI <| .w 51 (.ix k1 T.el66 T.sz86) <| .w 52 (.fa T.fd86_1) <| .w 53 (.ld T.ag22 (sl_at (v := .slice fa fl.length fc) RWF.cells_len (ok.r2).sl (i := k1) (j := 1) (by omega) (by rw [hf]; rfl))) <| .w 54 .mvI <| ?_
      obtain ⟨bb2, oo2, rfl, fb2⟩ := ok.r0.pos (by omega)
      refine .w 55 (.ix1 (p + i) T.el22 T.sz5) <| .w 56 (.ld T.ag5 (ok.r0.u8 (i := (p + i)) (by omega))) <| .a' 57 (.lit [.tmp 56] (cs := [.int .u8 (fl[(p + i)].toNat : Int)]) T.el22 T.sz5 T.zr5 ok ⟨rfl, trivial⟩) ?_
      rintro _ η4 ⟨pb2, rfl, ok, xe⟩
      have ok := ok.cx (ys := ([fl[(p + i)]] : List UInt8).map bv) rfl
      refine .a' 58 (.app (news := ([fl[(p + i)]] : List UInt8).map bv) T.el22 T.sz5 T.by5 T.zr5 ok.n1 (ok.n1.m1).sl bv_all (by simp only [List.length_map, List.length_append, List.length_take, List.length_cons, List.length_nil, List.length_replicate, List.length_range, fixedN_len, sealN_len]; omega)) ?_
      rintro _ η5 ⟨ya1, yn1, yc1, rfl, ok, ap⟩
      have ok := ok.cx (ys := (((fl.drop p).take i) ++ ([fl[(p + i)]] : List UInt8)).map bv) (by simp [bv])
      obtain rfl : yn1 = (((fl.drop p).take i) ++ ([fl[(p + i)]] : List UInt8)).length := ok.lenB
      have hpi : p + i < fl.length := by omega
      have hle : (((fl.drop p).take i) ++ ([fl[(p + i)]] : List UInt8)) = ((fl.drop p).take (i + 1)) := by rw [take_snoc hpi]
      rw [hle] at ok
      rw [hle]
      refine .w 12 .asS <| .nil ?_
      refine .end <| hK1 _ _ <| .r <| .w 45 .mvI <| .w 46 (.addI (b := 1)) <| .w 13 .asI <| .nil ?_
      refine .end <| hJ0 _ _ _ ⟨i + 1, ya1, yc1, ⟨rfl, rfl, rfl, rfl, rfl, rfl, trivial⟩, (ok.n2.n1).k2, by omega, .inr (by omega), rfl⟩ (by omega)
    refine .x 39 <| .x 40 <| .x 41 <| .x 42 <| .x 43 <| .w 44 .pkf <| .nil ?_
    refine .cf <| .exit <| hK0 _ _ <| .seq <| .r <| .w 59 .mvS <| .w 8 .asS <| .w 9 .asI <| .nil ?_
    refine .ret ⟨.tuple #[.slice a12 (((fl.drop p).take i).length) c12, .int .i64 0], Res.two rfl rfl rfl, ⟨_, by rw [readW_f (by exact hw0) (by exact hfd)] <;> rfl, by rw [readW_f (by exact hw0) (by exact hfd)]; show Own _ _ 1 _ _ (((fl.drop p).take q).map bv); rw [← take_end hi hip (by omega)]; exact (ok).toOwn⟩⟩
  obtain rfl := heq.symm
  have hfd := fd_none hmk1
  refine .w 11 .asI <| .nil ?_
  refine .seq <| .seq <| .r <| .w 26 .mvI <| .w 27 .lss <| .nil ?_
  refine .ct <| .seq <| .r <| .w 8 .asS <| .w 9 .asI <| .nil ?_
  refine .ret ⟨.tuple #[.slice none 0 0, .int .i64 4], Res.two rfl rfl rfl, ⟨_, by rw [readW_n (by exact (show wrongW gn n y z = 0 by omega)) (by exact hfd)] <;> rfl, by rw [readW_n (by exact (show wrongW gn n y z = 0 by omega)) (by exact hfd)]; exact Own.nil ok.chg _ _⟩⟩

set_option maxRecDepth 100000 in
set_option maxHeartbeats 2000000 in
theorem dsize_any {h : Heap} {E : Nat → Prop} {sa na pa : Option Addr} {sc nc pc : Nat} {sl nl : List RWF} {pl : List RWC} {lf : Int} {gn : Bool} {mn : Int} {n : List UInt8} (hw : DocW h E ⟨sa, sc, sl, na, nc, nl, pa, pc, pl, lf, gn, mn⟩) (hs : WS (RW.abs ⟨sa, sc, sl, na, nc, nl, pa, pc, pl, lf, gn, mn⟩)) : HC Try.prog 74 #[.agg #[.slice sa sl.length sc, .slice na nl.length nc, .slice pa pl.length pc, .int .i64 lf, .bool gn, .int .i64 mn], .string (BA n)] h (fun v h' => v = .tuple #[.int .i64 ((sizeW (RW.abs ⟨sa, sc, sl, na, nc, nl, pa, pc, pl, lf, gn, mn⟩) n).1 : Int), .bool (sizeW (RW.abs ⟨sa, sc, sl, na, nc, nl, pa, pc, pl, lf, gn, mn⟩) n).2] ∧ Ext h h') := by
  have hsm := hs.many
  have hsl1 := hs.nowl
  have hsl2 := hs.pendl
  have hsl3 := hs.safel
  simp only [RW.abs, List.length_map] at hsm hsl1 hsl2 hsl3
  have hnb := nowb_of hs.nowb
  have ok := (Hp.nil h none_).old (chwI (fun j => E j ∧ j < h.size) (pa, pl.length, pc) pl) (hw.p.lt (by decide)) (fun j hj => hj.2)
  have ok := ok.old (flwI (fun j => E j ∧ j < h.size) (na, nl.length, nc) nl) (hw.n.lt (by decide)) (fun j hj => hj.2)
  have ok := ok.old (flwI (fun j => E j ∧ j < h.size) (sa, sl.length, sc) sl) (hw.s.lt (by decide)) (fun j hj => hj.2)
  have hcn := hw.n.m
  have hcs := hw.s.m
  have hcp := hw.p.m
  simp only at hcn hcs hcp
  refine HC.go Try.func74 24 ?_
  refine .seq <| .r <| .a' 2 (.bxA (cs := [.slice sa sl.length sc, .slice na nl.length nc, .slice pa pl.length pc, .int .i64 lf, .bool gn, .int .i64 mn]) ok) ?_
  rintro _ η1 ⟨pb1, rfl, ok, xe⟩
  refine .w 4 .asI <| .w 5 .asB <| .nil ?_
  refine .seq <| .r <| .w 7 (.fa T.fd69_1) <| .w 8 (.ldx T.ag66 ok.m0) <| .w 9 .mvT <| .c' 10 .func (find_any (a := na) (c := nc) (l := nl) (n := n) ok.r1) ?_
  rintro _ _ ⟨_, rfl, (⟨k1, hkk1, rfl, hnk1, hmk1⟩ | ⟨rfl, hmk1⟩), heq⟩
  · --
    obtain rfl := heq.symm
    have hfd := fd_some hkk1 hnk1 hmk1
    refine .w 6 .asI <| .nil ?_
    refine .seq <| .seq <| .r <| .w 11 .mvI <| .w 12 .lss <| .w 13 .mvB <| .sd (fun G13 => ?_) (fun G13 => ?_)
    ·
      omega
    refine .w 14 (.fa T.fd69_4) <| .w 15 (.ldx T.ag4 ok.m0) <| .w 16 .pkf <| .nil ?_
    refine .cond (fun C0 => ?_) (fun C0 => ?_)
    · --
      refine .seq <| .r <| .w 4 .asI <| .w 5 .asB <| .nil ?_
      refine .ret ⟨.tuple #[.int .i64 0, .bool false], Res.two rfl rfl rfl, ⟨by rw [sizeW_g (by exact C0)] <;> rfl, ok.chg⟩⟩
    refine .skip <| .seq <| .r <| .w 17 (.fa T.fd69_1) <| .w 18 (.ldx T.ag66 ok.m0) <| .w 19 .mvI <| ?_
    obtain ⟨bb1, oo1, rfl, fb1⟩ := ok.r1.pos (by omega)
    refine .w 20 (.ix k1 T.el66 T.sz86) <| .w 21 (.fa T.fd86_1) <| .w 22 (.ld T.ag22 (sl_at RWF.cells_len (ok.r1).sl (i := k1) (j := 1) (by omega) rfl)) <| .w 23 (.len T.el22) <| .w 4 .asI <| .w 5 .asB <| .nil ?_
    refine .ret ⟨.tuple #[.int .i64 ((nl[k1].bl.length : Nat) : Int), .bool true], Res.two rfl rfl rfl, ⟨by rw [sizeW_f (by exact hfd) (by exact C0)] <;> rfl, ok.chg⟩⟩
  obtain rfl := heq.symm
  have hfd := fd_none hmk1
  refine .w 6 .asI <| .nil ?_
  refine .seq <| .seq <| .r <| .w 11 .mvI <| .w 12 .lss <| .w 13 .mvB <| .x 14 <| .x 15 <| .w 16 .pkt <| .nil ?_
  refine .ct <| .seq <| .r <| .w 4 .asI <| .w 5 .asB <| .nil ?_
  refine .ret ⟨.tuple #[.int .i64 0, .bool false], Res.two rfl rfl rfl, ⟨by rw [sizeW_n (by exact hfd)] <;> rfl, ok.chg⟩⟩

set_option maxRecDepth 100000 in
set_option maxHeartbeats 2000000 in
theorem dfiles_any {h : Heap} {E : Nat → Prop} {sa na pa : Option Addr} {sc nc pc : Nat} {sl nl : List RWF} {pl : List RWC} {lf : Int} {gn : Bool} {mn : Int} (hw : DocW h E ⟨sa, sc, sl, na, nc, nl, pa, pc, pl, lf, gn, mn⟩) (hs : WS (RW.abs ⟨sa, sc, sl, na, nc, nl, pa, pc, pl, lf, gn, mn⟩)) : HC Try.prog 81 #[.agg #[.slice sa sl.length sc, .slice na nl.length nc, .slice pa pl.length pc, .int .i64 lf, .bool gn, .int .i64 mn]] h (fun v h' => Own h h' 1 9 v ((filesW (RW.abs ⟨sa, sc, sl, na, nc, nl, pa, pc, pl, lf, gn, mn⟩)).map kvB)) := by
  have hsm := hs.many
  have hsl1 := hs.nowl
  have hsl2 := hs.pendl
  have hsl3 := hs.safel
  simp only [RW.abs, List.length_map] at hsm hsl1 hsl2 hsl3
  have hnb := nowb_of hs.nowb
  have ok := (Hp.nil h none_).old (chwI (fun j => E j ∧ j < h.size) (pa, pl.length, pc) pl) (hw.p.lt (by decide)) (fun j hj => hj.2)
  have ok := ok.old (flwI (fun j => E j ∧ j < h.size) (na, nl.length, nc) nl) (hw.n.lt (by decide)) (fun j hj => hj.2)
  have ok := ok.old (flwI (fun j => E j ∧ j < h.size) (sa, sl.length, sc) sl) (hw.s.lt (by decide)) (fun j hj => hj.2)
  have hcn := hw.n.m
  have hcs := hw.s.m
  have hcp := hw.p.m
  simp only at hcn hcs hcp
  refine HC.go Try.func81 27 ?_
  refine .seq <| .r <| .a' 1 (.bxA (cs := [.slice sa sl.length sc, .slice na nl.length nc, .slice pa pl.length pc, .int .i64 lf, .bool gn, .int .i64 mn]) ok) ?_
  rintro _ η1 ⟨pb1, rfl, ok, xe⟩
  refine .w 2 .asS <| .nil ?_
  refine .seq <| .r <| .w 3 .asS <| ?_
  have ok := ok.nilC (k := 1) (e := 9)
  refine .nil ?_
  refine .seq <| .seq <| .r <| .w 4 .asI <| .nil ?_
  refine .block fun K0 hK0 => .loop (fun m s hh => ∃ (i : Nat) (o : List (List UInt8)) (a3 : Option Addr) (c3 : Nat), Has s [(1, .pointer (some ⟨pb1, 0, none⟩)), (3, .slice a3 o.length c3), (4, .int .i64 (i : Int))] ∧ Hp h none_ [capI 1 9 (a3, o.length, c3) (o.map kvB), boxI pb1 69 [.slice sa sl.length sc, .slice na nl.length nc, .slice pa pl.length pc, .int .i64 lf, .bool gn, .int .i64 mn]] [flwI (fun j => E j ∧ j < h.size) (sa, sl.length, sc) sl, flwI (fun j => E j ∧ j < h.size) (na, nl.length, nc) nl, chwI (fun j => E j ∧ j < h.size) (pa, pl.length, pc) pl] hh ∧ i ≤ nl.length ∧ o = (nl.take i).map RWF.n ∧ o.length ≤ i ∧ (i = 0 ∨ gn = false) ∧ m = nl.length - i) ?_ ?_
  · exact ⟨_, 0, [], none, 0, ⟨rfl, rfl, rfl, trivial⟩, (ok.n1.n1).k2, Nat.zero_le _, rfl, Nat.le_refl _, .inl rfl, rfl⟩
  rintro _ _ η2 ⟨i, o, a3, c3, hs, ok, hi, ho, hol, hig, rfl⟩ J0 hJ0
  refine .frame hs fun τ => ?_
  refine .seq <| .seq <| .r <| .w 5 .mvI <| .w 6 (.fa T.fd69_1) <| .w 7 (.ldx T.ag66 ok.m1) <| .w 8 (.len T.el66) <| .w 9 .lss <| .w 10 .mvB <| .sd (fun G10 => ?_) (fun G10 => ?_)
  ·
    refine .w 11 (.fa T.fd69_4) <| .w 12 (.ldx T.ag4 ok.m1) <| .w 13 .not <| .w 14 .pkt <| .nil ?_
    refine .condr (fun C0 => ?_) (fun C0 => ?_)
    · --
      refine .exit <| hK0 _ _ <| .seq <| .r <| .w 26 .mvS <| .w 2 .asS <| .nil ?_
      refine .ret ⟨.slice a3 o.length c3, Res.one rfl rfl, (files_own (gn := gn) (nl := nl) rfl rfl ho hi hig (by first | exact .inl (by omega) | exact .inr (by simpa using C0)) (ok).toOwn)⟩
    have hil : i < nl.length := by omega
    refine .skip <| .seq <| .block fun K1 hK1 => .r <| .w 17 .mvS <| .w 18 (.fa T.fd69_1) <| .w 19 (.ldx T.ag66 ok.m1) <| .w 20 .mvI <| ?_
    obtain ⟨bb1, oo1, rfl, fb1⟩ := ok.r1.pos (by omega)
    refine .w 21 (.ix i T.el66 T.sz86) <| .w 22 (.fa T.fd86_0) <| .w 23 (.ld T.ag9 (sl_at RWF.cells_len (ok.r1).sl (i := i) (j := 0) (by omega) rfl)) <| .a' 24 (.lit [.tmp 23] (cs := [.string (BA (nl[i].n))]) T.el82 T.sz9 T.zr9 ok ⟨rfl, trivial⟩) ?_
    rintro _ η3 ⟨pb2, rfl, ok, xe⟩
    refine .a' 25 (.app (news := [.string (BA (nl[i].n))]) T.el82 T.sz9 T.by9 T.zr9 ok.n1 (ok.n1.m1).sl (oneL rfl) (by simp only [List.length_map, List.length_cons, List.length_nil]; omega)) ?_
    rintro _ η4 ⟨ya1, yn1, yc1, rfl, ok, ap⟩
    have ok := ok.cx (ys := (o ++ [nl[i].n]).map kvB) (by simp [kvB])
    obtain rfl : yn1 = (o ++ [nl[i].n]).length := Cap.lenN ok.m0
    refine .w 3 .asS <| .nil ?_
    refine .end <| hK1 _ _ <| .r <| .w 15 .mvI <| .w 16 (.addI (b := 1)) <| .w 4 .asI <| .nil ?_
    refine .end <| hJ0 _ _ _ ⟨i + 1, o ++ [nl[i].n], ya1, yc1, ⟨rfl, rfl, rfl, trivial⟩, (ok.n2.n1).k2, by omega, by rw [List.take_succ_eq_append_getElem hil, List.map_append, ← ho]; rfl, by simp only [List.length_append, List.length_singleton]; omega, .inr (by simpa using C0), rfl⟩ (by omega)
  refine .x 11 <| .x 12 <| .x 13 <| .w 14 .pkf <| .nil ?_
  refine .cf <| .exit <| hK0 _ _ <| .seq <| .r <| .w 26 .mvS <| .w 2 .asS <| .nil ?_
  refine .ret ⟨.slice a3 o.length c3, Res.one rfl rfl, (files_own (gn := gn) (nl := nl) rfl rfl ho hi hig (by first | exact .inl (by omega) | exact .inr (by simpa using C0)) (ok).toOwn)⟩

end Go.Proofs.Ytpebbkhainpfaaa

namespace Go.Proofs.Ytpebbkhainpfaaa
open Go Go.HL
theorem RwB.filt {α : Type} {k : Nat} {f : α → List Value} {g : α → SB} {h' : Heap} {E E' : Nat → Prop} {x x' : SV} {l l' : List α} {e : TypeId} (r : RwB k f g h' E x l) (hk : 0 < k) (hf : ∀ y, (f y).length = k) (c : Cap h' k e (sv x') (l'.flatMap f)) (hb : ∀ j, blkC (sv x') j → E' j) (hE : ∀ j, E j → E' j) (hl : ∀ y ∈ l', y ∈ l) : RwB k f g h' E' x' l' := RwB.ofCap hk hf c hb fun y hy => (r.by' y (hl y hy)).mono hE hE

set_option maxRecDepth 100000 in
set_option maxHeartbeats 2000000 in
theorem dnew_any {h : Heap} : HC Try.prog 34 #[] h (fun v h' => v = .agg #[.slice none 0 0, .slice none 0 0, .slice none 0 0, .int .i64 (-1), .bool false, .int .i64 0] ∧ Ext h h') := by
  have ok := Hp.nil h none_
  refine HC.go Try.func34 2 ?_
  refine .seq <| .r <| .a' 0 (.alA T.zr69 ok) ?_
  rintro _ η1 ⟨pb1, rfl, ok, xe⟩
  refine .nil ?_
  refine .seq <| .r <| .w 1 (.bd #[.slice none 0 0, .slice none 0 0, .slice none 0 0, .int .i64 (-1), .bool false, .int .i64 0] T.zr69 T.pl69 rfl) <| .ur' (.stW (vs := [.slice none 0 0, .slice none 0 0, .slice none 0 0, .int .i64 (-1), .bool false, .int .i64 0]) T.sz69 ok (oneL rfl)) ?_
  rintro η2 ⟨ok, cg⟩
  refine .nil ?_
  refine .ret ⟨.agg #[.slice none 0 0, .slice none 0 0, .slice none 0 0, .int .i64 (-1), .bool false, .int .i64 0], Res.many (vs := [.agg #[.slice none 0 0, .slice none 0 0, .slice none 0 0, .int .i64 (-1), .bool false, .int .i64 0]]) rfl ⟨⟨_, rfl, load_ag T.ag69 ok.m0 T.sz69⟩, trivial⟩ rfl, ⟨rfl, ok.chg⟩⟩

set_option maxRecDepth 100000 in
set_option maxHeartbeats 2000000 in
theorem dcut_any {h : Heap} {sa na pa : Option Addr} {sc nc pc : Nat} {sl nl : List RWF} {pl : List RWC} {lf : Int} {gn : Bool} {mn : Int} {z : Int} : HC Try.prog 79 #[.agg #[.slice sa sl.length sc, .slice na nl.length nc, .slice pa pl.length pc, .int .i64 lf, .bool gn, .int .i64 mn], .int .i64 z] h (fun v h' => v = .agg #[.slice sa sl.length sc, .slice na nl.length nc, .slice pa pl.length pc, .int .i64 (if gn = true then lf else max z (-1)), .bool gn, .int .i64 mn] ∧ Ext h h') := by
  have ok := Hp.nil h none_
  refine HC.go Try.func79 12 ?_
  refine .seq <| .r <| .a' 2 (.bxA (cs := [.slice sa sl.length sc, .slice na nl.length nc, .slice pa pl.length pc, .int .i64 lf, .bool gn, .int .i64 mn]) ok) ?_
  rintro _ η1 ⟨pb1, rfl, ok, xe⟩
  refine .a' 4 (.alA T.zr69 ok) ?_
  rintro _ η2 ⟨pb2, rfl, ok, xe⟩
  refine .nil ?_
  refine .seq <| .seq <| .r <| .w 5 (.fa T.fd69_4) <| .w 6 (.ldx T.ag4 ok.m1) <| .w 7 .not <| .nil ?_
  refine .cond (fun C0 => ?_) (fun C0 => ?_)
  · --
    refine .r <| .w 8 .mvI <| .w 9 .max2 <| .w 10 (.fa T.fd69_3) <| .ur' (.stI T.sz3 ok.n1) ?_
    rintro η3 ⟨ok, cg⟩
    refine .nil ?_
    refine .seq <| .r <| .w 11 (.ldb T.ag69 ok.m0 T.sz69) <| .ur' (.stW (vs := [.slice sa sl.length sc, .slice na nl.length nc, .slice pa pl.length pc, .int .i64 (max z (-1)), .bool gn, .int .i64 mn]) T.sz69 ok.n1 (oneL rfl)) ?_
    rintro η4 ⟨ok, cg⟩
    refine .nil ?_
    refine .ret ⟨.agg #[.slice sa sl.length sc, .slice na nl.length nc, .slice pa pl.length pc, .int .i64 (max z (-1)), .bool gn, .int .i64 mn], Res.many (vs := [.agg #[.slice sa sl.length sc, .slice na nl.length nc, .slice pa pl.length pc, .int .i64 (max z (-1)), .bool gn, .int .i64 mn]]) rfl ⟨⟨_, rfl, load_ag T.ag69 ok.m0 T.sz69⟩, trivial⟩ rfl, ⟨by rw [if_neg (by rw [show gn = false by simpa using C0]; decide)] <;> rfl, ok.chg⟩⟩
  refine .skip <| .seq <| .r <| .w 11 (.ldb T.ag69 ok.m1 T.sz69) <| .ur' (.stW (vs := [.slice sa sl.length sc, .slice na nl.length nc, .slice pa pl.length pc, .int .i64 lf, .bool gn, .int .i64 mn]) T.sz69 ok (oneL rfl)) ?_
  rintro η5 ⟨ok, cg⟩
  refine .nil ?_
  refine .ret ⟨.agg #[.slice sa sl.length sc, .slice na nl.length nc, .slice pa pl.length pc, .int .i64 lf, .bool gn, .int .i64 mn], Res.many (vs := [.agg #[.slice sa sl.length sc, .slice na nl.length nc, .slice pa pl.length pc, .int .i64 lf, .bool gn, .int .i64 mn]]) rfl ⟨⟨_, rfl, load_ag T.ag69 ok.m0 T.sz69⟩, trivial⟩ rfl, ⟨by rw [if_pos (by simpa using C0)] <;> rfl, ok.chg⟩⟩

set_option maxRecDepth 100000 in
set_option maxHeartbeats 2000000 in
theorem dsync_any {h : Heap} {E : Nat → Prop} {sa na pa : Option Addr} {sc nc pc : Nat} {sl nl : List RWF} {pl : List RWC} {lf : Int} {gn : Bool} {mn : Int} {n : List UInt8} (hw : DocW h E ⟨sa, sc, sl, na, nc, nl, pa, pc, pl, lf, gn, mn⟩) (hs : WS (RW.abs ⟨sa, sc, sl, na, nc, nl, pa, pc, pl, lf, gn, mn⟩)) (hl : lf ≤ 9223372036854775807) : HC Try.prog 78 #[.agg #[.slice sa sl.length sc, .slice na nl.length nc, .slice pa pl.length pc, .int .i64 lf, .bool gn, .int .i64 mn], .string (BA n)] h (fun v h' => ∃ w : RW, v = .tuple #[.agg #[.slice w.sa w.sl.length w.sc, .slice w.na w.nl.length w.nc, .slice w.pa w.pl.length w.pc, .int .i64 w.left, .bool w.gone, .int .i64 w.many], .int .i64 ((syncW (RW.abs ⟨sa, sc, sl, na, nc, nl, pa, pc, pl, lf, gn, mn⟩) n).2 : Int)] ∧ w.abs = (syncW (RW.abs ⟨sa, sc, sl, na, nc, nl, pa, pc, pl, lf, gn, mn⟩) n).1 ∧ WRet h E w h') := by
  have hsm := hs.many
  have hsl1 := hs.nowl
  have hsl2 := hs.pendl
  have hsl3 := hs.safel
  simp only [RW.abs, List.length_map] at hsm hsl1 hsl2 hsl3
  have hnb := nowb_of hs.nowb
  have ok := (Hp.nil h none_).old (chwI (fun j => E j ∧ j < h.size) (pa, pl.length, pc) pl) (hw.p.lt (by decide)) (fun j hj => hj.2)
  have ok := ok.old (flwI (fun j => E j ∧ j < h.size) (na, nl.length, nc) nl) (hw.n.lt (by decide)) (fun j hj => hj.2)
  have ok := ok.old (flwI (fun j => E j ∧ j < h.size) (sa, sl.length, sc) sl) (hw.s.lt (by decide)) (fun j hj => hj.2)
  have hcn := hw.n.m
  have hcs := hw.s.m
  have hcp := hw.p.m
  simp only at hcn hcs hcp
  refine HC.go Try.func78 88 ?_
  refine .seq <| .r <| .a' 2 (.bxA (cs := [.slice sa sl.length sc, .slice na nl.length nc, .slice pa pl.length pc, .int .i64 lf, .bool gn, .int .i64 mn]) ok) ?_
  rintro _ η1 ⟨pb1, rfl, ok, xe⟩
  refine .a' 4 (.alA T.zr69 ok) ?_
  rintro _ η2 ⟨pb2, rfl, ok, xe⟩
  refine .w 5 .asI <| .nil ?_
  refine .seq <| .seq <| .r <| .w 12 (.ldb T.ag69 ok.m1 T.sz69) <| .w 13 .mvT <| .c' 14 .func (rwrong_any (n := n) (y := 0) (z := 0)) ?_
  rintro _ η3 ⟨rfl, hx⟩
  have ok := ok.ext hx
  refine .w 6 .asI <| .nil ?_
  refine .seq <| .r <| .w 15 .mvI <| .w 16 .neq <| .nil ?_
  refine .cd (fun C0 => ?_) (fun C0 => ?_)
  · --
    refine .seq <| .r <| .w 17 (.ldb T.ag69 ok.m1 T.sz69) <| .w 18 .mvI <| .ur' (.stW (vs := [.slice sa sl.length sc, .slice na nl.length nc, .slice pa pl.length pc, .int .i64 lf, .bool gn, .int .i64 mn]) T.sz69 ok (oneL rfl)) ?_
    rintro η4 ⟨ok, cg⟩
    refine .w 5 .asI <| .nil ?_
    refine .ret ⟨.tuple #[.agg #[.slice sa sl.length sc, .slice na nl.length nc, .slice pa pl.length pc, .int .i64 lf, .bool gn, .int .i64 mn], .int .i64 (wrongW gn n 0 0 : Int)], Res.many (vs := [.agg #[.slice sa sl.length sc, .slice na nl.length nc, .slice pa pl.length pc, .int .i64 lf, .bool gn, .int .i64 mn], .int .i64 (wrongW gn n 0 0 : Int)]) rfl ⟨⟨_, rfl, load_ag T.ag69 ok.m0 T.sz69⟩, rfl, trivial⟩ rfl, ⟨⟨sa, sc, sl, na, nc, nl, pa, pc, pl, lf, gn, mn⟩, by rw [syncW_w (by exact C0)] <;> rfl, by rw [syncW_w (by exact C0)], ok.chg, ⟨ok.r0.mono (fun _ h => .inl (And.left h)), ok.r1.mono (fun _ h => .inl (And.left h)), ok.r2.mono (fun _ h => .inl (And.left h))⟩⟩⟩
  have hw0 : wrongW gn n 0 0 = 0 := by omega
  refine .skip <| .seq <| .r <| .w 7 .asS <| ?_
  have ok := ok.nilC (k := 4) (e := 152)
  refine .nil ?_
  refine .seq <| .seq <| .r <| .w 8 .asI <| .nil ?_
  refine .block fun K0 hK0 => .loop (fun m s hh => ∃ (i : Nat) (o : List RWC) (a7 : Option Addr) (c7 : Nat), Has s [(1, .string (BA n)), (2, .pointer (some ⟨pb1, 0, none⟩)), (4, .pointer (some ⟨pb2, 0, none⟩)), (7, .slice a7 o.length c7), (8, .int .i64 (i : Int))] ∧ Hp h none_ [capI 4 152 (a7, o.length, c7) (o.flatMap RWC.cells), boxI pb2 69 [.slice none 0 0, .slice none 0 0, .slice none 0 0, .int .i64 0, .bool false, .int .i64 0], boxI pb1 69 [.slice sa sl.length sc, .slice na nl.length nc, .slice pa pl.length pc, .int .i64 lf, .bool gn, .int .i64 mn]] [flwI (fun j => E j ∧ j < h.size) (sa, sl.length, sc) sl, flwI (fun j => E j ∧ j < h.size) (na, nl.length, nc) nl, chwI (fun j => E j ∧ j < h.size) (pa, pl.length, pc) pl] hh ∧ i ≤ pl.length ∧ withoutL RWC.n pl n = o ++ withoutL RWC.n (pl.drop i) n ∧ o.length ≤ i ∧ m = pl.length - i) ?_ ?_
  · exact ⟨_, 0, [], none, 0, ⟨rfl, rfl, rfl, rfl, rfl, trivial⟩, (ok.n2.n2.n2).k3, Nat.zero_le _, rfl, Nat.le_refl _, rfl⟩
  rintro _ _ η5 ⟨i, o, a7, c7, hs, ok, hi, ho, hol, rfl⟩ J0 hJ0
  refine .frame hs fun τ => ?_
  refine .seq <| .seq <| .r <| .w 19 .mvI <| .w 20 (.fa T.fd69_2) <| .w 21 (.ldx T.ag67 ok.m2) <| .w 22 (.len T.el67) <| .w 23 .lss <| .nil ?_
  refine .cdr (fun C1 => ?_) (fun C1 => ?_)
  · --
    refine .exit <| hK0 _ _ <| .seq <| .seq <| ?_
    have ho2 : withoutL RWC.n pl n = o := by rw [ho, List.drop_eq_nil_of_le (by omega)]; simp [withoutL]
    have hol2 : o.length ≤ pl.length := by rw [← ho2]; exact withoutL_len _ _ _
    refine .r <| .w 42 (.fa T.fd69_1) <| .w 43 (.ldx T.ag66 ok.m2) <| .w 44 .mvT <| .c' 45 .func (find_any (a := na) (c := nc) (l := nl) (n := n) ok.r1) ?_
    rintro _ _ ⟨_, rfl, (⟨k1, hkk1, rfl, hnk1, hmk1⟩ | ⟨rfl, hmk1⟩), heq⟩
    · --
      obtain rfl := heq.symm
      have hfd := fd_some hkk1 hnk1 hmk1
      refine .w 46 .lss <| .w 47 .mvB <| .sd (fun G47 => ?_) (fun G47 => ?_)
      ·
        omega
      refine .x 48 <| .x 49 <| .x 50 <| .x 51 <| .x 52 <| .x 53 <| .w 54 .pkf <| .nil ?_
      refine .cf <| .skip <| .seq <| ?_
      have hfd1 := hfd
      refine .r <| .w 57 (.ldb T.ag69 ok.m2 T.sz69) <| .c' 58 .func (count_any (by omega) (by omega)) ?_
      rintro _ η6 ⟨rfl, hx⟩
      have ok := ok.ext hx
      refine .w 56 .mvU <| .w 59 .ex <| .w 60 .ex <| .a' 9 (.alA T.zr69 ok) ?_
      rintro _ η7 ⟨pb3, rfl, ok, xe⟩
      refine .ur' (.stW (vs := [.slice sa sl.length sc, .slice na nl.length nc, .slice pa pl.length pc, .int .i64 (if 0 < lf then lf - 1 else lf), .bool (if lf = 0 then true else gn), .int .i64 (if lf = 0 then mn else mn + 1)]) T.sz69 ok (oneL rfl)) ?_
      rintro η8 ⟨ok, cg⟩
      refine .w 10 .asI <| .nil ?_
      refine .seq <| .seq <| .r <| .w 61 .mvI <| .w 62 .neq <| .nil ?_
      refine .cd (fun C4 => ?_) (fun C4 => ?_)
      · --
        have hl0 : lf = 0 := by by_cases h : lf = 0; exact h; exact absurd (by unfold countC; rw [if_neg h]; rfl) C4
        refine .seq <| .r <| .w 63 (.ldb T.ag69 ok.m0 T.sz69) <| .w 64 .mvI <| .ur' (.stW (vs := [.slice sa sl.length sc, .slice na nl.length nc, .slice pa pl.length pc, .int .i64 (if 0 < lf then lf - 1 else lf), .bool (if lf = 0 then true else gn), .int .i64 (if lf = 0 then mn else mn + 1)]) T.sz69 ok.n2 (oneL rfl)) ?_
        rintro η9 ⟨ok, cg⟩
        refine .w 5 .asI <| .nil ?_
        refine .ret ⟨.tuple #[.agg #[.slice sa sl.length sc, .slice na nl.length nc, .slice pa pl.length pc, .int .i64 (if 0 < lf then lf - 1 else lf), .bool (if lf = 0 then true else gn), .int .i64 (if lf = 0 then mn else mn + 1)], .int .i64 (countC lf : Int)], Res.many (vs := [.agg #[.slice sa sl.length sc, .slice na nl.length nc, .slice pa pl.length pc, .int .i64 (if 0 < lf then lf - 1 else lf), .bool (if lf = 0 then true else gn), .int .i64 (if lf = 0 then mn else mn + 1)], .int .i64 (countC lf : Int)]) rfl ⟨⟨_, rfl, load_ag T.ag69 ok.m0 T.sz69⟩, rfl, trivial⟩ rfl, ⟨⟨sa, sc, sl, na, nc, nl, pa, pc, pl, lf, true, mn⟩, by rw [syncW_p (by exact hw0) (by rintro ⟨h1, h2⟩; rw [hasW_y (by exact hfd)] at h1; cases h1) (by exact hl0)]; simp [hl0, countC], by rw [syncW_p (by exact hw0) (by rintro ⟨h1, h2⟩; rw [hasW_y (by exact hfd)] at h1; cases h1) (by exact hl0), countW_0 (by exact hl0)]; rfl, ok.chg, ⟨ok.r0.mono (fun _ h => .inl (And.left h)), ok.r1.mono (fun _ h => .inl (And.left h)), ok.r2.mono (fun _ h => .inl (And.left h))⟩⟩⟩
      have hl0 : ¬ lf = 0 := by intro h; unfold countC at C4; rw [if_pos h] at C4; simp at C4
      refine .skip <| .seq <| .r <| .w 65 .mvS <| .w 66 (.fa T.fd69_2) <| .ur' (.stS T.sz67 ok) ?_
      rintro η10 ⟨ok, cg⟩
      refine .nil ?_
      refine .seq <| .r <| .w 67 (.fa T.fd69_0) <| .w 68 (.ldx T.ag66 ok.m3) <| .w 69 .mvT <| .c' 70 .func (without_any (a := sa) (c := sc) (l := sl) ok.r0 (by omega) (n := n)) ?_
      rintro _ η11 own
      obtain ⟨ya1, yn1, yc1, rfl⟩ := own.form3
      have ok := ok.own own
      refine .w 71 (.fa T.fd69_0) <| .ur' (.stS T.sz66 ok.n1) ?_
      rintro η12 ⟨ok, cg⟩
      refine .nil ?_
      refine .seq <| .seq <| .r <| .w 72 (.fa T.fd69_1) <| .w 73 (.ldx T.ag66 ok.m4) <| .w 74 .mvT <| .c' 75 .func (find_any (a := na) (c := nc) (l := nl) (n := n) ok.r1) ?_
      rintro _ _ ⟨_, rfl, (⟨k2, hkk2, rfl, hnk2, hmk2⟩ | ⟨rfl, hmk2⟩), heq⟩
      · --
        obtain rfl := heq.symm
        have hfd := fd_some hkk2 hnk2 hmk2
        refine .w 11 .asI <| .nil ?_
        refine .seq <| .r <| .w 76 .mvI <| .w 77 .geq <| .nil ?_
        refine .cd (fun C5 => ?_) (fun C5 => ?_)
        · --
          refine .t 7 mixed ?_
          simp only [List.take_succ_cons, List.take_zero, List.drop_succ_cons, List.drop_zero]
          refine .w 78 (.fa T.fd69_0) <| .w 79 (.ldx T.ag66 ok.m4) <| .w 80 (.fa T.fd69_1) <| .w 81 (.ldx T.ag66 ok.m4) <| .w 82 .mvI <| ?_
          obtain ⟨bb1, oo1, rfl, fb1⟩ := ok.r1.pos (by omega)
          refine .w 83 (.ix k2 T.el66 T.sz86) <| .w 84 (.ldc (vs := RWF.cells nl[k2]) T.ag86 (sl_ats RWF.cells_len (ok.r1).sl (i := k2) (by omega)) T.sz86) <| .nil ?_
          refine .c' 85 .func (with_any (a := sa) (c := sc) (l := sl) ok.r0 (by omega) (f := nl[k2])) ?_
          rintro _ η13 own
          obtain ⟨ya2, yn2, yc2, rfl⟩ := own.form3
          have ok := ok.own own
          refine .w 86 (.fa T.fd69_0) <| .ur' (.stS T.sz66 ok.n1) ?_
          rintro η14 ⟨ok, cg⟩
          refine .nil ?_
          refine .seq <| .r <| .w 87 (.ldb T.ag69 ok.m0 T.sz69) <| .ur' (.stW (vs := [.slice ya2 yn2 yc2, .slice (some ⟨bb1, oo1, none⟩) nl.length nc, .slice a7 o.length c7, .int .i64 (if 0 < lf then lf - 1 else lf), .bool (if lf = 0 then true else gn), .int .i64 (if lf = 0 then mn else mn + 1)]) T.sz69 ok.n4 (oneL rfl)) ?_
          rintro η15 ⟨ok, cg⟩
          refine .w 5 .asI <| .nil ?_
          have hfr := ok.n4.n3
          have hnn : (withL RWF.n nl[k2] sl).length = yn2 := (Sl.sz (Cap.sl hfr.m0) RWF.cells_len (by decide)).1
          refine .ret ⟨.tuple #[.agg #[.slice ya2 yn2 yc2, .slice (some ⟨bb1, oo1, none⟩) nl.length nc, .slice a7 o.length c7, .int .i64 (if 0 < lf then lf - 1 else lf), .bool (if lf = 0 then true else gn), .int .i64 (if lf = 0 then mn else mn + 1)], .int .i64 0], Res.many (vs := [.agg #[.slice ya2 yn2 yc2, .slice (some ⟨bb1, oo1, none⟩) nl.length nc, .slice a7 o.length c7, .int .i64 (if 0 < lf then lf - 1 else lf), .bool (if lf = 0 then true else gn), .int .i64 (if lf = 0 then mn else mn + 1)], .int .i64 0]) rfl ⟨⟨_, rfl, load_ag T.ag69 ok.m0 T.sz69⟩, rfl, trivial⟩ rfl, ⟨⟨ya2, yc2, withL RWF.n nl[k2] sl, (some ⟨bb1, oo1, none⟩), nc, nl, a7, c7, o, if 0 < lf then lf - 1 else lf, gn, mn + 1⟩, by rw [syncW_d (by exact hw0) (by rintro ⟨h1, h2⟩; rw [hasW_y (by exact hfd)] at h1; cases h1) (by exact hl0) (s := (withL RWF.n nl[k2] sl).map RWF.abs) (by simp only [RW.abs]; rw [hfd]; exact (withL_map RWF.n WF.n RWF.abs (fun _ => rfl) _ sl).symm)]; subst hnn; simp [hl0], by rw [syncW_d (by exact hw0) (by rintro ⟨h1, h2⟩; rw [hasW_y (by exact hfd)] at h1; cases h1) (by exact hl0) (s := (withL RWF.n nl[k2] sl).map RWF.abs) (by simp only [RW.abs]; rw [hfd]; exact (withL_map RWF.n WF.n RWF.abs (fun _ => rfl) _ sl).symm)]; simp only [RW.abs]; rw [← withoutL_map RWC.n WC.n RWC.abs (fun _ => rfl), ho2] <;> rfl, ok.chg, ⟨by rw [hnn]; exact RwB.ofCap (by decide) RWF.cells_len hfr.m0 (fun j hj => .inr (hfr.fresh j hj)) (fun y hy => by rcases withL_mem _ _ hy with h9 | h9; subst h9; exact ((ok.r1).by' _ (List.getElem_mem hkk2)).mono (fun _ h => .inl (And.left h)) (fun _ h => .inl (And.left h)); exact ((ok.r0).by' y h9).mono (fun _ h => .inl (And.left h)) (fun _ h => .inl (And.left h))), ok.r1.mono (fun _ h => .inl (And.left h)), RwB.filt (ok.r2) (by decide) RWC.cells_len hfr.m1 (fun j hj => .inr (hfr.n1.fresh j hj)) (fun _ h => .inl (And.left h)) (fun y hy => by rw [← ho2] at hy; exact (List.mem_filter.1 hy).1)⟩⟩⟩
        omega
      obtain rfl := heq.symm
      have hfd := fd_none hmk2
      refine .w 11 .asI <| .nil ?_
      refine .seq <| .r <| .w 76 .mvI <| .w 77 .geq <| .nil ?_
      refine .cf <| .skip <| .seq <| .r <| .w 87 (.ldb T.ag69 ok.m0 T.sz69) <| .ur' (.stW (vs := [.slice ya1 yn1 yc1, .slice na nl.length nc, .slice a7 o.length c7, .int .i64 (if 0 < lf then lf - 1 else lf), .bool (if lf = 0 then true else gn), .int .i64 (if lf = 0 then mn else mn + 1)]) T.sz69 ok.n3 (oneL rfl)) ?_
      rintro η16 ⟨ok, cg⟩
      refine .w 5 .asI <| .nil ?_
      refine .ret ⟨.tuple #[.agg #[.slice ya1 yn1 yc1, .slice na nl.length nc, .slice a7 o.length c7, .int .i64 (if 0 < lf then lf - 1 else lf), .bool (if lf = 0 then true else gn), .int .i64 (if lf = 0 then mn else mn + 1)], .int .i64 0], Res.many (vs := [.agg #[.slice ya1 yn1 yc1, .slice na nl.length nc, .slice a7 o.length c7, .int .i64 (if 0 < lf then lf - 1 else lf), .bool (if lf = 0 then true else gn), .int .i64 (if lf = 0 then mn else mn + 1)], .int .i64 0]) rfl ⟨⟨_, rfl, load_ag T.ag69 ok.m0 T.sz69⟩, rfl, trivial⟩ rfl, (by rw [hfd1] at hfd; cases hfd)⟩
    obtain rfl := heq.symm
    have hfd := fd_none hmk1
    refine .w 46 .lss <| .w 47 .mvB <| .w 48 .mvS <| .w 49 (.len T.el67) <| .w 50 (.fa T.fd69_2) <| .w 51 (.ldx T.ag67 ok.m2) <| .w 52 (.len T.el67) <| .w 53 .eql <| .w 54 .pkt <| .nil ?_
    refine .cd (fun C3 => ?_) (fun C3 => ?_)
    · --
      refine .seq <| .r <| .w 55 (.ldb T.ag69 ok.m2 T.sz69) <| .ur' (.stW (vs := [.slice sa sl.length sc, .slice na nl.length nc, .slice pa pl.length pc, .int .i64 lf, .bool gn, .int .i64 mn]) T.sz69 ok.n1 (oneL rfl)) ?_
      rintro η17 ⟨ok, cg⟩
      refine .w 5 .asI <| .nil ?_
      refine .ret ⟨.tuple #[.agg #[.slice sa sl.length sc, .slice na nl.length nc, .slice pa pl.length pc, .int .i64 lf, .bool gn, .int .i64 mn], .int .i64 4], Res.many (vs := [.agg #[.slice sa sl.length sc, .slice na nl.length nc, .slice pa pl.length pc, .int .i64 lf, .bool gn, .int .i64 mn], .int .i64 4]) rfl ⟨⟨_, rfl, load_ag T.ag69 ok.m0 T.sz69⟩, rfl, trivial⟩ rfl, ⟨⟨sa, sc, sl, na, nc, nl, pa, pc, pl, lf, gn, mn⟩, by rw [syncW_n (by exact hw0) (hasW_n (by exact hfd)) (by show (withoutL WC.n (pl.map RWC.abs) n).length = (pl.map RWC.abs).length; rw [pend_len, List.length_map, ho2]; omega)] <;> rfl, by rw [syncW_n (by exact hw0) (hasW_n (by exact hfd)) (by show (withoutL WC.n (pl.map RWC.abs) n).length = (pl.map RWC.abs).length; rw [pend_len, List.length_map, ho2]; omega)], ok.chg, ⟨ok.r0.mono (fun _ h => .inl (And.left h)), ok.r1.mono (fun _ h => .inl (And.left h)), ok.r2.mono (fun _ h => .inl (And.left h))⟩⟩⟩
    refine .skip <| .seq <| ?_
    have hfd1 := hfd
    refine .r <| .w 57 (.ldb T.ag69 ok.m2 T.sz69) <| .c' 58 .func (count_any (by omega) (by omega)) ?_
    rintro _ η18 ⟨rfl, hx⟩
    have ok := ok.ext hx
    refine .w 56 .mvU <| .w 59 .ex <| .w 60 .ex <| .a' 9 (.alA T.zr69 ok) ?_
    rintro _ η19 ⟨pb4, rfl, ok, xe⟩
    refine .ur' (.stW (vs := [.slice sa sl.length sc, .slice na nl.length nc, .slice pa pl.length pc, .int .i64 (if 0 < lf then lf - 1 else lf), .bool (if lf = 0 then true else gn), .int .i64 (if lf = 0 then mn else mn + 1)]) T.sz69 ok (oneL rfl)) ?_
    rintro η20 ⟨ok, cg⟩
    refine .w 10 .asI <| .nil ?_
    refine .seq <| .seq <| .r <| .w 61 .mvI <| .w 62 .neq <| .nil ?_
    refine .cd (fun C4 => ?_) (fun C4 => ?_)
    · --
      have hl0 : lf = 0 := by by_cases h : lf = 0; exact h; exact absurd (by unfold countC; rw [if_neg h]; rfl) C4
      refine .seq <| .r <| .w 63 (.ldb T.ag69 ok.m0 T.sz69) <| .w 64 .mvI <| .ur' (.stW (vs := [.slice sa sl.length sc, .slice na nl.length nc, .slice pa pl.length pc, .int .i64 (if 0 < lf then lf - 1 else lf), .bool (if lf = 0 then true else gn), .int .i64 (if lf = 0 then mn else mn + 1)]) T.sz69 ok.n2 (oneL rfl)) ?_
      rintro η21 ⟨ok, cg⟩
      refine .w 5 .asI <| .nil ?_
      refine .ret ⟨.tuple #[.agg #[.slice sa sl.length sc, .slice na nl.length nc, .slice pa pl.length pc, .int .i64 (if 0 < lf then lf - 1 else lf), .bool (if lf = 0 then true else gn), .int .i64 (if lf = 0 then mn else mn + 1)], .int .i64 (countC lf : Int)], Res.many (vs := [.agg #[.slice sa sl.length sc, .slice na nl.length nc, .slice pa pl.length pc, .int .i64 (if 0 < lf then lf - 1 else lf), .bool (if lf = 0 then true else gn), .int .i64 (if lf = 0 then mn else mn + 1)], .int .i64 (countC lf : Int)]) rfl ⟨⟨_, rfl, load_ag T.ag69 ok.m0 T.sz69⟩, rfl, trivial⟩ rfl, ⟨⟨sa, sc, sl, na, nc, nl, pa, pc, pl, lf, true, mn⟩, by rw [syncW_p (by exact hw0) (by rintro ⟨h1, h2⟩; have h3 : (withoutL WC.n (pl.map RWC.abs) n).length = (pl.map RWC.abs).length := h2; rw [pend_len, List.length_map, ho2] at h3; omega) (by exact hl0)]; simp [hl0, countC], by rw [syncW_p (by exact hw0) (by rintro ⟨h1, h2⟩; have h3 : (withoutL WC.n (pl.map RWC.abs) n).length = (pl.map RWC.abs).length := h2; rw [pend_len, List.length_map, ho2] at h3; omega) (by exact hl0), countW_0 (by exact hl0)]; rfl, ok.chg, ⟨ok.r0.mono (fun _ h => .inl (And.left h)), ok.r1.mono (fun _ h => .inl (And.left h)), ok.r2.mono (fun _ h => .inl (And.left h))⟩⟩⟩
    have hl0 : ¬ lf = 0 := by intro h; unfold countC at C4; rw [if_pos h] at C4; simp at C4
    refine .skip <| .seq <| .r <| .w 65 .mvS <| .w 66 (.fa T.fd69_2) <| .ur' (.stS T.sz67 ok) ?_
    rintro η22 ⟨ok, cg⟩
    refine .nil ?_
    refine .seq <| .r <| .w 67 (.fa T.fd69_0) <| .w 68 (.ldx T.ag66 ok.m3) <| .w 69 .mvT <| .c' 70 .func (without_any (a := sa) (c := sc) (l := sl) ok.r0 (by omega) (n := n)) ?_
    rintro _ η23 own
    obtain ⟨ya3, yn3, yc3, rfl⟩ := own.form3
    have ok := ok.own own
    refine .w 71 (.fa T.fd69_0) <| .ur' (.stS T.sz66 ok.n1) ?_
    rintro η24 ⟨ok, cg⟩
    refine .nil ?_
    refine .seq <| .seq <| .r <| .w 72 (.fa T.fd69_1) <| .w 73 (.ldx T.ag66 ok.m4) <| .w 74 .mvT <| .c' 75 .func (find_any (a := na) (c := nc) (l := nl) (n := n) ok.r1) ?_
    rintro _ _ ⟨_, rfl, (⟨k3, hkk3, rfl, hnk3, hmk3⟩ | ⟨rfl, hmk3⟩), heq⟩
    · --
      obtain rfl := heq.symm
      have hfd := fd_some hkk3 hnk3 hmk3
      refine .w 11 .asI <| .nil ?_
      refine .seq <| .r <| .w 76 .mvI <| .w 77 .geq <| .nil ?_
      refine .cd (fun C5 => ?_) (fun C5 => ?_)
      · --
        rw [hfd1] at hfd; cases hfd
      omega
    obtain rfl := heq.symm
    have hfd := fd_none hmk3
    refine .w 11 .asI <| .nil ?_
    refine .seq <| .r <| .w 76 .mvI <| .w 77 .geq <| .nil ?_
    refine .cf <| .skip <| .seq <| .r <| .w 87 (.ldb T.ag69 ok.m0 T.sz69) <| .ur' (.stW (vs := [.slice ya3 yn3 yc3, .slice na nl.length nc, .slice a7 o.length c7, .int .i64 (if 0 < lf then lf - 1 else lf), .bool (if lf = 0 then true else gn), .int .i64 (if lf = 0 then mn else mn + 1)]) T.sz69 ok.n3 (oneL rfl)) ?_
    rintro η25 ⟨ok, cg⟩
    refine .w 5 .asI <| .nil ?_
    have hfr := ok.n3.n3
    have hnn : (withoutL RWF.n sl n).length = yn3 := (Sl.sz (Cap.sl hfr.m0) RWF.cells_len (by decide)).1
    refine .ret ⟨.tuple #[.agg #[.slice ya3 yn3 yc3, .slice na nl.length nc, .slice a7 o.length c7, .int .i64 (if 0 < lf then lf - 1 else lf), .bool (if lf = 0 then true else gn), .int .i64 (if lf = 0 then mn else mn + 1)], .int .i64 0], Res.many (vs := [.agg #[.slice ya3 yn3 yc3, .slice na nl.length nc, .slice a7 o.length c7, .int .i64 (if 0 < lf then lf - 1 else lf), .bool (if lf = 0 then true else gn), .int .i64 (if lf = 0 then mn else mn + 1)], .int .i64 0]) rfl ⟨⟨_, rfl, load_ag T.ag69 ok.m0 T.sz69⟩, rfl, trivial⟩ rfl, ⟨⟨ya3, yc3, withoutL RWF.n sl n, na, nc, nl, a7, c7, o, if 0 < lf then lf - 1 else lf, gn, mn + 1⟩, by rw [syncW_d (by exact hw0) (by rintro ⟨h1, h2⟩; have h3 : (withoutL WC.n (pl.map RWC.abs) n).length = (pl.map RWC.abs).length := h2; rw [pend_len, List.length_map, ho2] at h3; omega) (by exact hl0) (s := (withoutL RWF.n sl n).map RWF.abs) (by simp only [RW.abs]; rw [hfd]; exact (withoutL_map RWF.n WF.n RWF.abs (fun _ => rfl) sl n).symm)]; subst hnn; simp [hl0], by rw [syncW_d (by exact hw0) (by rintro ⟨h1, h2⟩; have h3 : (withoutL WC.n (pl.map RWC.abs) n).length = (pl.map RWC.abs).length := h2; rw [pend_len, List.length_map, ho2] at h3; omega) (by exact hl0) (s := (withoutL RWF.n sl n).map RWF.abs) (by simp only [RW.abs]; rw [hfd]; exact (withoutL_map RWF.n WF.n RWF.abs (fun _ => rfl) sl n).symm)]; simp only [RW.abs]; rw [← withoutL_map RWC.n WC.n RWC.abs (fun _ => rfl), ho2] <;> rfl, ok.chg, ⟨by rw [hnn]; exact RwB.filt (ok.r0) (by decide) RWF.cells_len hfr.m0 (fun j hj => .inr (hfr.fresh j hj)) (fun _ h => .inl (And.left h)) (fun y hy => (List.mem_filter.1 hy).1), ok.r1.mono (fun _ h => .inl (And.left h)), RwB.filt (ok.r2) (by decide) RWC.cells_len hfr.m1 (fun j hj => .inr (hfr.n1.fresh j hj)) (fun _ h => .inl (And.left h)) (fun y hy => by rw [← ho2] at hy; exact (List.mem_filter.1 hy).1)⟩⟩⟩
  have hil : i < pl.length := by omega
  refine .skip <| .seq <| .block fun K1 hK1 => .seq <| .r <| .w 26 (.fa T.fd69_2) <| .w 27 (.ldx T.ag67 ok.m2) <| .w 28 .mvI <| ?_
  obtain ⟨bb2, oo2, rfl, fb2⟩ := ok.r2.pos (by omega)
  refine .w 29 (.ix i T.el67 T.sz152) <| .w 30 (.fa T.fd152_2) <| .w 31 (.ld T.ag9 (sl_at RWC.cells_len (ok.r2).sl (i := i) (j := 2) (by omega) rfl)) <| .w 32 .mvT <| .w 33 .tNeB <| .nil ?_
  refine .cd (fun C2 => ?_) (fun C2 => ?_)
  · --
    refine .r <| .w 34 .mvS <| .w 35 (.fa T.fd69_2) <| .w 36 (.ldx T.ag67 ok.m2) <| .w 37 .mvI <| .w 38 (.ix i T.el67 T.sz152) <| .w 39 (.ldc (vs := RWC.cells pl[i]) T.ag152 (sl_ats RWC.cells_len (ok.r2).sl (i := i) (by omega)) T.sz152) <| .a' 40 (.lit [.tmp 39] (cs := [.int .i64 (pl[i].kind : Int), .int .i64 (pl[i].pos : Int), .string (BA (pl[i].n)), .slice (pl[i].ba) (pl[i].bl.length) (pl[i].bc)]) T.el67 T.sz152 T.zr152 ok ⟨rfl, trivial⟩) ?_
    rintro _ η26 ⟨pb5, rfl, ok, xe⟩
    refine .a' 41 (.app (news := [.int .i64 (pl[i].kind : Int), .int .i64 (pl[i].pos : Int), .string (BA (pl[i].n)), .slice (pl[i].ba) (pl[i].bl.length) (pl[i].bc)]) T.el67 T.sz152 T.by152 T.zr152 ok.n1 (ok.n1.m1).sl (oneL rfl) (by rw [flat_len RWC.cells_len]; simp only [List.length_cons, List.length_nil]; omega)) ?_
    rintro _ η27 ⟨ya4, yn4, yc4, rfl, ok, ap⟩
    have ok := ok.cx (ys := (o ++ [pl[i]]).flatMap RWC.cells) (by simp [RWC.cells])
    obtain rfl : yn4 = (o ++ [pl[i]]).length := (Sl.sz (Cap.sl ok.m0) RWC.cells_len (by decide)).1.symm
    refine .w 7 .asS <| .nil ?_
    refine .end <| hK1 _ _ <| .r <| .w 24 .mvI <| .w 25 (.addI (b := 1)) <| .w 8 .asI <| .nil ?_
    refine .end <| hJ0 _ _ _ ⟨i + 1, o ++ [pl[i]], ya4, yc4, ⟨rfl, rfl, rfl, rfl, rfl, trivial⟩, (ok.n3.n3.n2).k3, by omega, by rw [ho, drop_here hil, wog C2]; simp only [List.append_assoc, List.singleton_append, List.cons_append, List.nil_append], by first | omega | (simp only [List.length_append, List.length_singleton]; omega), rfl⟩ (by omega)
  refine .skip <| .end <| hK1 _ _ <| .r <| .w 24 .mvI <| .w 25 (.addI (b := 1)) <| .w 8 .asI <| .nil ?_
  refine .end <| hJ0 _ _ _ ⟨i + 1, o, a7, c7, ⟨rfl, rfl, rfl, rfl, rfl, trivial⟩, (ok.n2.n2.n2).k3, by omega, by rw [ho, drop_here hil, wos (by simpa using C2)], by first | omega | (simp only [List.length_append, List.length_singleton]; omega), rfl⟩ (by omega)

end Go.Proofs.Ytpebbkhainpfaaa
