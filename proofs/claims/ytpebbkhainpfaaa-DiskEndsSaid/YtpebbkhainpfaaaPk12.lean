/- A call that is done to a disk and to the document's. Conditions: both are in order. Few calls; the law DiskCuts: behind a cut just so many changes are done. Conditions: the calls are readable. -/
import Derived.Test.YtpebbkhainpfaaaPk11
namespace Go.HL
open Go
/-- An item turned, and two that are read grown, in another's memory. -/
theorem Hp.call2 {h0 h h' : Heap} {D : Nat → Prop} {M R : List Itm} {x x' A A' B B' : Itm} (ok : Hp h0 D (x :: M) (A :: B :: R) h) (q : Hp h x.F [x'] [A', B'] h') (hA : ∀ j, A'.F j → A.F j ∨ h.size ≤ j) (hB : ∀ j, B'.F j → B.F j ∨ h.size ≤ j) : Hp h0 D (x' :: M) (A' :: B' :: R) h' := by
  have o := ok.upd q.chg (fun _ x => x) x' q.m0 fun j hj => by
    have h1 := (q.m _ List.mem_cons_self).2 j hj
    exact h1.2.imp id fun h => ⟨h, h1.1⟩
  have hR : ∀ {Y Y' : Itm}, Y ∈ A :: B :: R → (∀ j, Y'.F j → Y.F j ∨ h.size ≤ j) → ∀ z ∈ M, ∀ j, z.F j → ¬ Y'.F j := fun {Y Y'} hY hF z hz j hj hj2 => by
    rcases hF j hj2 with h1 | h1
    · exact ok.mr z (List.mem_cons_of_mem _ hz) _ hY j hj h1
    · have := ((ok.m z (List.mem_cons_of_mem _ hz)).2 j hj).1
      omega
  refine ⟨o.chg, o.m, fun i hi => ?_, o.mm, fun z hz y hy j hj hj2 => ?_⟩
  · rcases List.mem_cons.1 hi with rfl | hi
    · exact q.r _ List.mem_cons_self
    · rcases List.mem_cons.1 hi with rfl | hi
      · exact q.r _ (List.mem_cons_of_mem _ List.mem_cons_self)
      · exact o.r i (List.mem_cons_of_mem _ (List.mem_cons_of_mem _ hi))
  · rcases List.mem_cons.1 hy with rfl | hy
    · rcases List.mem_cons.1 hz with rfl | hz
      · exact q.mr _ List.mem_cons_self _ List.mem_cons_self j hj hj2
      · exact hR List.mem_cons_self hA z hz j hj hj2
    · rcases List.mem_cons.1 hy with rfl | hy
      · rcases List.mem_cons.1 hz with rfl | hz
        · exact q.mr _ List.mem_cons_self _ (List.mem_cons_of_mem _ List.mem_cons_self) j hj hj2
        · exact hR (List.mem_cons_of_mem _ List.mem_cons_self) hB z hz j hj hj2
      · exact o.mr z hz y (List.mem_cons_of_mem _ (List.mem_cons_of_mem _ hy)) j hj hj2
end Go.HL
namespace Go.Proofs.Ytpebbkhainpfaaa
open Go Go.HL
structure POp where
  k : Nat
  n : List UInt8
  y : Int
  z : Int
  b : List UInt8
structure ROp where
  k : Nat
  n : List UInt8
  y : Int
  z : Int
  ba : Option Addr
  bc : Nat
  bl : List UInt8
def ROp.abs (x : ROp) : POp := ⟨x.k, x.n, x.y, x.z, x.bl⟩
def ROp.cells (x : ROp) : List Value := [.int .u8 (x.k : Int), .string (BA x.n), .int .i64 x.y, .int .i64 x.z, .slice x.ba x.bl.length x.bc]
def ROp.sb (x : ROp) : SB := (x.ba, x.bc, x.bl)
theorem ROp.cells_len (x : ROp) : x.cells.length = 5 := rfl
def stepD (d : Dk) (S : List (List UInt8)) (x : POp) : Dk := match x.k % 8 with
  | 0 => (writeN d x.n x.y x.b).1
  | 3 => (truncN d x.n x.y).1
  | 4 => (removeN d x.n).1
  | 5 => (syncN d x.n).1
  | 6 => cutN d x.z
  | 7 => crashN d S x.b
  | _ => d
def stepW (w : WD) (x : POp) : WD := match x.k % 8 with
  | 0 => (writeW w x.n x.y x.b).1
  | 3 => (truncW w x.n x.y).1
  | 4 => (removeW w x.n).1
  | 5 => (syncW w x.n).1
  | 6 => cutW w x.z
  | 7 => crashW w x.b
  | _ => w
def SameB (d : Dk) (w : WD) (x : POp) : Prop := match x.k % 8 with
  | 0 => (writeN d x.n x.y x.b).2 = (writeW w x.n x.y x.b).2
  | 1 => (readN d x.n x.y x.z).1 = (readW w x.n x.y x.z).1 ∧ (readN d x.n x.y x.z).2 = (readW w x.n x.y x.z).2
  | 2 => (sizeN d x.n).1 = (sizeW w x.n).1 ∧ (sizeN d x.n).2 = (sizeW w x.n).2
  | 3 => (truncN d x.n x.y).2 = (truncW w x.n x.y).2
  | 4 => (removeN d x.n).2 = (removeW w x.n).2
  | 5 => (syncN d x.n).2 = (syncW w x.n).2
  | _ => True
theorem cutW_eq {w : WD} {z : Int} : cutW w z = ⟨w.safe, w.now, w.pend, if w.gone = true then w.left else max z (-1), w.gone, w.many⟩ := by
  obtain ⟨a, b, c, l, g, m⟩ := w; cases g <;> rfl

set_option maxRecDepth 100000 in
set_option maxHeartbeats 2000000 in
theorem call_any {h : Heap} {d : Nat} {r : RD} {E FB EB EW : Nat → Prop} {sa na pa : Option Addr} {sc nc pc : Nat} {sl nl : List RWF} {pl : List RWC} {lf : Int} {gn : Bool} {mn : Int} {k : Nat} {n bl : List UInt8} {y z : Int} {ba : Option Addr} {bc : Nat} {S : List (List UInt8)} (ok : Hp h (dskI d r).F [dskI d r] [bysI E r.fs, docI EW ⟨sa, sc, sl, na, nc, nl, pa, pc, pl, lf, gn, mn⟩, rdI FB EB (ba, bl.length, bc) bl] h) (hk : DkOk r.abs) (hcg : r.chg < 900000000) (hs : WS (RW.abs ⟨sa, sc, sl, na, nc, nl, pa, pc, pl, lf, gn, mn⟩)) (hl : lf ≤ 9223372036854775807) (hk2 : k < 256) (hy : -9223372036854775808 ≤ y ∧ y ≤ 9223372036854775807) (hz : -9223372036854775808 ≤ z ∧ z ≤ 9223372036854775807) (hK : Keys r.abs.fs S) : HC Try.prog 39 #[.pointer (some ⟨d, 0, none⟩), .agg #[.slice sa sl.length sc, .slice na nl.length nc, .slice pa pl.length pc, .int .i64 lf, .bool gn, .int .i64 mn], .agg #[.int .u8 (k : Int), .string (BA n), .int .i64 y, .int .i64 z, .slice ba bl.length bc]] h (fun v h' => ∃ (S2 : List (List UInt8)) (r' : RD) (E' : Nat → Prop) (w : RW) (EW' : Nat → Prop) (b : Bool), v = .tuple #[.agg #[.slice w.sa w.sl.length w.sc, .slice w.na w.nl.length w.nc, .slice w.pa w.pl.length w.pc, .int .i64 w.left, .bool w.gone, .int .i64 w.many], .bool b] ∧ Keys r.abs.fs S2 ∧ r'.abs = stepD r.abs S2 ⟨k, n, y, z, bl⟩ ∧ w.abs = stepW (RW.abs ⟨sa, sc, sl, na, nc, nl, pa, pc, pl, lf, gn, mn⟩) ⟨k, n, y, z, bl⟩ ∧ (b = true ↔ SameB r.abs (RW.abs ⟨sa, sc, sl, na, nc, nl, pa, pc, pl, lf, gn, mn⟩) ⟨k, n, y, z, bl⟩) ∧ Hp h (dskI d r).F [dskI d r'] [bysI E' r'.fs, docI EW' w] h' ∧ (∀ j, E' j → E j ∨ h.size ≤ j) ∧ (∀ j, EW' j → EW j ∨ h.size ≤ j)) := by
  refine HC.go Try.func39 162 ?_
  refine .seq <| .r <| .a' 4 (.bxA (cs := [.slice sa sl.length sc, .slice na nl.length nc, .slice pa pl.length pc, .int .i64 lf, .bool gn, .int .i64 mn]) ok) ?_
  rintro _ η1 ⟨pb1, rfl, ok, xe⟩
  refine .a' 5 (.bxA (cs := [.int .u8 (k : Int), .string (BA n), .int .i64 y, .int .i64 z, .slice ba bl.length bc]) ok) ?_
  rintro _ η2 ⟨pb2, rfl, ok, xe⟩
  refine .a' 6 (.alA T.zr69 ok) ?_
  rintro _ η3 ⟨pb3, rfl, ok, xe⟩
  refine .w 7 .asB <| .nil ?_
  refine .seq <| .r <| .w 8 .asI <| .nil ?_
  refine .seq <| .r <| .w 9 .asI <| .nil ?_
  refine .seq <| .r <| .w 10 .asB <| .nil ?_
  refine .seq <| .seq <| .r <| .w 17 (.fa T.fd73_0) <| .w 18 (.ldx T.ag5 ok.m1) <| .w 19 (.remn (b := 8)) <| .nil ?_
  refine .block fun K0 hK0 => .seq <| .r <| .w 21 .eql <| .w 20 .asB <| .nil ?_
  refine .cd (fun C0 => ?_) (fun C0 => ?_)
  · --
    have hk8 : k % 8 = 0 := by omega
    have hsz00 := ok.chg.size
    refine .seq <| .r <| .w 22 .mvP <| .w 23 (.fa T.fd73_1) <| .w 24 (.ldx T.ag9 ok.m1) <| .w 25 (.fa T.fd73_2) <| .w 26 (.ldx T.ag3 ok.m1) <| .w 27 (.fa T.fd73_4) <| .w 28 (.ldx T.ag22 ok.m1) <| .c' 29 .func (write_any (d := d) (r := r) (E := E) (n := n) (z := y) (a := ba) (c := bc) (l := bl) (ok.n3.f2.f1).loc2 hk (by omega) ⟨by omega, by omega⟩) ?_
    rintro _ η4 ⟨rw1, Ew1, rfl, haw1, upw1⟩
    have ok := (ok.n3.f2.f1).dsk (d := d) (r := r) upw1
    have hkw1 : DkOk rw1.abs := by rw [haw1]; exact (hk).write
    have hcw1 : rw1.chg ≤ r.chg + 1 := Int.le_trans (Int.le_of_eq (congrArg Dk.chg haw1)) write_chg
    refine .w 8 .asI <| .nil ?_
    refine .r <| .w 31 (.ldb T.ag69 ok.m3 T.sz69) <| .w 32 (.fa T.fd73_1) <| .w 33 (.ldx T.ag9 ok.m2) <| .w 34 (.fa T.fd73_2) <| .w 35 (.ldx T.ag3 ok.m2) <| .w 36 (.fa T.fd73_4) <| .w 37 (.ldx T.ag22 ok.m2) <| .c' 38 .func (rwrite_any (E := EW) (sa := sa) (sc := sc) (sl := sl) (na := na) (nc := nc) (nl := nl) (pa := pa) (pc := pc) (pl := pl) (lf := lf) (gn := gn) (mn := mn) (n := n) (z := y) (a := ba) (c := bc) (l := bl) (ok.r2) hs hl ok.r1 ⟨by omega, by omega⟩) ?_
    rintro _ η5 ⟨wv1, rfl, hwv1, hrv1⟩
    have hszv1 := ok.chg.size
    have ok := ok.grow hrv1.ext (r := docI EW ⟨sa, sc, sl, na, nc, nl, pa, pc, pl, lf, gn, mn⟩) (by simp) (docI (fun j => EW j ∨ Nw η4 η5 j) wv1) hrv1.rd (fun j hj => hj)
    refine .w 30 .mvU <| .w 39 .ex <| .w 40 .ex <| .ur' (.stW (vs := [.slice wv1.sa wv1.sl.length wv1.sc, .slice wv1.na wv1.nl.length wv1.nc, .slice wv1.pa wv1.pl.length wv1.pc, .int .i64 wv1.left, .bool wv1.gone, .int .i64 wv1.many]) T.sz69 ok.n3 (oneL rfl)) ?_
    rintro η6 ⟨ok, cg⟩
    refine .w 9 .asI <| .nil ?_
    refine .end <| hK0 _ _ <| .seq <| .r <| .w 155 (.ldb T.ag69 ok.m0 T.sz69) <| .w 156 .mvB <| .w 157 .mvB <| .w 158 .mvI <| .w 159 .mvI <| .w 160 .eql <| .w 161 .pkt <| .ur' (.stW (vs := [.slice wv1.sa wv1.sl.length wv1.sc, .slice wv1.na wv1.nl.length wv1.nc, .slice wv1.pa wv1.pl.length wv1.pc, .int .i64 wv1.left, .bool wv1.gone, .int .i64 wv1.many]) T.sz69 ok.n2 (oneL rfl)) ?_
    rintro η7 ⟨ok, cg⟩
    refine .w 7 .asB <| .nil ?_
    refine .ret ⟨.tuple #[.agg #[.slice wv1.sa wv1.sl.length wv1.sc, .slice wv1.na wv1.nl.length wv1.nc, .slice wv1.pa wv1.pl.length wv1.pc, .int .i64 wv1.left, .bool wv1.gone, .int .i64 wv1.many], .bool (decide (((writeN r.abs n y bl).2 : Int) = ((writeW (RW.abs ⟨sa, sc, sl, na, nc, nl, pa, pc, pl, lf, gn, mn⟩) n y bl).2 : Int)))], Res.many (vs := [.agg #[.slice wv1.sa wv1.sl.length wv1.sc, .slice wv1.na wv1.nl.length wv1.nc, .slice wv1.pa wv1.pl.length wv1.pc, .int .i64 wv1.left, .bool wv1.gone, .int .i64 wv1.many], .bool (decide (((writeN r.abs n y bl).2 : Int) = ((writeW (RW.abs ⟨sa, sc, sl, na, nc, nl, pa, pc, pl, lf, gn, mn⟩) n y bl).2 : Int)))]) rfl ⟨⟨_, rfl, load_ag T.ag69 ok.m0 T.sz69⟩, rfl, trivial⟩ rfl, ⟨S, rw1, Ew1, wv1, (fun j => EW j ∨ Nw η4 η5 j), decide (((writeN r.abs n y bl).2 : Int) = ((writeW (RW.abs ⟨sa, sc, sl, na, nc, nl, pa, pc, pl, lf, gn, mn⟩) n y bl).2 : Int)), rfl, hK, by simp only [stepD, hk8]; exact haw1, by simp only [stepW, hk8]; exact hwv1, by simp only [SameB, hk8, decide_eq_true_eq]; omega, (ok.n2.k1).f1.e2, fun j hj => (upw1.new j hj).imp id (fun h9 => Nat.le_trans hsz00 h9), fun j hj => hj.imp id (fun h9 => Nat.le_trans hszv1 h9.1)⟩⟩
  refine .seq <| .r <| .w 42 .eql <| .w 41 .asB <| .nil ?_
  refine .cd (fun C1 => ?_) (fun C1 => ?_)
  · --
    have hk8 : k % 8 = 1 := by omega
    have hsz00 := ok.chg.size
    refine .seq <| .r <| .w 11 .asS <| .w 12 .asS <| .nil ?_
    refine .seq <| .r <| .w 44 .mvP <| .w 45 (.fa T.fd73_1) <| .w 46 (.ldx T.ag9 ok.m1) <| .w 47 (.fa T.fd73_2) <| .w 48 (.ldx T.ag3 ok.m1) <| .w 49 (.fa T.fd73_3) <| .w 50 (.ldx T.ag3 ok.m1) <| .c' 51 .func (read_anyD (d := d) (r := r) (E := E) (n := n) (y := y) (z := z) ((ok.n3).rdo) hk ⟨by omega, by omega⟩ ⟨by omega, by omega⟩) ?_
    rintro _ η8 ⟨w, rfl, own⟩
    obtain ⟨ya1, yc1, rfl⟩ := own.formB
    have ok := ok.own own
    refine .w 43 .mvU <| .w 52 .ex <| .w 53 .ex <| .w 11 .asS <| .w 8 .asI <| .nil ?_
    refine .seq <| .r <| .w 55 (.ldb T.ag69 ok.m3 T.sz69) <| .w 56 (.fa T.fd73_1) <| .w 57 (.ldx T.ag9 ok.m2) <| .w 58 (.fa T.fd73_2) <| .w 59 (.ldx T.ag3 ok.m2) <| .w 60 (.fa T.fd73_3) <| .w 61 (.ldx T.ag3 ok.m2) <| .c' 62 .func (dread_any (E := EW) (sa := sa) (sc := sc) (sl := sl) (na := na) (nc := nc) (nl := nl) (pa := pa) (pc := pc) (pl := pl) (lf := lf) (gn := gn) (mn := mn) (n := n) (y := y) (z := z) (ok.r1) hs ⟨by omega, by omega⟩ ⟨by omega, by omega⟩) ?_
    rintro _ η9 ⟨w, rfl, own⟩
    obtain ⟨ya2, yc2, rfl⟩ := own.formB
    have ok := ok.own own
    refine .w 54 .mvU <| .w 63 .ex <| .w 64 .ex <| .w 12 .asS <| .w 9 .asI <| .nil ?_
    refine .r <| .w 65 .mvS <| .w 66 .mvS <| .k 67 .func (same_any (a := ya1) (c := yc1) (l := ((readN r.abs n y z).1)) (b := ya2) (d := yc2) (l2 := ((readW (RW.abs ⟨sa, sc, sl, na, nc, nl, pa, pc, pl, lf, gn, mn⟩) n y z).1)) (RdL.ofCapB (v := (ya1, ((readN r.abs n y z).1).length, yc1)) (l := ((readN r.abs n y z).1)) ok.m1) (RdL.ofCapB (v := (ya2, ((readW (RW.abs ⟨sa, sc, sl, na, nc, nl, pa, pc, pl, lf, gn, mn⟩) n y z).1).length, yc2)) (l := ((readW (RW.abs ⟨sa, sc, sl, na, nc, nl, pa, pc, pl, lf, gn, mn⟩) n y z).1)) ok.m0)) <| .w 10 .asB <| .nil ?_
    refine .end <| hK0 _ _ <| .seq <| .r <| .w 155 (.ldb T.ag69 ok.m4 T.sz69) <| .w 156 .mvB <| .w 157 .mvB <| .sd (fun G157 => ?_) (fun G157 => ?_)
    ·
      refine .w 158 .mvI <| .w 159 .mvI <| .w 160 .eql <| .w 161 .pkt <| .ur' (.stW (vs := [.slice sa sl.length sc, .slice na nl.length nc, .slice pa pl.length pc, .int .i64 lf, .bool gn, .int .i64 mn]) T.sz69 ok.n2 (oneL rfl)) ?_
      rintro η10 ⟨ok, cg⟩
      refine .w 7 .asB <| .nil ?_
      refine .ret ⟨.tuple #[.agg #[.slice sa sl.length sc, .slice na nl.length nc, .slice pa pl.length pc, .int .i64 lf, .bool gn, .int .i64 mn], .bool (decide ((((readN r.abs n y z).2 : Nat) : Int) = ((readW (RW.abs ⟨sa, sc, sl, na, nc, nl, pa, pc, pl, lf, gn, mn⟩) n y z).2 : Int)))], Res.many (vs := [.agg #[.slice sa sl.length sc, .slice na nl.length nc, .slice pa pl.length pc, .int .i64 lf, .bool gn, .int .i64 mn], .bool (decide ((((readN r.abs n y z).2 : Nat) : Int) = ((readW (RW.abs ⟨sa, sc, sl, na, nc, nl, pa, pc, pl, lf, gn, mn⟩) n y z).2 : Int)))]) rfl ⟨⟨_, rfl, load_ag T.ag69 ok.m0 T.sz69⟩, rfl, trivial⟩ rfl, ⟨S, r, E, ⟨sa, sc, sl, na, nc, nl, pa, pc, pl, lf, gn, mn⟩, EW, decide ((((readN r.abs n y z).2 : Nat) : Int) = ((readW (RW.abs ⟨sa, sc, sl, na, nc, nl, pa, pc, pl, lf, gn, mn⟩) n y z).2 : Int)), rfl, hK, by simp only [stepD, hk8], by simp only [stepW, hk8], (by simp only [SameB, hk8]; exact ⟨fun h9 => ⟨by assumption, by have := of_decide_eq_true h9; omega⟩, fun h9 => decide_eq_true (by have := h9.2; omega)⟩), (ok.n5.k1).f1.f1.e2, fun j hj => .inl hj, fun j hj => .inl hj⟩⟩
    refine .x 158 <| .x 159 <| .x 160 <| .w 161 .pkf <| .ur' (.stW (vs := [.slice sa sl.length sc, .slice na nl.length nc, .slice pa pl.length pc, .int .i64 lf, .bool gn, .int .i64 mn]) T.sz69 ok.n2 (oneL rfl)) ?_
    rintro η11 ⟨ok, cg⟩
    refine .w 7 .asB <| .nil ?_
    refine .ret ⟨.tuple #[.agg #[.slice sa sl.length sc, .slice na nl.length nc, .slice pa pl.length pc, .int .i64 lf, .bool gn, .int .i64 mn], .bool false], Res.many (vs := [.agg #[.slice sa sl.length sc, .slice na nl.length nc, .slice pa pl.length pc, .int .i64 lf, .bool gn, .int .i64 mn], .bool false]) rfl ⟨⟨_, rfl, load_ag T.ag69 ok.m0 T.sz69⟩, rfl, trivial⟩ rfl, ⟨S, r, E, ⟨sa, sc, sl, na, nc, nl, pa, pc, pl, lf, gn, mn⟩, EW, false, rfl, hK, by simp only [stepD, hk8], by simp only [stepW, hk8], (by simp only [SameB, hk8]; exact ⟨fun h9 => (by cases h9), fun h9 => by first | exact absurd h9.1 (by assumption) | exact absurd h9.2 (by simpa using G157) | (have := h9.1; omega)⟩), (ok.n5.k1).f1.f1.e2, fun j hj => .inl hj, fun j hj => .inl hj⟩⟩
  refine .seq <| .r <| .w 69 .eql <| .w 68 .asB <| .nil ?_
  refine .cd (fun C2 => ?_) (fun C2 => ?_)
  · --
    have hk8 : k % 8 = 2 := by omega
    have hsz00 := ok.chg.size
    refine .seq <| .r <| .w 71 .mvP <| .w 72 (.fa T.fd73_1) <| .w 73 (.ldx T.ag9 ok.m1) <| .k 74 .func (size_anyD (d := d) (r := r) (n := n) (ok.m3)) <| .w 70 .mvU <| .w 75 .ex <| .w 76 .ex <| .w 13 .asI <| .w 14 .asB <| .nil ?_
    refine .seq <| .r <| .w 78 (.ldb T.ag69 ok.m2 T.sz69) <| .w 79 (.fa T.fd73_1) <| .w 80 (.ldx T.ag9 ok.m1) <| .c' 81 .func (dsize_any (E := EW) (sa := sa) (sc := sc) (sl := sl) (na := na) (nc := nc) (nl := nl) (pa := pa) (pc := pc) (pl := pl) (lf := lf) (gn := gn) (mn := mn) (n := n) (ok.r1) hs) ?_
    rintro _ η12 ⟨rfl, hx⟩
    have ok := ok.ext hx
    refine .w 77 .mvU <| .w 82 .ex <| .w 83 .ex <| .w 15 .asI <| .w 16 .asB <| .nil ?_
    refine .r <| .w 84 .mvI <| .w 85 .mvI <| .w 86 .eql <| .w 87 .mvB <| .sd (fun G87 => ?_) (fun G87 => ?_)
    ·
      refine .w 88 .mvB <| .w 89 .mvB <| .w 90 (.bEq T.bo4) <| .w 91 .pkt <| .w 10 .asB <| .nil ?_
      refine .end <| hK0 _ _ <| .seq <| .r <| .w 155 (.ldb T.ag69 ok.m2 T.sz69) <| .w 156 .mvB <| .w 157 .mvB <| .spl (fun G157 => ?_) (fun G157 => ?_)
      ·
        refine .w 158 .mvI <| .w 159 .mvI <| .w 160 .eql <| .w 161 .pkt <| .ur' (.stW (vs := [.slice sa sl.length sc, .slice na nl.length nc, .slice pa pl.length pc, .int .i64 lf, .bool gn, .int .i64 mn]) T.sz69 ok (oneL rfl)) ?_
        rintro η13 ⟨ok, cg⟩
        refine .w 7 .asB <| .nil ?_
        refine .ret ⟨.tuple #[.agg #[.slice sa sl.length sc, .slice na nl.length nc, .slice pa pl.length pc, .int .i64 lf, .bool gn, .int .i64 mn], .bool true], Res.many (vs := [.agg #[.slice sa sl.length sc, .slice na nl.length nc, .slice pa pl.length pc, .int .i64 lf, .bool gn, .int .i64 mn], .bool true]) rfl ⟨⟨_, rfl, load_ag T.ag69 ok.m0 T.sz69⟩, rfl, trivial⟩ rfl, ⟨S, r, E, ⟨sa, sc, sl, na, nc, nl, pa, pc, pl, lf, gn, mn⟩, EW, true, rfl, hK, by simp only [stepD, hk8], by simp only [stepW, hk8], (by simp only [SameB, hk8]; exact ⟨fun _ => ⟨by omega, by simpa using G157⟩, fun _ => (by first | rfl | trivial)⟩), (ok.n3.k1).f1.f1.e2, fun j hj => .inl hj, fun j hj => .inl hj⟩⟩
      refine .x 158 <| .x 159 <| .x 160 <| .w 161 .pkf <| .ur' (.stW (vs := [.slice sa sl.length sc, .slice na nl.length nc, .slice pa pl.length pc, .int .i64 lf, .bool gn, .int .i64 mn]) T.sz69 ok (oneL rfl)) ?_
      rintro η14 ⟨ok, cg⟩
      refine .w 7 .asB <| .nil ?_
      refine .ret ⟨.tuple #[.agg #[.slice sa sl.length sc, .slice na nl.length nc, .slice pa pl.length pc, .int .i64 lf, .bool gn, .int .i64 mn], .bool false], Res.many (vs := [.agg #[.slice sa sl.length sc, .slice na nl.length nc, .slice pa pl.length pc, .int .i64 lf, .bool gn, .int .i64 mn], .bool false]) rfl ⟨⟨_, rfl, load_ag T.ag69 ok.m0 T.sz69⟩, rfl, trivial⟩ rfl, ⟨S, r, E, ⟨sa, sc, sl, na, nc, nl, pa, pc, pl, lf, gn, mn⟩, EW, false, rfl, hK, by simp only [stepD, hk8], by simp only [stepW, hk8], (by simp only [SameB, hk8]; exact ⟨fun h9 => (by cases h9), fun h9 => by first | exact absurd h9.1 (by assumption) | exact absurd h9.2 (by simpa using G157) | (have := h9.1; omega)⟩), (ok.n3.k1).f1.f1.e2, fun j hj => .inl hj, fun j hj => .inl hj⟩⟩
    refine .x 88 <| .x 89 <| .x 90 <| .w 91 .pkf <| .w 10 .asB <| .nil ?_
    refine .end <| hK0 _ _ <| .seq <| .r <| .w 155 (.ldb T.ag69 ok.m2 T.sz69) <| .w 156 .mvB <| .w 157 .mvB <| .x 158 <| .x 159 <| .x 160 <| .w 161 .pkf <| .ur' (.stW (vs := [.slice sa sl.length sc, .slice na nl.length nc, .slice pa pl.length pc, .int .i64 lf, .bool gn, .int .i64 mn]) T.sz69 ok (oneL rfl)) ?_
    rintro η15 ⟨ok, cg⟩
    refine .w 7 .asB <| .nil ?_
    refine .ret ⟨.tuple #[.agg #[.slice sa sl.length sc, .slice na nl.length nc, .slice pa pl.length pc, .int .i64 lf, .bool gn, .int .i64 mn], .bool false], Res.many (vs := [.agg #[.slice sa sl.length sc, .slice na nl.length nc, .slice pa pl.length pc, .int .i64 lf, .bool gn, .int .i64 mn], .bool false]) rfl ⟨⟨_, rfl, load_ag T.ag69 ok.m0 T.sz69⟩, rfl, trivial⟩ rfl, ⟨S, r, E, ⟨sa, sc, sl, na, nc, nl, pa, pc, pl, lf, gn, mn⟩, EW, false, rfl, hK, by simp only [stepD, hk8], by simp only [stepW, hk8], (by simp only [SameB, hk8]; exact ⟨fun h9 => (by cases h9), fun h9 => by first | exact absurd h9.1 (by assumption) | exact absurd h9.2 (by simpa using G157) | (have := h9.1; omega)⟩), (ok.n3.k1).f1.f1.e2, fun j hj => .inl hj, fun j hj => .inl hj⟩⟩
  refine .seq <| .r <| .w 93 .eql <| .w 92 .asB <| .nil ?_
  refine .cd (fun C3 => ?_) (fun C3 => ?_)
  · --
    have hk8 : k % 8 = 3 := by omega
    have hsz00 := ok.chg.size
    refine .seq <| .r <| .w 94 .mvP <| .w 95 (.fa T.fd73_1) <| .w 96 (.ldx T.ag9 ok.m1) <| .w 97 (.fa T.fd73_2) <| .w 98 (.ldx T.ag3 ok.m1) <| .c' 99 .func (trunc_any (d := d) (r := r) (E := E) (n := n) (z := y) (ok.n3).loc1 hk (by omega) ⟨by omega, by omega⟩) ?_
    rintro _ η16 ⟨rw2, Ew2, rfl, haw2, upw2⟩
    have ok := (ok.n3).dsk (d := d) (r := r) upw2
    have hkw2 : DkOk rw2.abs := by rw [haw2]; exact (hk).trunc
    have hcw2 : rw2.chg ≤ r.chg + 1 := Int.le_trans (Int.le_of_eq (congrArg Dk.chg haw2)) trunc_chg
    refine .w 8 .asI <| .nil ?_
    refine .r <| .w 101 (.ldb T.ag69 ok.m3 T.sz69) <| .w 102 (.fa T.fd73_1) <| .w 103 (.ldx T.ag9 ok.m2) <| .w 104 (.fa T.fd73_2) <| .w 105 (.ldx T.ag3 ok.m2) <| .c' 106 .func (rtrunc_any (E := EW) (sa := sa) (sc := sc) (sl := sl) (na := na) (nc := nc) (nl := nl) (pa := pa) (pc := pc) (pl := pl) (lf := lf) (gn := gn) (mn := mn) (n := n) (z := y) (ok.r1) hs hl ⟨by omega, by omega⟩) ?_
    rintro _ η17 ⟨wv2, rfl, hwv2, hrv2⟩
    have hszv2 := ok.chg.size
    have ok := ok.grow hrv2.ext (r := docI EW ⟨sa, sc, sl, na, nc, nl, pa, pc, pl, lf, gn, mn⟩) (by simp) (docI (fun j => EW j ∨ Nw η16 η17 j) wv2) hrv2.rd (fun j hj => hj)
    refine .w 100 .mvU <| .w 107 .ex <| .w 108 .ex <| .ur' (.stW (vs := [.slice wv2.sa wv2.sl.length wv2.sc, .slice wv2.na wv2.nl.length wv2.nc, .slice wv2.pa wv2.pl.length wv2.pc, .int .i64 wv2.left, .bool wv2.gone, .int .i64 wv2.many]) T.sz69 ok.n3 (oneL rfl)) ?_
    rintro η18 ⟨ok, cg⟩
    refine .w 9 .asI <| .nil ?_
    refine .end <| hK0 _ _ <| .seq <| .r <| .w 155 (.ldb T.ag69 ok.m0 T.sz69) <| .w 156 .mvB <| .w 157 .mvB <| .w 158 .mvI <| .w 159 .mvI <| .w 160 .eql <| .w 161 .pkt <| .ur' (.stW (vs := [.slice wv2.sa wv2.sl.length wv2.sc, .slice wv2.na wv2.nl.length wv2.nc, .slice wv2.pa wv2.pl.length wv2.pc, .int .i64 wv2.left, .bool wv2.gone, .int .i64 wv2.many]) T.sz69 ok.n2 (oneL rfl)) ?_
    rintro η19 ⟨ok, cg⟩
    refine .w 7 .asB <| .nil ?_
    refine .ret ⟨.tuple #[.agg #[.slice wv2.sa wv2.sl.length wv2.sc, .slice wv2.na wv2.nl.length wv2.nc, .slice wv2.pa wv2.pl.length wv2.pc, .int .i64 wv2.left, .bool wv2.gone, .int .i64 wv2.many], .bool (decide (((truncN r.abs n y).2 : Int) = ((truncW (RW.abs ⟨sa, sc, sl, na, nc, nl, pa, pc, pl, lf, gn, mn⟩) n y).2 : Int)))], Res.many (vs := [.agg #[.slice wv2.sa wv2.sl.length wv2.sc, .slice wv2.na wv2.nl.length wv2.nc, .slice wv2.pa wv2.pl.length wv2.pc, .int .i64 wv2.left, .bool wv2.gone, .int .i64 wv2.many], .bool (decide (((truncN r.abs n y).2 : Int) = ((truncW (RW.abs ⟨sa, sc, sl, na, nc, nl, pa, pc, pl, lf, gn, mn⟩) n y).2 : Int)))]) rfl ⟨⟨_, rfl, load_ag T.ag69 ok.m0 T.sz69⟩, rfl, trivial⟩ rfl, ⟨S, rw2, Ew2, wv2, (fun j => EW j ∨ Nw η16 η17 j), decide (((truncN r.abs n y).2 : Int) = ((truncW (RW.abs ⟨sa, sc, sl, na, nc, nl, pa, pc, pl, lf, gn, mn⟩) n y).2 : Int)), rfl, hK, by simp only [stepD, hk8]; exact haw2, by simp only [stepW, hk8]; exact hwv2, by simp only [SameB, hk8, decide_eq_true_eq]; omega, (ok.n2.k1).f1.e2, fun j hj => (upw2.new j hj).imp id (fun h9 => Nat.le_trans hsz00 h9), fun j hj => hj.imp id (fun h9 => Nat.le_trans hszv2 h9.1)⟩⟩
  refine .seq <| .r <| .w 110 .eql <| .w 109 .asB <| .nil ?_
  refine .cd (fun C4 => ?_) (fun C4 => ?_)
  · --
    have hk8 : k % 8 = 4 := by omega
    have hsz00 := ok.chg.size
    refine .seq <| .r <| .w 111 .mvP <| .w 112 (.fa T.fd73_1) <| .w 113 (.ldx T.ag9 ok.m1) <| .c' 114 .func (remove_any (d := d) (r := r) (E := E) (n := n) (ok.n3).loc1 hk (by omega)) ?_
    rintro _ η20 ⟨rw3, Ew3, rfl, haw3, upw3⟩
    have ok := (ok.n3).dsk (d := d) (r := r) upw3
    have hkw3 : DkOk rw3.abs := by rw [haw3]; exact (hk).remove
    have hcw3 : rw3.chg ≤ r.chg + 1 := Int.le_trans (Int.le_of_eq (congrArg Dk.chg haw3)) remove_chg
    refine .w 8 .asI <| .nil ?_
    refine .r <| .w 116 (.ldb T.ag69 ok.m3 T.sz69) <| .w 117 (.fa T.fd73_1) <| .w 118 (.ldx T.ag9 ok.m2) <| .c' 119 .func (rremove_any (E := EW) (sa := sa) (sc := sc) (sl := sl) (na := na) (nc := nc) (nl := nl) (pa := pa) (pc := pc) (pl := pl) (lf := lf) (gn := gn) (mn := mn) (n := n) (ok.r1) hs hl) ?_
    rintro _ η21 ⟨wv3, rfl, hwv3, hrv3⟩
    have hszv3 := ok.chg.size
    have ok := ok.grow hrv3.ext (r := docI EW ⟨sa, sc, sl, na, nc, nl, pa, pc, pl, lf, gn, mn⟩) (by simp) (docI (fun j => EW j ∨ Nw η20 η21 j) wv3) hrv3.rd (fun j hj => hj)
    refine .w 115 .mvU <| .w 120 .ex <| .w 121 .ex <| .ur' (.stW (vs := [.slice wv3.sa wv3.sl.length wv3.sc, .slice wv3.na wv3.nl.length wv3.nc, .slice wv3.pa wv3.pl.length wv3.pc, .int .i64 wv3.left, .bool wv3.gone, .int .i64 wv3.many]) T.sz69 ok.n3 (oneL rfl)) ?_
    rintro η22 ⟨ok, cg⟩
    refine .w 9 .asI <| .nil ?_
    refine .end <| hK0 _ _ <| .seq <| .r <| .w 155 (.ldb T.ag69 ok.m0 T.sz69) <| .w 156 .mvB <| .w 157 .mvB <| .w 158 .mvI <| .w 159 .mvI <| .w 160 .eql <| .w 161 .pkt <| .ur' (.stW (vs := [.slice wv3.sa wv3.sl.length wv3.sc, .slice wv3.na wv3.nl.length wv3.nc, .slice wv3.pa wv3.pl.length wv3.pc, .int .i64 wv3.left, .bool wv3.gone, .int .i64 wv3.many]) T.sz69 ok.n2 (oneL rfl)) ?_
    rintro η23 ⟨ok, cg⟩
    refine .w 7 .asB <| .nil ?_
    refine .ret ⟨.tuple #[.agg #[.slice wv3.sa wv3.sl.length wv3.sc, .slice wv3.na wv3.nl.length wv3.nc, .slice wv3.pa wv3.pl.length wv3.pc, .int .i64 wv3.left, .bool wv3.gone, .int .i64 wv3.many], .bool (decide (((removeN r.abs n).2 : Int) = ((removeW (RW.abs ⟨sa, sc, sl, na, nc, nl, pa, pc, pl, lf, gn, mn⟩) n).2 : Int)))], Res.many (vs := [.agg #[.slice wv3.sa wv3.sl.length wv3.sc, .slice wv3.na wv3.nl.length wv3.nc, .slice wv3.pa wv3.pl.length wv3.pc, .int .i64 wv3.left, .bool wv3.gone, .int .i64 wv3.many], .bool (decide (((removeN r.abs n).2 : Int) = ((removeW (RW.abs ⟨sa, sc, sl, na, nc, nl, pa, pc, pl, lf, gn, mn⟩) n).2 : Int)))]) rfl ⟨⟨_, rfl, load_ag T.ag69 ok.m0 T.sz69⟩, rfl, trivial⟩ rfl, ⟨S, rw3, Ew3, wv3, (fun j => EW j ∨ Nw η20 η21 j), decide (((removeN r.abs n).2 : Int) = ((removeW (RW.abs ⟨sa, sc, sl, na, nc, nl, pa, pc, pl, lf, gn, mn⟩) n).2 : Int)), rfl, hK, by simp only [stepD, hk8]; exact haw3, by simp only [stepW, hk8]; exact hwv3, by simp only [SameB, hk8, decide_eq_true_eq]; omega, (ok.n2.k1).f1.e2, fun j hj => (upw3.new j hj).imp id (fun h9 => Nat.le_trans hsz00 h9), fun j hj => hj.imp id (fun h9 => Nat.le_trans hszv3 h9.1)⟩⟩
  refine .seq <| .r <| .w 123 .eql <| .w 122 .asB <| .nil ?_
  refine .cd (fun C5 => ?_) (fun C5 => ?_)
  · --
    have hk8 : k % 8 = 5 := by omega
    have hsz00 := ok.chg.size
    refine .seq <| .r <| .w 124 .mvP <| .w 125 (.fa T.fd73_1) <| .w 126 (.ldx T.ag9 ok.m1) <| .c' 127 .func (sync_any (d := d) (r := r) (E := E) (n := n) (ok.n3).loc1 hk (by omega)) ?_
    rintro _ η24 ⟨rw4, Ew4, rfl, haw4, upw4⟩
    have ok := (ok.n3).dsk (d := d) (r := r) upw4
    have hkw4 : DkOk rw4.abs := by rw [haw4]; exact (hk).sync
    have hcw4 : rw4.chg ≤ r.chg + 1 := Int.le_trans (Int.le_of_eq (congrArg Dk.chg haw4)) sync_chg
    refine .w 8 .asI <| .nil ?_
    refine .r <| .w 129 (.ldb T.ag69 ok.m3 T.sz69) <| .w 130 (.fa T.fd73_1) <| .w 131 (.ldx T.ag9 ok.m2) <| .c' 132 .func (dsync_any (E := EW) (sa := sa) (sc := sc) (sl := sl) (na := na) (nc := nc) (nl := nl) (pa := pa) (pc := pc) (pl := pl) (lf := lf) (gn := gn) (mn := mn) (n := n) (ok.r1) hs hl) ?_
    rintro _ η25 ⟨wv4, rfl, hwv4, hrv4⟩
    have hszv4 := ok.chg.size
    have ok := ok.grow hrv4.ext (r := docI EW ⟨sa, sc, sl, na, nc, nl, pa, pc, pl, lf, gn, mn⟩) (by simp) (docI (fun j => EW j ∨ Nw η24 η25 j) wv4) hrv4.rd (fun j hj => hj)
    refine .w 128 .mvU <| .w 133 .ex <| .w 134 .ex <| .ur' (.stW (vs := [.slice wv4.sa wv4.sl.length wv4.sc, .slice wv4.na wv4.nl.length wv4.nc, .slice wv4.pa wv4.pl.length wv4.pc, .int .i64 wv4.left, .bool wv4.gone, .int .i64 wv4.many]) T.sz69 ok.n3 (oneL rfl)) ?_
    rintro η26 ⟨ok, cg⟩
    refine .w 9 .asI <| .nil ?_
    refine .end <| hK0 _ _ <| .seq <| .r <| .w 155 (.ldb T.ag69 ok.m0 T.sz69) <| .w 156 .mvB <| .w 157 .mvB <| .w 158 .mvI <| .w 159 .mvI <| .w 160 .eql <| .w 161 .pkt <| .ur' (.stW (vs := [.slice wv4.sa wv4.sl.length wv4.sc, .slice wv4.na wv4.nl.length wv4.nc, .slice wv4.pa wv4.pl.length wv4.pc, .int .i64 wv4.left, .bool wv4.gone, .int .i64 wv4.many]) T.sz69 ok.n2 (oneL rfl)) ?_
    rintro η27 ⟨ok, cg⟩
    refine .w 7 .asB <| .nil ?_
    refine .ret ⟨.tuple #[.agg #[.slice wv4.sa wv4.sl.length wv4.sc, .slice wv4.na wv4.nl.length wv4.nc, .slice wv4.pa wv4.pl.length wv4.pc, .int .i64 wv4.left, .bool wv4.gone, .int .i64 wv4.many], .bool (decide (((syncN r.abs n).2 : Int) = ((syncW (RW.abs ⟨sa, sc, sl, na, nc, nl, pa, pc, pl, lf, gn, mn⟩) n).2 : Int)))], Res.many (vs := [.agg #[.slice wv4.sa wv4.sl.length wv4.sc, .slice wv4.na wv4.nl.length wv4.nc, .slice wv4.pa wv4.pl.length wv4.pc, .int .i64 wv4.left, .bool wv4.gone, .int .i64 wv4.many], .bool (decide (((syncN r.abs n).2 : Int) = ((syncW (RW.abs ⟨sa, sc, sl, na, nc, nl, pa, pc, pl, lf, gn, mn⟩) n).2 : Int)))]) rfl ⟨⟨_, rfl, load_ag T.ag69 ok.m0 T.sz69⟩, rfl, trivial⟩ rfl, ⟨S, rw4, Ew4, wv4, (fun j => EW j ∨ Nw η24 η25 j), decide (((syncN r.abs n).2 : Int) = ((syncW (RW.abs ⟨sa, sc, sl, na, nc, nl, pa, pc, pl, lf, gn, mn⟩) n).2 : Int)), rfl, hK, by simp only [stepD, hk8]; exact haw4, by simp only [stepW, hk8]; exact hwv4, by simp only [SameB, hk8, decide_eq_true_eq]; omega, (ok.n2.k1).f1.e2, fun j hj => (upw4.new j hj).imp id (fun h9 => Nat.le_trans hsz00 h9), fun j hj => hj.imp id (fun h9 => Nat.le_trans hszv4 h9.1)⟩⟩
  refine .seq <| .r <| .w 136 .eql <| .w 135 .asB <| .nil ?_
  refine .cd (fun C6 => ?_) (fun C6 => ?_)
  · --
    have hk8 : k % 8 = 6 := by omega
    have hsz00 := ok.chg.size
    refine .seq <| .r <| .w 137 .mvP <| .w 138 (.fa T.fd73_3) <| .w 139 (.ldx T.ag3 ok.m1) <| .c' 140 .func (cut_any (d := d) (r := r) (z := z) (ok.n3).loc0) ?_
    rintro _ η28 ⟨rfl, q⟩
    have ok := (ok.n3).lift1 q
    obtain ⟨rcu1, hrcu1⟩ : ∃ rcu1, cutR r z = rcu1 := ⟨_, rfl⟩
    have hacu1 : rcu1.abs = cutN r.abs z := by rw [← hrcu1]; exact cutR_abs
    have hfcu1 : rcu1.fs = r.fs := by rw [← hrcu1]; exact cutR_fs
    rw [hrcu1, ← hfcu1] at ok
    have hkcu1 : DkOk rcu1.abs := by rw [hacu1]; exact (hk).cut (by omega)
    have hccu1 : rcu1.chg = r.chg := by rw [← hrcu1]; unfold cutR; split <;> rfl
    refine .nil ?_
    refine .r <| .w 141 (.ldb T.ag69 ok.m3 T.sz69) <| .w 142 (.fa T.fd73_3) <| .w 143 (.ldx T.ag3 ok.m2) <| .c' 144 .func (dcut_any (sa := sa) (sc := sc) (sl := sl) (na := na) (nc := nc) (nl := nl) (pa := pa) (pc := pc) (pl := pl) (lf := lf) (gn := gn) (mn := mn) (z := z)) ?_
    rintro _ η29 ⟨rfl, hx⟩
    have ok := ok.ext hx
    refine .ur' (.stW (vs := [.slice sa sl.length sc, .slice na nl.length nc, .slice pa pl.length pc, .int .i64 (if gn = true then lf else max z (-1)), .bool gn, .int .i64 mn]) T.sz69 ok.n3 (oneL rfl)) ?_
    rintro η30 ⟨ok, cg⟩
    refine .nil ?_
    refine .end <| hK0 _ _ <| .seq <| .r <| .w 155 (.ldb T.ag69 ok.m0 T.sz69) <| .w 156 .mvB <| .w 157 .mvB <| .w 158 .mvI <| .w 159 .mvI <| .w 160 .eql <| .w 161 .pkt <| .ur' (.stW (vs := [.slice sa sl.length sc, .slice na nl.length nc, .slice pa pl.length pc, .int .i64 (if gn = true then lf else max z (-1)), .bool gn, .int .i64 mn]) T.sz69 ok.n2 (oneL rfl)) ?_
    rintro η31 ⟨ok, cg⟩
    refine .w 7 .asB <| .nil ?_
    have ok := ok.d1 (docI EW ⟨sa, sc, sl, na, nc, nl, pa, pc, pl, if gn = true then lf else max z (-1), gn, mn⟩) ⟨(ok.r1).s, (ok.r1).n, (ok.r1).p⟩ (fun _ h => h)
    refine .ret ⟨.tuple #[.agg #[.slice sa sl.length sc, .slice na nl.length nc, .slice pa pl.length pc, .int .i64 (if gn = true then lf else max z (-1)), .bool gn, .int .i64 mn], .bool true], Res.many (vs := [.agg #[.slice sa sl.length sc, .slice na nl.length nc, .slice pa pl.length pc, .int .i64 (if gn = true then lf else max z (-1)), .bool gn, .int .i64 mn], .bool true]) rfl ⟨⟨_, rfl, load_ag T.ag69 ok.m0 T.sz69⟩, rfl, trivial⟩ rfl, ⟨S, rcu1, E, ⟨sa, sc, sl, na, nc, nl, pa, pc, pl, if gn = true then lf else max z (-1), gn, mn⟩, EW, true, rfl, hK, by simp only [stepD, hk8]; exact hacu1, by simp only [stepW, hk8]; rw [cutW_eq]; rfl, by simp only [SameB, hk8], (ok.n2.k1).f1.e2, fun j hj => .inl hj, fun j hj => .inl hj⟩⟩
  refine .seq <| .r <| .w 146 .eql <| .w 145 .asB <| .nil ?_
  refine .cd (fun C7 => ?_) (fun C7 => ?_)
  · --
    have hk8 : k % 8 = 7 := by omega
    have hsz00 := ok.chg.size
    refine .seq <| .r <| .w 147 .mvP <| .w 148 (.fa T.fd73_4) <| .w 149 (.ldx T.ag22 ok.m1) <| .c' 150 .func (crash_any (d := d) (r := r) (E := E) (a := ba) (c := bc) (l := bl) (ok.n3.f2.f1).loc2 hk (by omega)) ?_
    rintro _ η32 ⟨Scr1, rcr1, Ecr1, rfl, hKcr1, hacr1, upcr1⟩
    have ok := (ok.n3.f2.f1).dsk (d := d) (r := r) upcr1
    have hkcr1 : DkOk rcr1.abs := by rw [hacr1]; exact (hk).crash
    have hccr1 : rcr1.chg = r.chg := congrArg Dk.chg hacr1
    refine .nil ?_
    refine .r <| .w 151 (.ldb T.ag69 ok.m3 T.sz69) <| .w 152 (.fa T.fd73_4) <| .w 153 (.ldx T.ag22 ok.m2) <| .c' 154 .func (dcrash_any (E := EW) (sa := sa) (sc := sc) (sl := sl) (na := na) (nc := nc) (nl := nl) (pa := pa) (pc := pc) (pl := pl) (lf := lf) (gn := gn) (mn := mn)  (a := ba) (c := bc) (l := bl) (ok.r2) hs ok.r1) ?_
    rintro _ η33 ⟨wv5, rfl, hwv5, hrv5⟩
    have hszv5 := ok.chg.size
    have ok := ok.grow hrv5.ext (r := docI EW ⟨sa, sc, sl, na, nc, nl, pa, pc, pl, lf, gn, mn⟩) (by simp) (docI (fun j => EW j ∨ Nw η32 η33 j) wv5) hrv5.rd (fun j hj => hj)
    refine .ur' (.stW (vs := [.slice wv5.sa wv5.sl.length wv5.sc, .slice wv5.na wv5.nl.length wv5.nc, .slice wv5.pa wv5.pl.length wv5.pc, .int .i64 wv5.left, .bool wv5.gone, .int .i64 wv5.many]) T.sz69 ok.n3 (oneL rfl)) ?_
    rintro η34 ⟨ok, cg⟩
    refine .nil ?_
    refine .end <| hK0 _ _ <| .seq <| .r <| .w 155 (.ldb T.ag69 ok.m0 T.sz69) <| .w 156 .mvB <| .w 157 .mvB <| .w 158 .mvI <| .w 159 .mvI <| .w 160 .eql <| .w 161 .pkt <| .ur' (.stW (vs := [.slice wv5.sa wv5.sl.length wv5.sc, .slice wv5.na wv5.nl.length wv5.nc, .slice wv5.pa wv5.pl.length wv5.pc, .int .i64 wv5.left, .bool wv5.gone, .int .i64 wv5.many]) T.sz69 ok.n2 (oneL rfl)) ?_
    rintro η35 ⟨ok, cg⟩
    refine .w 7 .asB <| .nil ?_
    refine .ret ⟨.tuple #[.agg #[.slice wv5.sa wv5.sl.length wv5.sc, .slice wv5.na wv5.nl.length wv5.nc, .slice wv5.pa wv5.pl.length wv5.pc, .int .i64 wv5.left, .bool wv5.gone, .int .i64 wv5.many], .bool true], Res.many (vs := [.agg #[.slice wv5.sa wv5.sl.length wv5.sc, .slice wv5.na wv5.nl.length wv5.nc, .slice wv5.pa wv5.pl.length wv5.pc, .int .i64 wv5.left, .bool wv5.gone, .int .i64 wv5.many], .bool true]) rfl ⟨⟨_, rfl, load_ag T.ag69 ok.m0 T.sz69⟩, rfl, trivial⟩ rfl, ⟨Scr1, rcr1, Ecr1, wv5, (fun j => EW j ∨ Nw η32 η33 j), true, rfl, hKcr1, by simp only [stepD, hk8]; exact hacr1, by simp only [stepW, hk8]; exact hwv5, by simp only [SameB, hk8], (ok.n2.k1).f1.e2, fun j hj => (upcr1.new j hj).imp id (fun h9 => Nat.le_trans hsz00 h9), fun j hj => hj.imp id (fun h9 => Nat.le_trans hszv5 h9.1)⟩⟩
  omega

end Go.Proofs.Ytpebbkhainpfaaa

namespace Go.HL
open Go
theorem Hp.loc3 {h0 h : Heap} {D : Nat → Prop} {M R : List Itm} {a b c d : Itm} (ok : Hp h0 D (a :: M) (b :: c :: d :: R) h) : Hp h a.F [a] [b, c, d] h :=
  ⟨Chg.refl _ _, fun i hi => by
    rw [List.mem_singleton.1 hi]
    exact ⟨ok.m0, fun j hj => ⟨((ok.m a List.mem_cons_self).2 j hj).1, .inl hj⟩⟩, fun i hi => ok.r i (by simp at hi ⊢; rcases hi with h | h | h <;> simp [h]), List.pairwise_singleton _ _, fun x hx y hy => by
    rw [List.mem_singleton.1 hx]
    exact ok.mr a List.mem_cons_self y (by simp at hy ⊢; rcases hy with h | h | h <;> simp [h])⟩
end Go.HL
namespace Go.Proofs.Ytpebbkhainpfaaa
open Go Go.HL
@[reducible] def opwI (E : Nat → Prop) (x : SV) (l : List ROp) : Itm := rwI 5 ROp.cells ROp.sb E x l
def smallO (x : ROp) : Bool := decide (¬ (5000 < x.y ∧ x.y ≤ 16777216) ∧ x.bl.length ≤ 3000)
def smallB (l : List ROp) : Bool := decide (l.length ≤ 60) && l.all smallO
theorem smallB_iff {l : List ROp} : smallB l = true ↔ l.length ≤ 60 ∧ ∀ j (hj : j < l.length), smallO l[j] = true := by
  unfold smallB
  rw [Bool.and_eq_true, decide_eq_true_eq, List.all_eq_true]
  exact and_congr Iff.rfl ⟨fun h j hj => h _ (List.getElem_mem hj), fun h x hx => by obtain ⟨j, hj, rfl⟩ := List.mem_iff_getElem.1 hx; exact h j hj⟩
theorem smallB_no {l : List ROp} {j : Nat} (hj : j < l.length) (h : ¬ (¬ (5000 < l[j].y ∧ l[j].y ≤ 16777216) ∧ l[j].bl.length ≤ 3000)) : smallB l = false := by
  cases hs : smallB l with
  | false => rfl
  | true => exact absurd (of_decide_eq_true ((smallB_iff.1 hs).2 j hj)) h
def OpsOk (l : List ROp) : Prop := ∀ x ∈ l, x.k < 256 ∧ (-9223372036854775808 ≤ x.y ∧ x.y ≤ 9223372036854775807) ∧ (-9223372036854775808 ≤ x.z ∧ x.z ≤ 9223372036854775807)
@[reducible] def newRW : RW := ⟨none, 0, [], none, 0, [], none, 0, [], -1, false, 0⟩
theorem newRW_doc {h : Heap} : DocW h none_ newRW := ⟨RwB.nil _ _ 0 (by decide), RwB.nil _ _ 0 (by decide), RwB.nil _ _ 0 (by decide)⟩
theorem newW_ws : WS (RW.abs newRW) := ⟨by simp [RW.abs], by simp [RW.abs], by simp [RW.abs], by simp [RW.abs], by simp [RW.abs], by simp [RW.abs], by simp [RW.abs]⟩
theorem stepD_ok {d : Dk} {S : List (List UInt8)} {x : POp} (k : DkOk d) (hz : x.z ≤ 9223372036854775807) : DkOk (stepD d S x) := by
  unfold stepD; split
  · exact k.write
  · exact k.trunc
  · exact k.remove
  · exact k.sync
  · exact k.cut hz
  · exact k.crash
  · exact k
theorem stepD_chg {d : Dk} {S : List (List UInt8)} {x : POp} : (stepD d S x).chg ≤ d.chg + 1 := by
  unfold stepD; split
  · exact write_chg
  · exact trunc_chg
  · exact remove_chg
  · exact sync_chg
  · unfold cutN; split <;> first | omega | (simp only; omega)
  · simp only [crashN]; omega
  · omega
/-- So many changes are done yet, or the power is gone. -/
structure CutInv (m : Int) (d : Dk) : Prop where
  left : 0 ≤ d.left
  sum : d.chg + d.left = m
  dark : d.dark = true → d.left = 0
theorem CutInv.power {m : Int} {d : Dk} (v : CutInv m d) : CutInv m (powerN d).1 := by
  have h1 := v.left; have h2 := v.sum; have h3 := v.dark
  unfold powerN; split
  · exact ⟨h1, h2, fun _ => by assumption⟩
  · exact ⟨by simp only; split <;> omega, by simp only; split <;> omega, fun h => absurd (h3 h) (by assumption)⟩
theorem CutInv.do {m : Int} {d : Dk} {n : List UInt8} {c : Chn} (v : CutInv m d) : CutInv m (doN d n c).1 := by
  have h1 := v.left; have h2 := v.sum; have h3 := v.dark
  unfold doN; split
  · exact v.power
  · exact ⟨by simp only; split <;> omega, by simp only; split <;> omega, fun h => absurd (h3 h) (by assumption)⟩
theorem CutInv.step {m : Int} {d : Dk} {S : List (List UInt8)} {x : POp} (v : CutInv m d) (hk : x.k % 8 < 6) : CutInv m (stepD d S x) := by
  have h1 := v.left; have h2 := v.sum; have h3 := v.dark
  unfold stepD; split
  · unfold writeN; repeat' split
    · exact v
    · exact v
    · exact v.do
  · unfold truncN; repeat' split
    · exact v
    · exact v
    · exact v
    · exact v.do
  · unfold removeN; repeat' split
    · exact v
    · exact v
    · exact v.do
  · unfold syncN; repeat' split
    · exact v
    · exact v
    · exact v
    · exact v.power
    · exact ⟨by simp only; omega, by simp only; omega, fun h => absurd (h3 h) (by assumption)⟩
    · exact ⟨by simp only; omega, by simp only; omega, fun h => absurd (h3 h) (by assumption)⟩
  · omega
  · omega
  · exact v
theorem cut_first {m : Int} (hm : 0 ≤ m) : CutInv m (cutN newN m) := by
  unfold cutN newN; rw [if_neg (by decide)]; exact ⟨by simp only; omega, by simp only; omega, fun h => by cases h⟩
theorem dark_read {d : Dk} {y z : Int} (h : d.dark = true) (hy : 0 ≤ y) (hz : 0 ≤ z) : readN d [102] y z = ([], 13) := by
  have hw : wrongN d [102] [y, z] = 13 := by
    unfold wrongN; rw [if_neg, if_pos h]
    rintro (h1 | h1 | ⟨q, hq, h1⟩)
    · simp at h1
    · simp at h1
    · simp at hq; rcases hq with rfl | rfl <;> omega
  unfold readN; rw [hw]; rfl
theorem crash_write {d : Dk} {S : List (List UInt8)} {ks : List UInt8} : (writeN (crashN d S ks) [102] 0 []).2 = 0 := by
  have hw : wrongN (crashN d S ks) [102] [0] = 0 := by
    unfold wrongN; rw [if_neg (by simp), if_neg (by simp [crashN])]
  unfold writeN; rw [hw, if_neg (by decide), if_neg (by simp)]
  unfold doN; rw [if_neg (by simp [crashN])]

set_option maxRecDepth 100000 in
set_option maxHeartbeats 2000000 in
theorem small_any {h : Heap} {E : Nat → Prop} {a : Option Addr} {c : Nat} {l : List ROp} (hl : RwB 5 ROp.cells ROp.sb h E (a, l.length, c) l) : HC Try.prog 35 #[.slice a l.length c] h (fun v h' => v = .bool (smallB l) ∧ h' = h) := by
  have hc2 := hl.m
  refine HC.go Try.func35 36 ?_
  refine .seq <| .r <| .w 2 .asB <| .nil ?_
  refine .seq <| .seq <| .r <| .w 4 .mvS <| .w 5 (.len T.el65) <| .w 6 .gtr <| .nil ?_
  refine .cd (fun C0 => ?_) (fun C0 => ?_)
  · --
    refine .seq <| .r <| .w 2 .asB <| .nil ?_
    refine .ret ⟨.bool false, Res.one rfl rfl, ⟨by unfold smallB; rw [decide_eq_false (by omega)]; rfl, rfl⟩⟩
  refine .skip <| .seq <| .seq <| .r <| .w 3 .asI <| .nil ?_
  refine .block fun K0 hK0 => .loop (fun m s hh => ∃ (i : Nat), Has s [(0, .slice a l.length c), (3, .int .i64 (i : Int))] ∧ h = hh ∧ i ≤ l.length ∧ (∀ j (hj : j < l.length), j < i → smallO l[j] = true) ∧ m = l.length - i) ?_ ?_
  · exact ⟨_, 0, ⟨rfl, rfl, trivial⟩, rfl, Nat.zero_le _, fun _ _ h => absurd h (Nat.not_lt_zero _), rfl⟩
  rintro _ _ _ ⟨i, hs, rfl, hi, hall, rfl⟩ J0 hJ0
  refine .frame hs fun τ => ?_
  refine .seq <| .seq <| .r <| .w 7 .mvI <| .w 8 .mvS <| .w 9 (.len T.el65) <| .w 10 .lss <| .nil ?_
  refine .cdr (fun C1 => ?_) (fun C1 => ?_)
  · --
    refine .exit <| hK0 _ _ <| .seq <| .r <| .w 2 .asB <| .nil ?_
    refine .ret ⟨.bool true, Res.one rfl rfl, ⟨by rw [smallB_iff.2 ⟨by omega, fun j hj => hall j hj (by omega)⟩], rfl⟩⟩
  have hil : i < l.length := by omega
  refine .skip <| .seq <| .block fun K1 hK1 => .seq <| .r <| .w 13 .mvS <| .w 14 .mvI <| ?_
  obtain ⟨bb1, oo1, rfl, fb1⟩ := hl.pos (by omega)
  refine .w 15 (.ix i T.el65 T.sz73) <| .w 16 (.fa T.fd73_2) <| .w 17 (.ld T.ag3 (sl_at ROp.cells_len (hl).sl (i := i) (j := 2) (by omega) rfl)) <| .w 18 .gtr <| .w 19 .mvB <| .sd (fun G19 => ?_) (fun G19 => ?_)
  ·
    refine .w 20 .mvS <| .w 21 .mvI <| .w 22 (.ix i T.el65 T.sz73) <| .w 23 (.fa T.fd73_2) <| .w 24 (.ld T.ag3 (sl_at ROp.cells_len (hl).sl (i := i) (j := 2) (by omega) rfl)) <| .w 25 .leq <| .w 26 .pkt <| .w 27 .mvB <| .sd (fun G27 => ?_) (fun G27 => ?_)
    ·
      refine .x 28 <| .x 29 <| .x 30 <| .x 31 <| .x 32 <| .x 33 <| .x 34 <| .w 35 .pkt <| .nil ?_
      refine .ct <| .seq <| .r <| .w 2 .asB <| .nil ?_
      refine .ret ⟨.bool false, Res.one rfl rfl, ⟨by rw [smallB_no (j := i) hil (by omega)], rfl⟩⟩
    refine .w 28 .mvS <| .w 29 .mvI <| .w 30 (.ix i T.el65 T.sz73) <| .w 31 (.fa T.fd73_4) <| .w 32 (.ld T.ag22 (sl_at ROp.cells_len (hl).sl (i := i) (j := 4) (by omega) rfl)) <| .w 33 (.len T.el22) <| .w 34 .gtr <| .w 35 .pkf <| .nil ?_
    refine .cd (fun C2 => ?_) (fun C2 => ?_)
    · --
      refine .seq <| .r <| .w 2 .asB <| .nil ?_
      refine .ret ⟨.bool false, Res.one rfl rfl, ⟨by rw [smallB_no (j := i) hil (by omega)], rfl⟩⟩
    refine .skip <| .end <| hK1 _ _ <| .r <| .w 11 .mvI <| .w 12 (.addI (b := 1)) <| .w 3 .asI <| .nil ?_
    refine .end <| hJ0 _ _ _ ⟨i + 1, ⟨rfl, rfl, trivial⟩, rfl, by omega, fun j hj h => (Nat.lt_succ_iff_lt_or_eq.1 h).elim (hall j hj) (fun e => by subst e; exact decide_eq_true (by omega)), rfl⟩ (by omega)
  refine .x 20 <| .x 21 <| .x 22 <| .x 23 <| .x 24 <| .x 25 <| .w 26 .pkf <| .w 27 .mvB <| .w 28 .mvS <| .w 29 .mvI <| .w 30 (.ix i T.el65 T.sz73) <| .w 31 (.fa T.fd73_4) <| .w 32 (.ld T.ag22 (sl_at ROp.cells_len (hl).sl (i := i) (j := 4) (by omega) rfl)) <| .w 33 (.len T.el22) <| .w 34 .gtr <| .w 35 .pkf <| .nil ?_
  refine .cd (fun C2 => ?_) (fun C2 => ?_)
  · --
    refine .seq <| .r <| .w 2 .asB <| .nil ?_
    refine .ret ⟨.bool false, Res.one rfl rfl, ⟨by rw [smallB_no (j := i) hil (by omega)], rfl⟩⟩
  refine .skip <| .end <| hK1 _ _ <| .r <| .w 11 .mvI <| .w 12 (.addI (b := 1)) <| .w 3 .asI <| .nil ?_
  refine .end <| hJ0 _ _ _ ⟨i + 1, ⟨rfl, rfl, trivial⟩, rfl, by omega, fun j hj h => (Nat.lt_succ_iff_lt_or_eq.1 h).elim (hall j hj) (fun e => by subst e; exact decide_eq_true (by omega)), rfl⟩ (by omega)

set_option maxRecDepth 100000 in
set_option maxHeartbeats 2000000 in
theorem cuts_walk {h : Heap} {EO : Nat → Prop} {a : Option Addr} {c : Nat} {l : List ROp} {u : Nat} (hl : RwB 5 ROp.cells ROp.sb h EO (a, l.length, c) l) (hop : OpsOk l) (hm : u < 256) : HC Try.prog 12 #[.slice a l.length c, .int .u8 (u : Int)] h (fun v h' => v = .bool true ∧ Ext h h') := by
  have hc2 := hl.m
  have ok := (Hp.nil h none_).old (opwI (fun j => EO j ∧ j < h.size) (a, l.length, c) l) (hl.lt (by decide)) (fun j hj => hj.2)
  refine HC.go Try.func12 103 ?_
  refine .seq <| .r <| .w 4 .asB <| .nil ?_
  refine .seq <| .r <| .c' 10 .func new_any ?_
  rintro _ η1 ⟨dnd1, rnd1, rfl, hand1, q⟩
  have ok := ok.addE q (fun _ f => f.elim)
  have hknd1 : DkOk rnd1.abs := by rw [hand1]; exact newN_ok
  have hcnd1 : rnd1.chg = 0 := congrArg Dk.chg hand1
  refine .w 5 .asP <| .nil ?_
  refine .seq <| .seq <| .r <| .w 11 .mvP <| .w 12 (.pEqS T.pt57) <| .w 13 .mvB <| .w 14 .mvS <| .k 15 .func (small_any (a := a) (c := c) (l := l) ok.r1) <| .w 16 .not <| .w 17 .pkf <| .nil ?_
  refine .cond (fun C0 => ?_) (fun C0 => ?_)
  · --
    refine .seq <| .r <| .c' 18 .func live_any ?_
    rintro _ η2 ⟨rfl, hx⟩
    have ok := ok.ext hx
    refine .w 19 .mvB <| .w 20 .mvP <| .w 21 (.pNeS T.pt57) <| .w 22 .pkt <| .w 4 .asB <| .nil ?_
    refine .ret ⟨.bool true, Res.one rfl rfl, ⟨rfl, ok.chg⟩⟩
  have hsm := smallB_iff.1 (by simpa using C0)
  refine .skip <| .seq <| .r <| .w 23 .mvP <| .w 24 .mvI <| .w 25 (.remn (b := 16)) <| .w 26 (.cvi T.in3 T.in5) <| .c' 27 .func (cut_any (d := dnd1) (r := rnd1) (z := (((u % 16) : Nat) : Int)) (ok).loc0) ?_
  rintro _ η3 ⟨rfl, q⟩
  have ok := (ok).lift1 q
  obtain ⟨rcu1, hrcu1⟩ : ∃ rcu1, cutR rnd1 (((u % 16) : Nat) : Int) = rcu1 := ⟨_, rfl⟩
  have hacu1 : rcu1.abs = cutN rnd1.abs (((u % 16) : Nat) : Int) := by rw [← hrcu1]; exact cutR_abs
  have hfcu1 : rcu1.fs = rnd1.fs := by rw [← hrcu1]; exact cutR_fs
  rw [hrcu1, ← hfcu1] at ok
  have hkcu1 : DkOk rcu1.abs := by rw [hacu1]; exact (hknd1).cut (by omega)
  have hccu1 : rcu1.chg = rnd1.chg := by rw [← hrcu1]; unfold cutR; split <;> rfl
  have hci0 : CutInv ((u % 16 : Nat) : Int) (cutN newN ((u % 16 : Nat) : Int)) := cut_first (by omega)
  refine .nil ?_
  refine .seq <| .seq <| .r <| .w 6 .asI <| .nil ?_
  refine .block fun K0 hK0 => .loop (fun m s hh => ∃ (i : Nat) (r : RD) (E : Nat → Prop), Has s [(0, .slice a l.length c), (1, .int .u8 (u : Int)), (5, .pointer (some ⟨dnd1, 0, none⟩)), (6, .int .i64 (i : Int))] ∧ Hp h none_ [dskI dnd1 r] [bysI E r.fs, opwI (fun j => EO j ∧ j < h.size) (a, l.length, c) l] hh ∧ i ≤ l.length ∧ DkOk r.abs ∧ r.chg ≤ i ∧ CutInv ((u % 16 : Nat) : Int) r.abs ∧ m = l.length - i) ?_ ?_
  · exact ⟨_, 0, rcu1, none_, ⟨rfl, rfl, rfl, rfl, trivial⟩, (ok).k1.f1.f1, Nat.zero_le _, hkcu1, by omega, by rw [hacu1, hand1]; exact hci0, rfl⟩
  rintro _ _ η4 ⟨i, r, E, hs, ok, hi, hk, hch, hci, rfl⟩ J0 hJ0
  refine .frame hs fun τ => ?_
  refine .seq <| .seq <| .r <| .w 28 .mvI <| .w 29 .mvS <| .w 30 (.len T.el65) <| .w 31 .lss <| .nil ?_
  refine .cdr (fun C1 => ?_) (fun C1 => ?_)
  · --
    refine .exit <| hK0 _ _ <| .seq <| .seq <| ?_
    have hcl := hci.left
    have hcs : r.chg + r.left = ((u % 16 : Nat) : Int) := hci.sum
    have hcd := hci.dark
    have hcl2 : 0 ≤ r.left := hcl
    have hcg0 : 0 ≤ r.chg := hk.chg
    refine .r <| .w 57 .mvP <| .k 58 .func (changes_any (d := dnd1) (r := r) (dsk_parts (ok.m0)).1) <| .w 59 .mvI <| .w 60 (.remn (b := 16)) <| .w 61 (.cvi T.in3 T.in5) <| .w 62 .gtr <| .w 63 .mvB <| .sd (fun G63 => ?_) (fun G63 => ?_)
    ·
      omega
    refine .w 64 .mvP <| .k 65 .func (dark_any (d := dnd1) (r := r) (dsk_parts (ok.m0)).1) <| .w 66 .mvB <| .spl (fun G66 => ?_) (fun G66 => ?_)
    ·
      refine .w 67 .mvP <| .k 68 .func (changes_any (d := dnd1) (r := r) (dsk_parts (ok.m0)).1) <| .w 69 .mvI <| .w 70 (.remn (b := 16)) <| .w 71 (.cvi T.in3 T.in5) <| .w 72 .neq <| .w 73 .pkt <| .w 74 .pkf <| .nil ?_
      refine .cd (fun C3 => ?_) (fun C3 => ?_)
      · --
        first | omega | (have h8 := hcd (by assumption); have h9 : r.left = 0 := h8; omega)
      refine .skip <| .seq <| .seq <| .r <| .w 75 .mvP <| .k 76 .func (dark_any (d := dnd1) (r := r) (dsk_parts (ok.m0)).1) <| .nil ?_
      refine .cond (fun C4 => ?_) (fun C4 => ?_)
      · --
        refine .seq <| .r <| .w 78 .mvP <| .c' 79 .func (read_anyD (d := dnd1) (r := r) (E := E) (n := ([102] : List UInt8)) (y := 0) (z := 1) ((ok).rdo) hk ⟨by omega, by omega⟩ ⟨by omega, by omega⟩) ?_
        rintro _ η5 ⟨w, rfl, own⟩
        obtain ⟨ya1, yc1, rfl⟩ := own.formB
        have ok := ok.own own
        refine .w 77 .mvU <| .w 80 .ex <| .w 81 .ex <| .w 8 .asS <| .w 9 .asI <| .nil ?_
        refine .seq <| .r <| .w 82 .mvI <| .w 83 .neq <| .w 84 .mvB <| .sd (fun G84 => ?_) (fun G84 => ?_)
        ·
          exact absurd (by rw [dark_read (d := r.abs) C4 (by decide) (by decide)]; rfl) G84
        refine .w 85 .mvP <| .c' 86 .func (files_any (d := dnd1) (r := r) (E := E) ((ok.n1).rdo) hk (by omega)) ?_
        rintro _ η6 ⟨S1, hKS1, own⟩
        obtain ⟨ya2, nS1, yc2, rfl⟩ := own.form3
        have ok := ok.own own
        obtain rfl : nS1 = (filesN r.abs S1).length := Cap.lenN ok.m0
        refine .w 87 (.len T.el82) <| .w 88 .gtr <| .w 89 .pkf <| .nil ?_
        refine .cd (fun C5 => ?_) (fun C5 => ?_)
        · --
          have h9 : filesN r.abs S1 = [] := if_pos C4
          rw [h9] at C5; simp at C5
        refine .skip <| .seq <| .r <| .w 90 .mvP <| ?_
        have ok := ok.dE (rdI none_ none_ (none, 0, 0) ([] : List UInt8)) (RdL.nil _ none_ none_) (fun _ f => f.elim id id)
        refine .c' 91 .func (crash_any (d := dnd1) (r := r) (E := E) (a := none) (c := 0) (l := ([] : List UInt8)) (ok.n2.f1).loc2 hk (by omega)) ?_
        rintro _ η7 ⟨Scr1, rcr1, Ecr1, rfl, hKcr1, hacr1, upcr1⟩
        have ok := (ok.n2.f1).dsk (d := dnd1) (r := r) upcr1
        have hkcr1 : DkOk rcr1.abs := by rw [hacr1]; exact (hk).crash
        have hccr1 : rcr1.chg = r.chg := congrArg Dk.chg hacr1
        refine .nil ?_
        refine .seq <| .r <| .c' 92 .func live_any ?_
        rintro _ η8 ⟨rfl, hx⟩
        have ok := ok.ext hx
        refine .w 93 .mvB <| .w 94 .mvP <| .k 95 .func (dark_any (d := dnd1) (r := rcr1) (dsk_parts (ok.m0)).1) <| .w 96 .not <| .w 97 .pkt <| .w 98 .mvB <| .spl (fun G98 => ?_) (fun G98 => ?_)
        ·
          refine .w 99 .mvP <| ?_
          have ok := ok.dE (rdI none_ none_ (none, 0, 0) ([] : List UInt8)) (RdL.nil _ none_ none_) (fun _ f => f.elim id id)
          refine .c' 100 .func (write_any (d := dnd1) (r := rcr1) (E := Ecr1) (n := ([102] : List UInt8)) (z := 0) (a := none) (c := 0) (l := ([] : List UInt8)) (ok.f1).loc2 hkcr1 (by omega) ⟨by omega, by omega⟩) ?_
          rintro _ η9 ⟨rw1, Ew1, rfl, haw1, upw1⟩
          have ok := (ok.f1).dsk (d := dnd1) (r := rcr1) upw1
          have hkw1 : DkOk rw1.abs := by rw [haw1]; exact (hkcr1).write
          have hcw1 : rw1.chg ≤ rcr1.chg + 1 := Int.le_trans (Int.le_of_eq (congrArg Dk.chg haw1)) write_chg
          refine .w 101 .eql <| .w 102 .pkt <| .w 4 .asB <| .nil ?_
          refine .ret ⟨.bool (decide (((writeN rcr1.abs ([102] : List UInt8) 0 ([] : List UInt8)).2 : Int) = 0)), Res.one rfl rfl, ⟨by rw [show (writeN rcr1.abs [102] 0 []).2 = 0 from by rw [hacr1]; exact crash_write]; rfl, ok.chg⟩⟩
        have h8 : rcr1.dark = false := congrArg Dk.dark hacr1
        rw [h8] at G98; cases G98
      refine .skip <| .seq <| .r <| .w 90 .mvP <| ?_
      have ok := ok.dE (rdI none_ none_ (none, 0, 0) ([] : List UInt8)) (RdL.nil _ none_ none_) (fun _ f => f.elim id id)
      refine .c' 91 .func (crash_any (d := dnd1) (r := r) (E := E) (a := none) (c := 0) (l := ([] : List UInt8)) (ok.f1).loc2 hk (by omega)) ?_
      rintro _ η10 ⟨Scr2, rcr2, Ecr2, rfl, hKcr2, hacr2, upcr2⟩
      have ok := (ok.f1).dsk (d := dnd1) (r := r) upcr2
      have hkcr2 : DkOk rcr2.abs := by rw [hacr2]; exact (hk).crash
      have hccr2 : rcr2.chg = r.chg := congrArg Dk.chg hacr2
      refine .nil ?_
      refine .seq <| .r <| .c' 92 .func live_any ?_
      rintro _ η11 ⟨rfl, hx⟩
      have ok := ok.ext hx
      refine .w 93 .mvB <| .w 94 .mvP <| .k 95 .func (dark_any (d := dnd1) (r := rcr2) (dsk_parts (ok.m0)).1) <| .w 96 .not <| .w 97 .pkt <| .w 98 .mvB <| .spl (fun G98 => ?_) (fun G98 => ?_)
      ·
        refine .w 99 .mvP <| ?_
        have ok := ok.dE (rdI none_ none_ (none, 0, 0) ([] : List UInt8)) (RdL.nil _ none_ none_) (fun _ f => f.elim id id)
        refine .c' 100 .func (write_any (d := dnd1) (r := rcr2) (E := Ecr2) (n := ([102] : List UInt8)) (z := 0) (a := none) (c := 0) (l := ([] : List UInt8)) (ok.f1).loc2 hkcr2 (by omega) ⟨by omega, by omega⟩) ?_
        rintro _ η12 ⟨rw2, Ew2, rfl, haw2, upw2⟩
        have ok := (ok.f1).dsk (d := dnd1) (r := rcr2) upw2
        have hkw2 : DkOk rw2.abs := by rw [haw2]; exact (hkcr2).write
        have hcw2 : rw2.chg ≤ rcr2.chg + 1 := Int.le_trans (Int.le_of_eq (congrArg Dk.chg haw2)) write_chg
        refine .w 101 .eql <| .w 102 .pkt <| .w 4 .asB <| .nil ?_
        refine .ret ⟨.bool (decide (((writeN rcr2.abs ([102] : List UInt8) 0 ([] : List UInt8)).2 : Int) = 0)), Res.one rfl rfl, ⟨by rw [show (writeN rcr2.abs [102] 0 []).2 = 0 from by rw [hacr2]; exact crash_write]; rfl, ok.chg⟩⟩
      have h8 : rcr2.dark = false := congrArg Dk.dark hacr2
      rw [h8] at G98; cases G98
    refine .x 67 <| .x 68 <| .x 69 <| .x 70 <| .x 71 <| .x 72 <| .w 73 .pkf <| .w 74 .pkf <| .nil ?_
    refine .cf <| .skip <| .seq <| .seq <| .r <| .w 75 .mvP <| .k 76 .func (dark_any (d := dnd1) (r := r) (dsk_parts (ok.m0)).1) <| .nil ?_
    refine .cond (fun C4 => ?_) (fun C4 => ?_)
    · --
      refine .seq <| .r <| .w 78 .mvP <| .c' 79 .func (read_anyD (d := dnd1) (r := r) (E := E) (n := ([102] : List UInt8)) (y := 0) (z := 1) ((ok).rdo) hk ⟨by omega, by omega⟩ ⟨by omega, by omega⟩) ?_
      rintro _ η13 ⟨w, rfl, own⟩
      obtain ⟨ya3, yc3, rfl⟩ := own.formB
      have ok := ok.own own
      refine .w 77 .mvU <| .w 80 .ex <| .w 81 .ex <| .w 8 .asS <| .w 9 .asI <| .nil ?_
      refine .seq <| .r <| .w 82 .mvI <| .w 83 .neq <| .w 84 .mvB <| .sd (fun G84 => ?_) (fun G84 => ?_)
      ·
        exact absurd (by rw [dark_read (d := r.abs) C4 (by decide) (by decide)]; rfl) G84
      refine .w 85 .mvP <| .c' 86 .func (files_any (d := dnd1) (r := r) (E := E) ((ok.n1).rdo) hk (by omega)) ?_
      rintro _ η14 ⟨S2, hKS2, own⟩
      obtain ⟨ya4, nS2, yc4, rfl⟩ := own.form3
      have ok := ok.own own
      obtain rfl : nS2 = (filesN r.abs S2).length := Cap.lenN ok.m0
      refine .w 87 (.len T.el82) <| .w 88 .gtr <| .w 89 .pkf <| .nil ?_
      refine .cd (fun C5 => ?_) (fun C5 => ?_)
      · --
        have h9 : filesN r.abs S2 = [] := if_pos C4
        rw [h9] at C5; simp at C5
      refine .skip <| .seq <| .r <| .w 90 .mvP <| ?_
      have ok := ok.dE (rdI none_ none_ (none, 0, 0) ([] : List UInt8)) (RdL.nil _ none_ none_) (fun _ f => f.elim id id)
      refine .c' 91 .func (crash_any (d := dnd1) (r := r) (E := E) (a := none) (c := 0) (l := ([] : List UInt8)) (ok.n2.f1).loc2 hk (by omega)) ?_
      rintro _ η15 ⟨Scr3, rcr3, Ecr3, rfl, hKcr3, hacr3, upcr3⟩
      have ok := (ok.n2.f1).dsk (d := dnd1) (r := r) upcr3
      have hkcr3 : DkOk rcr3.abs := by rw [hacr3]; exact (hk).crash
      have hccr3 : rcr3.chg = r.chg := congrArg Dk.chg hacr3
      refine .nil ?_
      refine .seq <| .r <| .c' 92 .func live_any ?_
      rintro _ η16 ⟨rfl, hx⟩
      have ok := ok.ext hx
      refine .w 93 .mvB <| .w 94 .mvP <| .k 95 .func (dark_any (d := dnd1) (r := rcr3) (dsk_parts (ok.m0)).1) <| .w 96 .not <| .w 97 .pkt <| .w 98 .mvB <| .spl (fun G98 => ?_) (fun G98 => ?_)
      ·
        refine .w 99 .mvP <| ?_
        have ok := ok.dE (rdI none_ none_ (none, 0, 0) ([] : List UInt8)) (RdL.nil _ none_ none_) (fun _ f => f.elim id id)
        refine .c' 100 .func (write_any (d := dnd1) (r := rcr3) (E := Ecr3) (n := ([102] : List UInt8)) (z := 0) (a := none) (c := 0) (l := ([] : List UInt8)) (ok.f1).loc2 hkcr3 (by omega) ⟨by omega, by omega⟩) ?_
        rintro _ η17 ⟨rw3, Ew3, rfl, haw3, upw3⟩
        have ok := (ok.f1).dsk (d := dnd1) (r := rcr3) upw3
        have hkw3 : DkOk rw3.abs := by rw [haw3]; exact (hkcr3).write
        have hcw3 : rw3.chg ≤ rcr3.chg + 1 := Int.le_trans (Int.le_of_eq (congrArg Dk.chg haw3)) write_chg
        refine .w 101 .eql <| .w 102 .pkt <| .w 4 .asB <| .nil ?_
        refine .ret ⟨.bool (decide (((writeN rcr3.abs ([102] : List UInt8) 0 ([] : List UInt8)).2 : Int) = 0)), Res.one rfl rfl, ⟨by rw [show (writeN rcr3.abs [102] 0 []).2 = 0 from by rw [hacr3]; exact crash_write]; rfl, ok.chg⟩⟩
      have h8 : rcr3.dark = false := congrArg Dk.dark hacr3
      rw [h8] at G98; cases G98
    refine .skip <| .seq <| .r <| .w 90 .mvP <| ?_
    have ok := ok.dE (rdI none_ none_ (none, 0, 0) ([] : List UInt8)) (RdL.nil _ none_ none_) (fun _ f => f.elim id id)
    refine .c' 91 .func (crash_any (d := dnd1) (r := r) (E := E) (a := none) (c := 0) (l := ([] : List UInt8)) (ok.f1).loc2 hk (by omega)) ?_
    rintro _ η18 ⟨Scr4, rcr4, Ecr4, rfl, hKcr4, hacr4, upcr4⟩
    have ok := (ok.f1).dsk (d := dnd1) (r := r) upcr4
    have hkcr4 : DkOk rcr4.abs := by rw [hacr4]; exact (hk).crash
    have hccr4 : rcr4.chg = r.chg := congrArg Dk.chg hacr4
    refine .nil ?_
    refine .seq <| .r <| .c' 92 .func live_any ?_
    rintro _ η19 ⟨rfl, hx⟩
    have ok := ok.ext hx
    refine .w 93 .mvB <| .w 94 .mvP <| .k 95 .func (dark_any (d := dnd1) (r := rcr4) (dsk_parts (ok.m0)).1) <| .w 96 .not <| .w 97 .pkt <| .w 98 .mvB <| .spl (fun G98 => ?_) (fun G98 => ?_)
    ·
      refine .w 99 .mvP <| ?_
      have ok := ok.dE (rdI none_ none_ (none, 0, 0) ([] : List UInt8)) (RdL.nil _ none_ none_) (fun _ f => f.elim id id)
      refine .c' 100 .func (write_any (d := dnd1) (r := rcr4) (E := Ecr4) (n := ([102] : List UInt8)) (z := 0) (a := none) (c := 0) (l := ([] : List UInt8)) (ok.f1).loc2 hkcr4 (by omega) ⟨by omega, by omega⟩) ?_
      rintro _ η20 ⟨rw4, Ew4, rfl, haw4, upw4⟩
      have ok := (ok.f1).dsk (d := dnd1) (r := rcr4) upw4
      have hkw4 : DkOk rw4.abs := by rw [haw4]; exact (hkcr4).write
      have hcw4 : rw4.chg ≤ rcr4.chg + 1 := Int.le_trans (Int.le_of_eq (congrArg Dk.chg haw4)) write_chg
      refine .w 101 .eql <| .w 102 .pkt <| .w 4 .asB <| .nil ?_
      refine .ret ⟨.bool (decide (((writeN rcr4.abs ([102] : List UInt8) 0 ([] : List UInt8)).2 : Int) = 0)), Res.one rfl rfl, ⟨by rw [show (writeN rcr4.abs [102] 0 []).2 = 0 from by rw [hacr4]; exact crash_write]; rfl, ok.chg⟩⟩
    have h8 : rcr4.dark = false := congrArg Dk.dark hacr4
    rw [h8] at G98; cases G98
  have hil : i < l.length := by omega
  refine .skip <| .seq <| .block fun K1 hK1 => .seq <| .r <| .w 34 .mvS <| .w 35 .mvI <| ?_
  obtain ⟨bb1, oo1, rfl, fb1⟩ := ok.r1.pos (by omega)
  refine .w 36 (.ix i T.el65 T.sz73) <| .w 37 (.fa T.fd73_0) <| .w 38 (.ld T.ag5 (sl_at ROp.cells_len (ok.r1).sl (i := i) (j := 0) (by omega) rfl)) <| .w 39 (.remn (b := 8)) <| .w 7 .asI <| .nil ?_
  refine .seq <| .r <| .w 40 .mvI <| .w 41 .lss <| .w 42 .mvB <| .sd (fun G42 => ?_) (fun G42 => ?_)
  ·
    refine .w 43 .mvS <| .w 44 .mvI <| .w 45 (.ix i T.el65 T.sz73) <| .w 46 (.fa T.fd73_0) <| .w 47 (.ld T.ag5 (sl_at ROp.cells_len (ok.r1).sl (i := i) (j := 0) (by omega) rfl)) <| .w 48 .neq <| .w 49 .pkt <| .nil ?_
    refine .cd (fun C2 => ?_) (fun C2 => ?_)
    · --
      have ok := ok.d1 (rdI (fun j => EO j ∧ j < h.size) (fun j => EO j ∧ j < h.size) (l[i].ba, l[i].bl.length, l[i].bc) l[i].bl) ((ok.r1).by' _ (List.getElem_mem hil)) (fun _ h => h.elim id id)
      refine .a 6 (fun fl hh => cond fl True (Hp h none_ [dskI dnd1 r] [rdI (fun j => EO j ∧ j < h.size) (fun j => EO j ∧ j < h.size) (l[i].ba, l[i].bl.length, l[i].bc) (l[i].bl), bysI E r.fs, opwI (fun j => EO j ∧ j < h.size) (some ⟨bb1, oo1, none⟩, l.length, c) l] hh)) mixed ?_
      have hS := ok
      refine .g 0 false rfl 50 hS (fun _ => .mvP) <| .g 2 false rfl 52 hS (fun _ => .mvS) <| .g 3 false rfl 53 hS (fun _ => .mvI) <| .g 4 false rfl 54 hS (fun _ => .ix i T.el65 T.sz73) <| .l 5 false rfl 55 (v := .agg #[.int .u8 (l[i].k : Int), .string (BA (l[i].n)), .int .i64 (l[i].y), .int .i64 (l[i].z), .slice (l[i].ba) (l[i].bl.length) (l[i].bc)]) hS (fun _ hS => .ldc (vs := ROp.cells l[i]) T.ag73 (sl_ats ROp.cells_len (hS.r2).sl (i := i) (by omega)) T.sz73) <| .o1 1 <| .c' false rfl 51 .func dnew_any ?_
      rintro _ η21 ⟨rfl, hx⟩
      have ok := ok.ext hx
      have ok := ok.dE (docI none_ newRW) newRW_doc (fun _ f => f)
      refine ⟨ok.tR, ?_⟩
      have hS := ok.tR
      refine .o1 6 <| .c' true rfl 56 .func (call_any (d := dnd1) (r := r) (E := E) (FB := fun j => EO j ∧ j < h.size) (EB := fun j => EO j ∧ j < h.size) (EW := none_) (sa := none) (sc := 0) (sl := []) (na := none) (nc := 0) (nl := []) (pa := none) (pc := 0) (pl := []) (lf := (-1)) (gn := false) (mn := 0) (k := l[i].k) (n := l[i].n) (bl := l[i].bl) (y := l[i].y) (z := l[i].z) (ba := l[i].ba) (bc := l[i].bc) (ok.f1.f1.f2).loc3 hk (by omega) newW_ws (by decide) (hop _ (List.getElem_mem hil)).1 (hop _ (List.getElem_mem hil)).2.1 (hop _ (List.getElem_mem hil)).2.2 (keys_ex (dsk_parts (ok.m0)).2.2.1).choose_spec) ?_
      rintro _ η22 ⟨Sq1, rq1, Eq1, wq1, Wq1, bq1, rfl, hKq1, haq1, hwq1, hsbq1, pq1, hEq1, hWq1⟩
      have hszq1 := ok.chg.size
      have ok := (ok.f1.f1.f2).call2 pq1 hEq1 hWq1
      have hkq1 : DkOk rq1.abs := by rw [haq1]; exact stepD_ok hk (hop _ (List.getElem_mem hil)).2.2.2
      have hcq1 : rq1.chg ≤ r.chg + 1 := Int.le_trans (Int.le_of_eq (congrArg Dk.chg haq1)) stepD_chg
      refine ⟨trivial, ?_⟩
      refine .e ?_
      refine .end <| hK1 _ _ <| .r <| .w 32 .mvI <| .w 33 (.addI (b := 1)) <| .w 6 .asI <| .nil ?_
      refine .end <| hJ0 _ _ _ ⟨i + 1, rq1, Eq1, ⟨rfl, rfl, rfl, rfl, trivial⟩, (ok).k1.f3.f1.e2, by omega, hkq1, by omega, by rw [haq1]; exact hci.step (show l[i].k % 8 < 6 by omega), rfl⟩ (by omega)
    refine .skip <| .end <| hK1 _ _ <| .r <| .w 32 .mvI <| .w 33 (.addI (b := 1)) <| .w 6 .asI <| .nil ?_
    refine .end <| hJ0 _ _ _ ⟨i + 1, r, E, ⟨rfl, rfl, rfl, rfl, trivial⟩, (ok).k1.f1.f1, by omega, hk, by omega, hci, rfl⟩ (by omega)
  refine .x 43 <| .x 44 <| .x 45 <| .x 46 <| .x 47 <| .x 48 <| .w 49 .pkf <| .nil ?_
  refine .cf <| .skip <| .end <| hK1 _ _ <| .r <| .w 32 .mvI <| .w 33 (.addI (b := 1)) <| .w 6 .asI <| .nil ?_
  refine .end <| hJ0 _ _ _ ⟨i + 1, r, E, ⟨rfl, rfl, rfl, rfl, trivial⟩, (ok).k1.f1.f1, by omega, hk, by omega, hci, rfl⟩ (by omega)

end Go.Proofs.Ytpebbkhainpfaaa
