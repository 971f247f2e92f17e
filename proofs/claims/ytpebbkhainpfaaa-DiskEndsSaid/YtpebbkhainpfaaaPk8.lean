/- A disk's power, what is there, a change that is done, what is made safe. Conditions: the disk is in order, its changes few. A disk's calls: Write, Truncate, Remove, Sync, Size, Dark, Changes, Cut, New. Conditions: the disk is in order, its changes few. A disk's calls: Read, Size, Dark, Changes, Cut, New, and the calls to no disk. Conditions: the disk is in order. The contracts of maps.Keys, slices.Sorted and slices.Sort, laid at this program by the kit. Conditions: none. The contracts of maps.Keys, slices.Sorted and slices.Sort, laid at this program by the kit. Conditions: none. maps.Keys and slices.Sorted over a map of frames: its keys, sorted. Conditions: the keys are ints of 64 bits. maps.Keys and slices.Sorted over a map by strings: its keys, sorted. Conditions: the keys are few and short. Rows of strings that may turn: read, written, cleared. Conditions: those that each rule names. -/
import Derived.Test.YtpebbkhainpfaaaPk7
import Derived.Shelf.SlIter.Nil
import Derived.Shelf.SortM.Plain
import Derived.Shelf.SortM.SortNone
import Derived.Ground.GgzProg
import Derived.Ground.SlgmProg
import Derived.Test.YtpebbkhainpfaaaProg
import Derived.Shelf.SlIterI.Nil
namespace Go.Proofs.Ytpebbkhainpfaaa
open Go Go.HL
def lfR (r : RD) : Int := if 0 < r.left then r.left - 1 else r.left
def powerR (r : RD) : RD × Nat := if r.left = 0 then (⟨r.m, r.fs, true, r.left, r.chg⟩, 13) else (⟨r.m, r.fs, r.dark, lfR r, r.chg + 1⟩, 0)
theorem powerR_0 {r : RD} (h : r.left = 0) : powerR r = (⟨r.m, r.fs, true, r.left, r.chg⟩, 13) := by unfold powerR; rw [if_pos h]
theorem powerR_1 {r : RD} (h : ¬ r.left = 0) : powerR r = (⟨r.m, r.fs, r.dark, lfR r, r.chg + 1⟩, 0) := by unfold powerR; rw [if_neg h]
theorem powerR_abs (r : RD) : (powerR r).1.abs = (powerN r.abs).1 ∧ (powerR r).2 = (powerN r.abs).2 := by
  by_cases h : r.left = 0
  · rw [powerR_0 h]; unfold powerN; rw [if_pos (by exact h)]; exact ⟨rfl, rfl⟩
  · rw [powerR_1 h]; unfold powerN; rw [if_neg (by exact h)]; exact ⟨rfl, rfl⟩
theorem powerR_fs (r : RD) : (powerR r).1.fs = r.fs := by unfold powerR; split <;> rfl
theorem lfR_1 {r : RD} (h : 0 < r.left) : lfR r = r.left - 1 := by unfold lfR; rw [if_pos h]
theorem lfR_0 {r : RD} (h : ¬ 0 < r.left) : lfR r = r.left := by unfold lfR; rw [if_neg h]

set_option maxRecDepth 100000 in
set_option maxHeartbeats 2000000 in
theorem power_any {h : Heap} {d : Nat} {r : RD} (ok : Hp h (dskI d r).F [dskI d r] [] h) (hk : DkOk r.abs) (hcg : r.chg < 1000000000) :
    HC Try.prog 70 #[.pointer (some ⟨d, 0, none⟩)] h (fun v h' => v = .int .i64 ((powerR r).2 : Int) ∧ Hp h (dskI d r).F [dskI d (powerR r).1] [] h') := by
  have hl : r.left ≤ 9223372036854775807 := hk.left
  have hc0 : 0 ≤ r.chg := hk.chg
  have ok := ok.dopn
  refine HC.go Try.func70 30 ?_
  refine .seq <| .r <| .w 2 .asI <| .nil ?_
  refine .seq <| .seq <| .r <| .w 3 .mvP <| .w 4 .nil <| .w 5 (.fa T.fd113_2) <| .w 6 (.ldx T.ag3 ok.m0) <| .w 7 .eql <| .nil ?_
  refine .cd (fun C0 => ?_) (fun C0 => ?_)
  · --
    refine .seq <| .r <| .w 8 .mvP <| .w 9 .nil <| .w 10 (.fa T.fd113_1) <| .ur' (.stB T.sz4 ok) ?_
    rintro η1 ⟨ok, cg⟩
    refine .nil ?_
    refine .seq <| .r <| .w 2 .asI <| .nil ?_
    refine .ret ⟨.int .i64 13, Res.one rfl rfl, (by rw [powerR_0 C0]; exact ⟨rfl, Hp.dcls (r := ⟨r.m, r.fs, true, r.left, r.chg⟩) ok⟩)⟩
  refine .skip <| .seq <| .seq <| .r <| .w 11 .mvP <| .w 12 .nil <| .w 13 (.fa T.fd113_2) <| .w 14 (.ldx T.ag3 ok.m0) <| .w 15 .gtr <| .nil ?_
  refine .cd (fun C1 => ?_) (fun C1 => ?_)
  · --
    refine .r <| .w 16 .mvP <| .w 17 .nil <| .w 18 (.fa T.fd113_2) <| .w 19 (.ldx T.ag3 ok.m0) <| .w 20 .sub <| .w 21 .nil <| .w 22 (.fa T.fd113_2) <| .ur' (.stI T.sz3 ok) ?_
    rintro η2 ⟨ok, cg⟩
    refine .nil ?_
    refine .seq <| .r <| .w 23 .mvP <| .w 24 .nil <| .w 25 (.fa T.fd113_3) <| .w 26 (.ldx T.ag3 ok.m0) <| .w 27 .add <| .w 28 .nil <| .w 29 (.fa T.fd113_3) <| .ur' (.stI T.sz3 ok) ?_
    rintro η3 ⟨ok, cg⟩
    refine .nil ?_
    refine .seq <| .r <| .w 2 .asI <| .nil ?_
    refine .ret ⟨.int .i64 0, Res.one rfl rfl, (by rw [powerR_1 C0]; refine ⟨rfl, Hp.dcls (r := ⟨r.m, r.fs, r.dark, lfR r, r.chg + 1⟩) ?_⟩; show Hp _ _ (boxI d _ [_, _, .int .i64 (lfR r), _] :: _) _ _; rw [lfR_1 C1]; exact ok)⟩
  refine .skip <| .seq <| .r <| .w 23 .mvP <| .w 24 .nil <| .w 25 (.fa T.fd113_3) <| .w 26 (.ldx T.ag3 ok.m0) <| .w 27 .add <| .w 28 .nil <| .w 29 (.fa T.fd113_3) <| .ur' (.stI T.sz3 ok) ?_
  rintro η4 ⟨ok, cg⟩
  refine .nil ?_
  refine .seq <| .r <| .w 2 .asI <| .nil ?_
  refine .ret ⟨.int .i64 0, Res.one rfl rfl, (by rw [powerR_1 C0]; refine ⟨rfl, Hp.dcls (r := ⟨r.m, r.fs, r.dark, lfR r, r.chg + 1⟩) ?_⟩; show Hp _ _ (boxI d _ [_, _, .int .i64 (lfR r), _] :: _) _ _; rw [lfR_0 C1]; exact ok)⟩

theorem dsk_parts {h : Heap} {d : Nat} {r : RD} (hd : (dskI d r).p h) : (dboxI d r).p h ∧ MapT kvB h r.m (ents r.fs) ∧ (r.fs.map (·.1)).Nodup ∧ ∀ n f, bget r.fs n = some f → (fboxI f).p h := by
  have h1 := hd.1 _ List.mem_cons_self
  have h2 : MapT kvB h r.m (ents r.fs) := hd.1 _ (List.mem_cons_of_mem _ List.mem_cons_self)
  refine ⟨h1, h2, by have := h2.nodup; rwa [ents_keys] at this, fun n f hg => hd.1 _ (List.mem_cons_of_mem _ (List.mem_cons_of_mem _ (List.mem_flatMap.2 ⟨_, bget_mem hg, ?_⟩)))⟩
  simp [fileI]
def ptrN (f : Option RF) : Option Addr := f.map fun f => ⟨f.blk, 0, none⟩
theorem ents_getD {fs : Fs} {n : List UInt8} : (aget (ents fs) n).getD (.pointer none) = .pointer (ptrN (bget fs n)) := by
  rw [ents_get]; cases bget fs n <;> rfl
theorem there_no {r : RD} {n : List UInt8} (h : bget r.fs n = none) : thereN r.abs n = false := by simp [thereN, RD.abs, h]
theorem there_f {r : RD} {n : List UInt8} {f : RF} (h : bget r.fs n = some f) : thereN r.abs n = f.here := by simp [thereN, RD.abs, h, RF.abs]

set_option maxRecDepth 100000 in
set_option maxHeartbeats 2000000 in
theorem there_any {h : Heap} {d : Nat} {r : RD} {n : List UInt8} (hd : (dskI d r).p h) :
    HC Try.prog 68 #[.pointer (some ⟨d, 0, none⟩), .string (BA n)] h (fun v h' => ((thereN r.abs n = false ∧ v = .pointer none) ∨ ∃ f, bget r.fs n = some f ∧ f.here = true ∧ v = .pointer (some ⟨f.blk, 0, none⟩)) ∧ h' = h) := by
  obtain ⟨hd1, hd2, hd3, hd4⟩ := dsk_parts hd
  refine HC.go Try.func68 21 ?_
  refine .seq <| .r <| .w 4 .asP <| .nil ?_
  refine .seq <| .seq <| .r <| .w 6 .mvP <| .w 7 .nil <| .w 8 (.fa T.fd113_0) <| .w 9 (.ldx T.ag111 hd1) <| .w 10 .mvT <| .w 11 (.lk KV.ba n (v := .pointer (ptrN (bget r.fs n))) T.mp111 (stB_iff T.st9) T.zr118 hd2 (by exact ents_getD)) <| .w 5 .asP <| .nil ?_
  refine .seq <| .r <| .w 12 .mvP <| .w 13 (.pNe T.pt118) <| .w 14 .mvB <| .spl (fun G14 => ?_) (fun G14 => ?_)
  ·
    obtain ⟨f, hg⟩ : ∃ f0, bget r.fs n = some f0 := by (cases hb : bget r.fs n with | none => (rw [hb] at G14; simp [ptrN] at G14) | some x => exact ⟨x, rfl⟩)
    rw [hg]
    simp only [ptrN, Option.map_some]
    have hfb := hd4 n f hg
    refine .w 15 .mvP <| .w 16 .nil <| .w 17 (.fa T.fd122_2) <| .w 18 (.ldx T.ag4 hfb) <| .w 19 .pkt <| .nil ?_
    refine .cond (fun C0 => ?_) (fun C0 => ?_)
    · --
      refine .seq <| .r <| .w 20 .mvP <| .w 4 .asP <| .nil ?_
      refine .ret ⟨.pointer (some ⟨f.blk, 0, none⟩), Res.one rfl rfl, ⟨.inr ⟨f, (by first | exact hg | rfl), C0, rfl⟩, rfl⟩⟩
    refine .skip <| .seq <| .r <| .w 4 .asP <| .nil ?_
    refine .ret ⟨.pointer none, Res.one rfl rfl, ⟨.inl ⟨by rw [there_f hg]; exact C0, rfl⟩, rfl⟩⟩
  refine .x 15 <| .x 16 <| .x 17 <| .x 18 <| .w 19 .pkf <| .nil ?_
  refine .cf <| .skip <| .seq <| .r <| .w 4 .asP <| .nil ?_
  refine .ret ⟨.pointer none, Res.one rfl rfl, ⟨.inl ⟨there_no (by cases hb : bget r.fs n with | none => rfl | some x => (rw [hb] at G14; simp [ptrN] at G14)), rfl⟩, rfl⟩⟩

theorem box_cell {h : Heap} {b o : Nat} {t : TypeId} {cs : List Value} {v : Value} (hb : (boxI b t cs).p h) (hv : cs[o]? = some v) : cell h b o = some v := by rw [cell_of hb]; simpa using hv
def settleR (r : RD) (n : List UInt8) (f : RF) : RD := if f.here = true then ⟨r.m, bput r.fs n ⟨f.blk, f.na, f.nc, f.nl, f.na, f.nc, f.nl, true, true, none, 0, []⟩, r.dark, r.left, r.chg⟩ else ⟨r.m, bdel r.fs n, r.dark, r.left, r.chg⟩
theorem settleR_abs {r : RD} {n : List UInt8} {f : RF} : (settleR r n f).abs = ⟨put1 r.abs.fs n (settleF f.abs), r.dark, r.left, r.chg⟩ := by
  unfold settleR settleF
  by_cases h : f.here = true
  · rw [if_pos h, if_pos (by exact h)]
    simp only [RD.abs]; congr 1
    funext m
    rw [bget_put]
    by_cases hm : m = n
    · simp [put1, hm, RF.abs]
    · simp [put1, hm]
  · rw [if_neg h, if_neg (by exact h)]
    simp only [RD.abs]; congr 1
    funext m
    rw [bget_del]
    by_cases hm : m = n
    · simp [put1, hm]
    · simp [put1, hm]
theorem settle_end {h0 h : Heap} {D E : Nat → Prop} {M : List Itm} {d : Nat} {r : RD} {n : List UInt8} {f : RF} (hn : (r.fs.map (·.1)).Nodup) (hg : bget r.fs n = some f) (hh : f.here = true)
    (ok : Hp h0 D (boxI f.blk 122 [.slice f.na f.nl.length f.nc, .slice f.na f.nl.length f.nc, .bool f.here, .bool f.here, .slice none 0 0] :: flsI (bdel r.fs n) :: dboxI d r :: mapI kvB r.m (ents r.fs) :: M) [bysI E r.fs] h) :
    Hp h0 D (dskI d (settleR r n f) :: M) [bysI E (settleR r n f).fs] h := by
  have he : settleR r n f = ⟨r.m, bput r.fs n ⟨f.blk, f.na, f.nc, f.nl, f.na, f.nc, f.nl, true, true, none, 0, []⟩, r.dark, r.left, r.chg⟩ := by unfold settleR; rw [if_pos hh]
  rw [he]
  have hb := (Bys.get ok.r0 hg)
  rw [hh] at ok
  have o1 := (ok.nilC (k := 3) (e := 117)).n1
  have o2 := Hp.fcls (n := n) (f := ⟨f.blk, f.na, f.nc, f.nl, f.na, f.nc, f.nl, true, true, none, 0, []⟩) hn o1
  have o3 := Hp.dcls (r := ⟨r.m, bput r.fs n ⟨f.blk, f.na, f.nc, f.nl, f.na, f.nc, f.nl, true, true, none, 0, []⟩, r.dark, r.left, r.chg⟩) (d := d) (M := M) (by
    have o4 := o2.n2.n2
    simp only
    rw [ents_same hg (by rfl)]
    exact o4)
  exact (o3.d0 (bysI E (bput r.fs n ⟨f.blk, f.na, f.nc, f.nl, f.na, f.nc, f.nl, true, true, none, 0, []⟩)) (Bys.put ok.r0 ⟨hb.now, hb.now, fun c hc => by cases hc⟩) (fun _ h => h)).e1
theorem settle_end0 {h0 h : Heap} {D E : Nat → Prop} {M : List Itm} {d : Nat} {r : RD} {n : List UInt8} {f : RF} (hh : f.here = false)
    (ok : Hp h0 D (flsI (bdel r.fs n) :: dboxI d r :: mapI kvB r.m (adel (ents r.fs) n) :: M) [bysI E r.fs] h) :
    Hp h0 D (dskI d (settleR r n f) :: M) [bysI E (settleR r n f).fs] h := by
  have he : settleR r n f = ⟨r.m, bdel r.fs n, r.dark, r.left, r.chg⟩ := by unfold settleR; rw [if_neg (by rw [hh]; decide)]
  rw [he]
  have o3 := Hp.dcls (r := ⟨r.m, bdel r.fs n, r.dark, r.left, r.chg⟩) (d := d) (M := M) (by
    have o4 := ok.n2.n2
    simp only
    rw [← ents_del]
    exact o4)
  exact (o3.d0 (bysI E (bdel r.fs n)) (Bys.del ok.r0) (fun _ h => h)).e1

set_option maxRecDepth 100000 in
set_option maxHeartbeats 2000000 in
theorem settle_any {h : Heap} {d : Nat} {r : RD} {E : Nat → Prop} {n : List UInt8} {f : RF} (ok : Hp h (dskI d r).F [dskI d r] [bysI E r.fs] h) (hg : bget r.fs n = some f) :
    HC Try.prog 71 #[.pointer (some ⟨d, 0, none⟩), .string (BA n), .pointer (some ⟨f.blk, 0, none⟩)] h (fun v h' => v = .tuple #[] ∧ Hp h (dskI d r).F [dskI d (settleR r n f)] [bysI E (settleR r n f).fs] h') := by
  refine HC.go Try.func71 33 ?_
  have hnd : (r.fs.map (·.1)).Nodup := (dsk_parts ok.m0).2.2.1
  have ok := ok.dopn
  have ok := Hp.fopn hnd hg ok.n2
  refine .seq <| .join (fun s hh => Has s [(0, .pointer (some ⟨d, 0, none⟩)), (1, .string (BA n)), (2, .pointer (some ⟨f.blk, 0, none⟩))] ∧ Hp h (dskI d r).F [boxI f.blk 122 [.slice f.na f.nl.length f.nc, .slice f.na f.nl.length f.nc, .bool f.here, .bool f.here, .slice none 0 0], flsI (bdel r.fs n), boxI d 113 [.map (some r.m), .bool r.dark, .int .i64 r.left, .int .i64 r.chg], mapI kvB r.m (ents r.fs)] [bysI E r.fs] hh) ?_ ?_
  · --
    refine .a 13 (fun fl hh => cond fl True (cell hh f.blk 0 = some (.slice f.na f.nl.length f.nc) ∧ cell hh f.blk 2 = some (.bool f.here))) mixed ?_
    have hS := (And.intro (box_cell (o := 0) (v := .slice f.na f.nl.length f.nc) ok.m0 rfl) (box_cell (o := 2) (v := .bool f.here) ok.m0 rfl))
    refine .g 0 false rfl 6 hS (fun _ => .mvP) <| .g 1 false rfl 7 hS (fun _ => .mvP) <| .g 2 false rfl 8 hS (fun _ => .mvP) <| .g 3 false rfl 9 hS (fun _ => .mvP) <| .g 4 false rfl 10 hS (fun _ => .nil) <| .g 5 false rfl 11 hS (fun _ => .fa T.fd122_0) <| .l 6 false rfl 12 hS (fun _ hS => .ld T.ag22 hS.1) <| .g 7 false rfl 13 hS (fun _ => .mvP) <| .g 8 false rfl 14 hS (fun _ => .nil) <| .g 9 false rfl 15 hS (fun _ => .fa T.fd122_2) <| .l 10 false rfl 16 hS (fun _ hS => .ld T.ag4 hS.2) <| .g 11 false rfl 17 hS (fun _ => .nil) <| .g 12 false rfl 18 hS (fun _ => .fa T.fd122_1) <| .o1 13 <| .ur' true rfl (.stS T.sz22 ok) ?_
    rintro η1 ⟨ok, cg⟩
    refine ⟨trivial, ?_⟩
    refine .g 14 true rfl 19 trivial (fun _ => .nil) <| .g 15 true rfl 20 trivial (fun _ => .fa T.fd122_3) <| .o1 16 <| .ur' true rfl (.stB T.sz4 ok) ?_
    rintro η2 ⟨ok, cg⟩
    refine ⟨trivial, ?_⟩
    refine .g 17 true rfl 21 trivial (fun _ => .nil) <| .g 18 true rfl 22 trivial (fun _ => .fa T.fd122_4) <| .o1 19 <| .ur' true rfl (.stS T.sz120 ok) ?_
    rintro η3 ⟨ok, cg⟩
    refine ⟨trivial, ?_⟩
    refine .e ?_
    refine .end <| ⟨⟨rfl, rfl, rfl, trivial⟩, ok.n4.n4.n4.n3.k4⟩
  rintro s η4 ⟨hs, ok⟩
  refine .frame hs fun τ => ?_
  refine .seq <| .r <| .w 23 .mvP <| .w 24 .nil <| .w 25 (.fa T.fd122_2) <| .w 26 (.ldx T.ag4 ok.m0) <| .w 27 .not <| .nil ?_
  refine .cond (fun C0 => ?_) (fun C0 => ?_)
  · --
    refine .r <| .w 28 .mvP <| .w 29 .nil <| .w 30 (.fa T.fd113_0) <| .w 31 (.ldx T.ag111 ok.m2) <| .w 32 .mvT <| .a0' (.del KV.ba n T.mp111 (stB_iff T.st9) ok.n3) ?_
    rintro _ η5 ⟨rfl, ok⟩
    refine .nil ?_
    refine .end <| ⟨.tuple #[], Res.none rfl, ⟨rfl, settle_end0 (by simpa using C0) (ok.n3.n3.k3)⟩⟩
  refine .skip <| .end <| ⟨.tuple #[], Res.none rfl, ⟨rfl, settle_end hnd hg (by simpa using C0) (ok.n3.n3.n3.n3)⟩⟩

@[reducible] def byfI (E : Nat → Prop) (f : RF) : Itm := ⟨fun h => ByF h E f, E, fun _ _ _ c d b => b.st c d⟩
def chgR (f : RF) (c : RC) (ya : Option Addr) (yc : Nat) (oa : Option Addr) (oc : Nat) : RF := ⟨f.blk, ya, yc, (doneN c.abs f.nl f.here).1, f.sa, f.sc, f.sl, (doneN c.abs f.nl f.here).2, f.was, oa, oc, f.ol ++ [c]⟩
theorem chgR_abs {f : RF} {c : RC} {ya yc oa oc} : (chgR f c ya yc oa oc).abs = chgF f.abs c.abs := by simp [chgR, RF.abs, chgF]
def newF (b : Nat) : RF := ⟨b, none, 0, [], none, 0, [], false, false, none, 0, []⟩
/-- The file that a change is done to. -/
def FileAt (r : RD) (n : List UInt8) (f : RF) : Prop := f.abs = ((r.abs.fs n).getD noF)
theorem fileAt_some {r : RD} {n : List UInt8} {f : RF} (h : bget r.fs n = some f) : FileAt r n f := by simp [FileAt, RD.abs, h]
theorem fileAt_new {r : RD} {n : List UInt8} {b : Nat} (h : bget r.fs n = none) : FileAt r n (newF b) := by simp [FileAt, RD.abs, h, newF, RF.abs, noF]
theorem ents_blk {fs : Fs} {n : List UInt8} {f g : RF} (h : f.blk = g.blk) : ents (bput fs n f) = ents (bput fs n g) := by rw [← ents_put, ← ents_put, ptrF, ptrF, h]
theorem do_end {h0 h : Heap} {D E : Nat → Prop} {M R : List Itm} {d : Nat} {r : RD} {n : List UInt8} {f : RF} {c : RC} {ya oa : Option Addr} {yc oc : Nat} (hl : ¬ r.left = 0) (hn : (r.fs.map (·.1)).Nodup) (hf : FileAt r n f)
    (ok : Hp h0 D (boxI f.blk 122 [.slice ya (doneN c.abs f.nl f.here).1.length yc, .slice f.sa f.sl.length f.sc, .bool (doneN c.abs f.nl f.here).2, .bool f.was, .slice oa (f.ol ++ [c]).length oc] :: capI 3 117 (oa, (f.ol ++ [c]).length, oc) ((f.ol ++ [c]).flatMap RC.cells) :: flsI (bdel r.fs n) :: boxI d 113 [.map (some r.m), .bool r.dark, .int .i64 (lfR r), .int .i64 (r.chg + 1)] :: mapI kvB r.m (ents (bput r.fs n f)) :: capI 1 5 (ya, (doneN c.abs f.nl f.here).1.length, yc) ((doneN c.abs f.nl f.here).1.map bv) :: M)
      (byfI E f :: bysI E r.fs :: rdI E E (c.ba, c.bl.length, c.bc) c.bl :: R) h) :
    ∃ (r' : RD) (E' : Nat → Prop), r'.abs = (doN r.abs n c.abs).1 ∧ Hp h0 D (dskI d r' :: M) (bysI E' r'.fs :: R) h ∧ ∀ j, E' j → E j ∨ blkC (sv (ya, (doneN c.abs f.nl f.here).1.length, yc)) j := by
  refine ⟨⟨r.m, bput r.fs n (chgR f c ya yc oa oc), r.dark, lfR r, r.chg + 1⟩, fun j => E j ∨ blkC (sv (ya, (doneN c.abs f.nl f.here).1.length, yc)) j, ?_, ?_, fun _ h => h⟩
  · unfold doN
    rw [if_neg (by exact hl)]
    simp only [RD.abs]
    congr 1
    · funext m
      rw [bget_put]
      by_cases hm : m = n
      · subst hm
        have := hf
        unfold FileAt at this
        simp only [RD.abs] at this
        rw [if_pos rfl, Option.map_some, chgR_abs, this]
        simp [put1]
      · simp [put1, hm]
  · have o1 := Hp.frzB (l := (doneN c.abs f.nl f.here).1) (Hp.n5 ok) rfl
    have o2 := Hp.fcls (n := n) (f := chgR f c ya yc oa oc) hn o1
    have o3 := Hp.dcls (r := ⟨r.m, bput r.fs n (chgR f c ya yc oa oc), r.dark, lfR r, r.chg + 1⟩) (d := d) (M := M) (by
      have o4 := o2.n2.n2
      simp only
      rw [ents_blk (f := chgR f c ya yc oa oc) (g := f) rfl]
      exact o4)
    have hby : Bys h (fun j => E j ∨ blkC (sv (ya, (doneN c.abs f.nl f.here).1.length, yc)) j) (bput r.fs n (chgR f c ya yc oa oc)) := by
      refine Bys.put (Bys.mono (fun _ h => .inl h) o3.r2) ⟨?_, ?_, fun x hx => ?_⟩
      · exact RdL.mono (fun _ h => .inr h) (fun _ f => f.elim) o3.r0
      · exact RdL.mono (fun _ h => .inl h) (fun _ h => .inl h) o3.r1.safe
      · rcases List.mem_append.1 hx with hx | hx
        · exact RdL.mono (fun _ h => .inl h) (fun _ h => .inl h) (o3.r1.opn x hx)
        · rw [List.mem_singleton.1 hx]
          exact RdL.mono (fun _ h => .inl h) (fun _ h => .inl h) o3.r3
    exact ((o3.or (r := rdI (blkC (sv (ya, (doneN c.abs f.nl f.here).1.length, yc))) none_ (ya, (doneN c.abs f.nl f.here).1.length, yc) (doneN c.abs f.nl f.here).1) (r' := byfI E f) (by simp) (by simp) (bysI _ _) hby (fun j hj => hj.elim .inr fun h => .inl (.inl h))).sub (by
      intro i hi
      simp only [List.mem_cons] at hi ⊢
      rcases hi with h | h
      · exact .inl h
      · exact .inr (.inr (.inr (.inr (.inr h))))))
theorem byfI_new {h : Heap} {E : Nat → Prop} {b : Nat} : ByF h E (newF b) := ⟨RdL.nil _ _ _, RdL.nil _ _ _, fun _ h => by cases h⟩

set_option maxRecDepth 100000 in
set_option maxHeartbeats 2000000 in
theorem do_any {h : Heap} {d : Nat} {r : RD} {E : Nat → Prop} {n : List UInt8} {kind pos : Nat} {ba : Option Addr} {bc : Nat} {bl : List UInt8} (ok : Hp h (dskI d r).F [dskI d r] [bysI E r.fs] h) (hk : DkOk r.abs) (hcg : r.chg < 1000000000) (hb : RdL h E E (ba, bl.length, bc) bl) (hc : ChOk ⟨kind, pos, bl⟩) :
    HC Try.prog 66 #[.pointer (some ⟨d, 0, none⟩), .string (BA n), .agg #[.int .i64 (kind : Int), .int .i64 (pos : Int), .slice ba bl.length bc]] h (fun v h' => ∃ r' E', v = .int .i64 ((doN r.abs n ⟨kind, pos, bl⟩).2 : Int) ∧ r'.abs = (doN r.abs n ⟨kind, pos, bl⟩).1 ∧ DUp h h' d r r' E E') := by
  have ok := ok.d0 (rdI E E (ba, bl.length, bc) bl) hb (fun _ h => h.elim id id)
  have hc0 : 0 ≤ r.chg := hk.chg
  have hfit : pos + bl.length ≤ 16777216 := hc.fit
  refine HC.go Try.func66 59 ?_
  refine .seq <| .r <| .a' 5 (.bxA (cs := [.int .i64 (kind : Int), .int .i64 (pos : Int), .slice ba bl.length bc]) ok) ?_
  rintro _ η1 ⟨pb1, rfl, ok, xe⟩
  refine .w 6 .asI <| .nil ?_
  refine .seq <| .seq <| .r <| .w 9 .mvP <| .c' 10 .func (power_any (ok.n1).loc0 hk hcg) ?_
  rintro _ η2 ⟨rfl, q⟩
  have ok := (ok.n1).lift1 q
  refine .w 7 .asI <| .nil ?_
  refine .seq <| .r <| .w 11 .mvI <| .w 12 .neq <| .nil ?_
  refine .cd (fun C0 => ?_) (fun C0 => ?_)
  · --
    have hp0 : r.left = 0 := by by_cases h : r.left = 0; exact h; exact absurd (by rw [powerR_1 h]; rfl) C0
    refine .seq <| .r <| .w 13 .mvI <| .w 6 .asI <| .nil ?_
    refine .ret ⟨.int .i64 ((powerR r).2 : Int), Res.one rfl rfl, ⟨(powerR r).1, E, by unfold doN powerN; rw [if_pos (by exact hp0), if_pos (by exact hp0), powerR_0 hp0], by unfold doN; rw [if_pos (by exact hp0), (powerR_abs r).1], ⟨by rw [powerR_fs]; exact ok.k1.tR, fun _ h => .inl h⟩⟩⟩
  have hpl : ¬ r.left = 0 := fun h => by rw [powerR_0 h] at C0; exact C0 (by simp)
  have hnd : (r.fs.map (·.1)).Nodup := by have := (dsk_parts (ok).m0).2.2.1; rwa [powerR_fs] at this
  have ok := ok
  rw [powerR_1 hpl] at ok
  have ok := ok.dopn
  refine .skip <| .seq <| .r <| .w 14 .mvP <| .w 15 .nil <| .w 16 (.fa T.fd113_0) <| .w 17 (.ldx T.ag111 ok.m0) <| .w 18 .mvT <| .w 19 (.lk KV.ba n (v := .pointer (ptrN (bget r.fs n))) T.mp111 (stB_iff T.st9) T.zr118 ok.m1 (by exact ents_getD)) <| .w 8 .asP <| .nil ?_
  refine .seq <| .seq <| .r <| .w 20 .mvP <| .w 21 (.pEq T.pt118) <| .nil ?_
  refine .join (fun s hh => ∃ (f : RF), Has s [(5, .pointer (some ⟨pb1, 0, none⟩)), (8, .pointer (some ⟨f.blk, 0, none⟩))] ∧ Hp h (dskI d r).F [boxI f.blk 122 [.slice f.na f.nl.length f.nc, .slice f.sa f.sl.length f.sc, .bool f.here, .bool f.was, .slice f.oa f.ol.length f.oc], capI 3 117 (f.oa, f.ol.length, f.oc) (f.ol.flatMap RC.cells), flsI (bdel r.fs n), boxI d 113 [.map (some r.m), .bool r.dark, .int .i64 (lfR r), .int .i64 (r.chg + 1)], mapI kvB r.m (ents (bput r.fs n f)), boxI pb1 117 [.int .i64 (kind : Int), .int .i64 (pos : Int), .slice ba bl.length bc]] [byfI E f, rdI E E (ba, bl.length, bc) bl, bysI E r.fs] hh ∧ FileAt r n f) ?_ ?_
  · --
    refine .cond (fun C1 => ?_) (fun C1 => ?_)
    · --
      have hg : bget r.fs n = none := by (cases hb : bget r.fs n with | none => rfl | some x => (rw [hb] at C1; simp [ptrN] at C1))
      refine .seq <| .r <| .w 22 (.bd #[.slice none 0 0, .slice none 0 0, .bool false, .bool false, .slice none 0 0] T.zr122 T.pl122 rfl) <| .a' 23 (.bxA (cs := [.slice none 0 0, .slice none 0 0, .bool false, .bool false, .slice none 0 0]) ok) ?_
      rintro _ η3 ⟨pb2, rfl, ok, xe⟩
      refine .w 8 .asP <| .nil ?_
      refine .r <| .w 24 .mvP <| .w 25 .nil <| .w 26 (.fa T.fd113_0) <| .w 27 (.ldx T.ag111 ok.m1) <| .w 28 .mvT <| .w 29 .mvP <| .ur' (.mpu KV.ba sbB n (v := (ptrF (newF pb2))) T.mp111 (stB_iff T.st9) ok.n2) ?_
      rintro η4 ok
      refine .nil ?_
      refine .end <| ⟨(newF pb2), ⟨rfl, rfl, trivial⟩, (by rw [show ents (bput r.fs n (newF pb2)) = aput (ents r.fs) n (ptrF (newF pb2)) from ents_put.symm, bdel_none hg]; exact (Hp.n1 (Hp.nilC (k := 3) (e := 117) (ok.n4.n1.n3.n4.n4))).d1 (byfI E (newF pb2)) byfI_new (fun _ h => h)), fileAt_new hg⟩
    obtain ⟨f, hg⟩ : ∃ f0, bget r.fs n = some f0 := by (cases hb : bget r.fs n with | none => (rw [hb] at C1; simp [ptrN] at C1) | some x => exact ⟨x, rfl⟩)
    rw [hg]
    simp only [ptrN, Option.map_some]
    have ok := Hp.fopn hnd hg (ok.n2)
    have ok := ok.d1 (byfI E f) (Bys.get ok.r1 hg) (fun _ h => h)
    refine .skip <| .end <| ⟨f, ⟨rfl, rfl, trivial⟩, (by rw [show ents (bput r.fs n f) = ents r.fs from ents_same hg rfl]; exact ok.n5.n5.n5.n5.n5.n5), fileAt_some hg⟩
  rintro s η5 ⟨f, hs, ok, hfa⟩
  refine .frame hs fun τ => ?_
  have hnl : f.nl.length ≤ 16777216 := by have := (hk.getD n).1.now; rw [← hfa] at this; exact this
  have hol : (f.ol.flatMap RC.cells).length = f.ol.length * 3 := flat_len RC.cells_len _
  have hoc : (f.ol.length : Int) ≤ r.chg := by have h9 := (hk.getD n).2; rw [← hfa] at h9; simpa [RF.abs] using (show _ ≤ r.chg from h9)
  refine .seq <| ?_
  have ok := ok.d0 (rdI E E (f.na, f.nl.length, f.nc) f.nl) (ok.r0).now (fun _ h => h.elim id id)
  refine .a 11 (fun fl hh => cond fl True (Hp h (dskI d r).F [boxI f.blk 122 [.slice f.na f.nl.length f.nc, .slice f.sa f.sl.length f.sc, .bool f.here, .bool f.was, .slice f.oa f.ol.length f.oc], capI 3 117 (f.oa, f.ol.length, f.oc) (f.ol.flatMap RC.cells), flsI (bdel r.fs n), boxI d 113 [.map (some r.m), .bool r.dark, .int .i64 (lfR r), .int .i64 (r.chg + 1)], mapI kvB r.m (ents (bput r.fs n f)), boxI pb1 117 [.int .i64 (kind : Int), .int .i64 (pos : Int), .slice ba bl.length bc]] [rdI E E (f.na, f.nl.length, f.nc) f.nl, byfI E f, rdI E E (ba, bl.length, bc) bl, bysI E r.fs] hh)) mixed ?_
  have hS := ok
  refine .g 0 false rfl 31 hS (fun _ => .mvP) <| .g 1 false rfl 32 hS (fun _ => .mvP) <| .l 2 false rfl 33 hS (fun _ hS => .ldb T.ag117 hS.m5 T.sz117) <| .g 3 false rfl 34 hS (fun _ => .mvP) <| .g 4 false rfl 35 hS (fun _ => .nil) <| .g 5 false rfl 36 hS (fun _ => .fa T.fd122_0) <| .l 6 false rfl 37 hS (fun _ hS => .ldx T.ag22 hS.m0) <| .g 7 false rfl 38 hS (fun _ => .mvP) <| .g 8 false rfl 39 hS (fun _ => .nil) <| .g 9 false rfl 40 hS (fun _ => .fa T.fd122_2) <| .l 10 false rfl 41 hS (fun _ hS => .ldx T.ag4 hS.m0) <| .o1 11 <| .c' true rfl 42 .func (done_any (kind := kind) (pos := pos) (ba := ba) (bc := bc) (bl := bl) (a := f.na) (c := f.nc) (l := f.nl) (here := f.here) ok.r2 ok.r0 (by omega) (by omega)) ?_
  rintro _ η6 ⟨_, rfl, own⟩
  obtain ⟨ya1, yc1, rfl⟩ := own.formB
  have hyf := fun j hj => Nat.le_trans ok.chg.size (own.fresh j hj)
  have ok := ok.own own
  refine ⟨trivial, ?_⟩
  refine .g 12 true rfl 30 trivial (fun _ => .mvU) <| .g 13 true rfl 43 trivial (fun _ => .ex) <| .g 14 true rfl 44 trivial (fun _ => .ex) <| .g 15 true rfl 45 trivial (fun _ => .nil) <| .g 16 true rfl 46 trivial (fun _ => .fa T.fd122_0) <| .o1 17 <| .ur' true rfl (.stS T.sz22 ok.n1) ?_
  rintro η7 ⟨ok, cg⟩
  refine ⟨trivial, ?_⟩
  refine .g 18 true rfl 47 trivial (fun _ => .nil) <| .g 19 true rfl 48 trivial (fun _ => .fa T.fd122_2) <| .o1 20 <| .ur' true rfl (.stB T.sz4 ok) ?_
  rintro η8 ⟨ok, cg⟩
  refine ⟨trivial, ?_⟩
  refine .e ?_
  refine .seq <| .a 10 (fun fl hh => cond fl True (Hp h (dskI d r).F [boxI f.blk 122 [.slice ya1 ((doneN ⟨kind, pos, bl⟩ f.nl f.here).1.length) yc1, .slice f.sa f.sl.length f.sc, .bool ((doneN ⟨kind, pos, bl⟩ f.nl f.here).2), .bool f.was, .slice f.oa f.ol.length f.oc], capI 1 5 (ya1, (doneN ⟨kind, pos, bl⟩ f.nl f.here).1.length, yc1) ((doneN ⟨kind, pos, bl⟩ f.nl f.here).1.map bv), flsI (bdel r.fs n), boxI d 113 [.map (some r.m), .bool r.dark, .int .i64 (lfR r), .int .i64 (r.chg + 1)], mapI kvB r.m (ents (bput r.fs n f)), boxI pb1 117 [.int .i64 (kind : Int), .int .i64 (pos : Int), .slice ba bl.length bc]] [rdI E E (f.na, f.nl.length, f.nc) f.nl, byfI E f, rdI E E (ba, bl.length, bc) bl, bysI E r.fs] hh)) mixed ?_
  have hS := ok.n6.n6.n6.n6.n5.n5.k6
  refine .g 0 false rfl 49 hS (fun _ => .mvP) <| .g 1 false rfl 50 hS (fun _ => .mvP) <| .g 2 false rfl 51 hS (fun _ => .nil) <| .g 3 false rfl 52 hS (fun _ => .fa T.fd122_4) <| .l 4 false rfl 53 hS (fun _ hS => .ldx T.ag120 hS.m0) <| .l 5 false rfl 54 hS (fun _ hS => .ldb T.ag117 hS.m5 T.sz117) <| .o1 6 <| .a' false rfl 55 (.lit [.tmp 54] (cs := [.int .i64 (kind : Int), .int .i64 (pos : Int), .slice ba bl.length bc]) T.el120 T.sz117 T.zr117 ok ⟨rfl, trivial⟩) ?_
  rintro _ η9 ⟨pb3, rfl, ok, xe⟩
  refine ⟨ok.n7.n7.n7.n7.n6.n6.k6, ?_⟩
  have hS := ok.n7.n7.n7.n7.n6.n6.k6
  refine .o1 7 <| .a' false rfl 56 (.app (news := [.int .i64 (kind : Int), .int .i64 (pos : Int), .slice ba bl.length bc]) T.el120 T.sz117 T.by117 T.zr117 ok.n3 (ok.n3.m1).sl (oneL rfl) (by rw [hol]; simp only [List.length_cons, List.length_nil]; omega)) ?_
  rintro _ η10 ⟨ya2, yn1, yc2, rfl, ok, ap⟩
  refine ⟨ok.n7.n7.n7.n7.n7.n7.k6, ?_⟩
  have hS := ok.n7.n7.n7.n7.n7.n7.k6
  refine .g 8 false rfl 57 hS (fun _ => .nil) <| .g 9 false rfl 58 hS (fun _ => .fa T.fd122_4) <| .o1 10 <| .ur' true rfl (.stS T.sz120 ok.n2) ?_
  rintro η11 ⟨ok, cg⟩
  refine ⟨trivial, ?_⟩
  refine .e ?_
  refine .seq <| .r <| .w 6 .asI <| .nil ?_
  have ok := (ok.n1).cx (ys := (f.ol ++ [(⟨kind, pos, ba, bc, bl⟩ : RC)]).flatMap RC.cells) (by simp [RC.cells])
  obtain rfl : yn1 = (f.ol ++ [(⟨kind, pos, ba, bc, bl⟩ : RC)]).length := (Sl.sz (Cap.sl ok.m0) RC.cells_len (by decide)).1.symm
  refine .ret ⟨.int .i64 0, Res.one rfl rfl, (by obtain ⟨r2, E2, h1, h2, h3⟩ := do_end (n := n) (f := f) (c := ⟨kind, pos, ba, bc, bl⟩) hpl hnd hfa (ok.n3.n6.n6.n6.n4.n5.f2.f3.f3); exact ⟨r2, E2, by unfold doN; rw [if_neg (by exact hpl)]; rfl, h1, h2.k1.up fun j hj => (h3 j hj).imp id (fun h9 => hyf j h9)⟩)⟩

end Go.Proofs.Ytpebbkhainpfaaa

namespace Go.HL
open Go Go.Proofs.Ytpebbkhainpfaaa
theorem Hp.byX {h0 h : Heap} {D E F2 : Nat → Prop} {M R : List Itm} {fs : Fs} {a : Option Addr} {c : Nat} {l : List UInt8} (ok : Hp h0 D M (rdI F2 none_ (a, l.length, c) l :: bysI E fs :: R) h) : Hp h0 D M (bysI (fun j => E j ∨ F2 j) fs :: rdI (fun j => E j ∨ F2 j) (fun j => E j ∨ F2 j) (a, l.length, c) l :: R) h := by
  have o1 := ok.or (r := rdI F2 none_ (a, l.length, c) l) (r' := bysI E fs) (by simp) (by simp) (rdI (fun j => E j ∨ F2 j) (fun j => E j ∨ F2 j) (a, l.length, c) l) (RdL.mono (fun _ h => .inr h) (fun _ f => f.elim) ok.r0) (fun j hj => (hj.elim id id).elim .inr (fun h => .inl (.inl h)))
  have o2 := o1.or (r := rdI F2 none_ (a, l.length, c) l) (r' := bysI E fs) (by simp) (by simp) (bysI (fun j => E j ∨ F2 j) fs) (Bys.mono (fun _ h => .inl h) ok.r1) (fun j hj => hj.elim .inr (fun h => .inl (.inl h)))
  exact o2.sub (by
    intro i hi
    simp only [List.mem_cons] at hi ⊢
    rcases hi with h | h | h
    · exact .inl h
    · exact .inr (.inl h)
    · exact .inr (.inr (.inr (.inr h))))
end Go.HL
namespace Go.Proofs.Ytpebbkhainpfaaa
open Go Go.HL
theorem write_w {d : Dk} {n : List UInt8} {z : Int} {l : List UInt8} (h : ¬ (wrongN d n [z] : Int) = 0) : writeN d n z l = (d, wrongN d n [z]) := by unfold writeN; rw [if_pos (by omega)]
theorem write_f {d : Dk} {n : List UInt8} {z : Int} {l : List UInt8} (h : wrongN d n [z] = 0) (h2 : 16777216 < z ∨ 16777216 - z < l.length) : writeN d n z l = (d, 5) := by unfold writeN; rw [if_neg (by omega), if_pos h2]
theorem write_d {d : Dk} {n : List UInt8} {p : Nat} {l : List UInt8} (h : wrongN d n [(p : Int)] = 0) (h2 : ¬ (16777216 < (p : Int) ∨ 16777216 - (p : Int) < l.length)) : writeN d n (p : Int) l = doN d n ⟨0, p, l⟩ := by unfold writeN; rw [if_neg (by omega), if_neg h2]; rfl

set_option maxRecDepth 100000 in
set_option maxHeartbeats 2000000 in
theorem write_any {h : Heap} {d : Nat} {r : RD} {E : Nat → Prop} {n : List UInt8} {F2 E2 : Nat → Prop} {z : Int} {a : Option Addr} {c : Nat} {l : List UInt8} (ok : Hp h (dskI d r).F [dskI d r] [bysI E r.fs, rdI F2 E2 (a, l.length, c) l] h) (hk : DkOk r.abs) (hcg : r.chg < 1000000000) (hz : -9223372036854775808 ≤ z ∧ z ≤ 9223372036854775807) :
    HC Try.prog 29 #[.pointer (some ⟨d, 0, none⟩), .string (BA n), .int .i64 z, .slice a l.length c] h (fun v h' => ∃ r' E', v = .int .i64 ((writeN r.abs n z l).2 : Int) ∧ r'.abs = (writeN r.abs n z l).1 ∧ DUp h h' d r r' E E') := by
  refine HC.go Try.func29 34 ?_
  refine .seq <| .r <| .w 8 .asI <| .nil ?_
  refine .seq <| .seq <| .r <| .w 10 .mvP <| .w 11 .mvT <| .w 12 .mvI <| .a' 13 (.lit [.tmp 12] (cs := [.int .i64 z]) T.el101 T.sz3 T.zr3 ok ⟨rfl, trivial⟩) ?_
  rintro _ η1 ⟨pb1, rfl, ok, xe⟩
  refine .k 14 .func (wrong_any (d := d) (r := r) (n := n) (dsk_parts (ok.m1)).1 (a := some ⟨pb1, 0, none⟩) (c := 1) (l := [z]) (RdL.ofCapI ok.m0)) <| .w 9 .asI <| .nil ?_
  refine .seq <| .r <| .w 15 .mvI <| .w 16 .neq <| .nil ?_
  refine .cd (fun C0 => ?_) (fun C0 => ?_)
  · --
    refine .seq <| .r <| .w 17 .mvI <| .w 8 .asI <| .nil ?_
    refine .ret ⟨.int .i64 (wrongN r.abs n [z] : Int), Res.one rfl rfl, ⟨r, E, (by rw [write_w C0] <;> rfl), (by rw [write_w C0] <;> rfl), (ok.n1).k1.up fun _ h => .inl h⟩⟩
  have hw0 : wrongN r.abs n [z] = 0 := by omega
  obtain ⟨p, rfl⟩ : ∃ p : Nat, z = (p : Int) := ⟨z.toNat, by have := (wrongN_ok hw0).2.2.1 z (by simp); omega⟩
  have ok := (ok).tM
  refine .skip <| .seq <| .seq <| .r <| .w 18 .mvI <| .w 19 .gtr <| .w 20 .mvB <| .sd (fun G20 => ?_) (fun G20 => ?_)
  ·
    refine .x 21 <| .x 22 <| .x 23 <| .x 24 <| .x 25 <| .w 26 .pkt <| .nil ?_
    refine .ct <| .seq <| .r <| .w 8 .asI <| .nil ?_
    refine .ret ⟨.int .i64 5, Res.one rfl rfl, ⟨r, E, (by rw [write_f hw0 (by omega)] <;> rfl), (by rw [write_f hw0 (by omega)] <;> rfl), (ok).k1.up fun _ h => .inl h⟩⟩
  refine .w 21 .mvS <| .w 22 (.len T.el22) <| .w 23 .mvI <| .w 24 .sub <| .w 25 .gtr <| .w 26 .pkf <| .nil ?_
  refine .cd (fun C1 => ?_) (fun C1 => ?_)
  · --
    refine .seq <| .r <| .w 8 .asI <| .nil ?_
    refine .ret ⟨.int .i64 5, Res.one rfl rfl, ⟨r, E, (by rw [write_f hw0 (by omega)] <;> rfl), (by rw [write_f hw0 (by omega)] <;> rfl), (ok).k1.up fun _ h => .inl h⟩⟩
  refine .skip <| .seq <| .r <| .w 27 .mvP <| .w 28 .mvT <| .w 29 .mvI <| .w 30 .mvS <| ?_
  have hsy := ok.chg.size
  refine .c' 31 .func (bclone_any (a := a) (c := c) (l := l) ok.r1 (by omega)) ?_
  rintro _ η2 own
  obtain ⟨ya1, yc1, rfl⟩ := own.formB
  have ok := ok.own own
  have hyf := own.fresh
  have ok := (ok.frzB rfl).f1.f1.byX
  refine .w 32 (.bd #[.int .i64 0, .int .i64 (p : Int), .slice ya1 ((l).length) yc1] T.zr117 T.pl117 rfl) <| .c' 33 .func (do_any (d := d) (r := r) (E := fun j => E j ∨ blkC (sv (ya1, (l).length, yc1)) j) (n := n) (kind := 0) (pos := p) (ba := ya1) (bc := yc1) (bl := l) (ok).loc1 hk hcg ok.r1 ⟨by simp, by simp only; omega⟩) ?_
  rintro _ η3 ⟨rdk1, Edk1, rfl, hadk1, updk1⟩
  have hszdk1 := ok.chg.size
  have ok := (ok).dsk (d := d) (r := r) updk1
  refine .w 8 .asI <| .nil ?_
  refine .ret ⟨.int .i64 ((doN r.abs n ⟨0, p, l⟩).2 : Int), Res.one rfl rfl, ⟨rdk1, Edk1, by rw [write_d hw0 (by omega)], by rw [write_d hw0 (by omega)]; exact hadk1, (ok).k1.up fun j hj => (updk1.new j hj).elim (fun h => h.imp id fun h => Nat.le_trans hsy (hyf j h)) fun h => .inr (Nat.le_trans hszdk1 h)⟩⟩

theorem trunc_w {d : Dk} {n : List UInt8} {z : Int} (h : ¬ (wrongN d n [z] : Int) = 0) : truncN d n z = (d, wrongN d n [z]) := by unfold truncN; rw [if_pos (by omega)]
theorem trunc_n {d : Dk} {n : List UInt8} {z : Int} (h : wrongN d n [z] = 0) (h1 : thereN d n = false) : truncN d n z = (d, 4) := by unfold truncN; rw [if_neg (by omega), if_pos h1]
theorem trunc_f {d : Dk} {n : List UInt8} {z : Int} (h : wrongN d n [z] = 0) (h1 : thereN d n = true) (h2 : 16777216 < z) : truncN d n z = (d, 5) := by unfold truncN; rw [if_neg (by omega), if_neg (by rw [h1]; decide), if_pos h2]
theorem trunc_d {d : Dk} {n : List UInt8} {p : Nat} (h : wrongN d n [(p : Int)] = 0) (h1 : thereN d n = true) (h2 : ¬ 16777216 < (p : Int)) : truncN d n (p : Int) = doN d n ⟨1, p, []⟩ := by unfold truncN; rw [if_neg (by omega), if_neg (by rw [h1]; decide), if_neg h2]; rfl
theorem rem_w {d : Dk} {n : List UInt8} (h : ¬ (wrongN d n [] : Int) = 0) : removeN d n = (d, wrongN d n []) := by unfold removeN; rw [if_pos (by omega)]
theorem rem_n {d : Dk} {n : List UInt8} (h : wrongN d n [] = 0) (h1 : thereN d n = false) : removeN d n = (d, 4) := by unfold removeN; rw [if_neg (by omega), if_pos h1]
theorem rem_d {d : Dk} {n : List UInt8} (h : wrongN d n [] = 0) (h1 : thereN d n = true) : removeN d n = doN d n ⟨2, 0, []⟩ := by unfold removeN; rw [if_neg (by omega), if_neg (by rw [h1]; decide)]
theorem sync_w {d : Dk} {n : List UInt8} (h : ¬ (wrongN d n [] : Int) = 0) : syncN d n = (d, wrongN d n []) := by unfold syncN; rw [if_pos (by omega)]
theorem sync_n {d : Dk} {n : List UInt8} (h : wrongN d n [] = 0) (h1 : d.fs n = none) : syncN d n = (d, 4) := by unfold syncN; rw [if_neg (by omega), h1]
theorem sync_0 {d : Dk} {n : List UInt8} {f : Fl} (h : wrongN d n [] = 0) (h1 : d.fs n = some f) (h2 : f.here = false ∧ f.opn = []) : syncN d n = (d, 4) := by unfold syncN; rw [if_neg (by omega), h1]; simp only; rw [if_pos h2]
theorem sync_p {d : Dk} {n : List UInt8} {f : Fl} (h : wrongN d n [] = 0) (h1 : d.fs n = some f) (h2 : ¬ (f.here = false ∧ f.opn = [])) (h3 : d.left = 0) : syncN d n = powerN d := by unfold syncN; rw [if_neg (by omega), h1]; simp only; rw [if_neg h2, if_pos h3]
theorem sync_d {d : Dk} {n : List UInt8} {f : Fl} (h : wrongN d n [] = 0) (h1 : d.fs n = some f) (h2 : ¬ (f.here = false ∧ f.opn = [])) (h3 : ¬ d.left = 0) : syncN d n = (⟨put1 d.fs n (settleF f), d.dark, if 0 < d.left then d.left - 1 else d.left, d.chg + 1⟩, 0) := by unfold syncN; rw [if_neg (by omega), h1]; simp only; rw [if_neg h2, if_neg h3]

set_option maxRecDepth 100000 in
set_option maxHeartbeats 2000000 in
theorem trunc_any {h : Heap} {d : Nat} {r : RD} {E : Nat → Prop} {n : List UInt8} {z : Int} (ok : Hp h (dskI d r).F [dskI d r] [bysI E r.fs] h) (hk : DkOk r.abs) (hcg : r.chg < 1000000000) (hz : -9223372036854775808 ≤ z ∧ z ≤ 9223372036854775807) :
    HC Try.prog 32 #[.pointer (some ⟨d, 0, none⟩), .string (BA n), .int .i64 z] h (fun v h' => ∃ r' E', v = .int .i64 ((truncN r.abs n z).2 : Int) ∧ r'.abs = (truncN r.abs n z).1 ∧ DUp h h' d r r' E E') := by
  refine HC.go Try.func32 29 ?_
  refine .seq <| .r <| .w 6 .asI <| .nil ?_
  refine .seq <| .seq <| .r <| .w 8 .mvP <| .w 9 .mvT <| .w 10 .mvI <| .a' 11 (.lit [.tmp 10] (cs := [.int .i64 z]) T.el101 T.sz3 T.zr3 ok ⟨rfl, trivial⟩) ?_
  rintro _ η1 ⟨pb1, rfl, ok, xe⟩
  refine .k 12 .func (wrong_any (d := d) (r := r) (n := n) (dsk_parts (ok.m1)).1 (a := some ⟨pb1, 0, none⟩) (c := 1) (l := [z]) (RdL.ofCapI ok.m0)) <| .w 7 .asI <| .nil ?_
  refine .seq <| .r <| .w 13 .mvI <| .w 14 .neq <| .nil ?_
  refine .cd (fun C0 => ?_) (fun C0 => ?_)
  · --
    refine .seq <| .r <| .w 15 .mvI <| .w 6 .asI <| .nil ?_
    refine .ret ⟨.int .i64 (wrongN r.abs n [z] : Int), Res.one rfl rfl, ⟨r, E, (by rw [trunc_w C0] <;> rfl), (by rw [trunc_w C0] <;> rfl), (ok.n1).k1.up fun _ h => .inl h⟩⟩
  have hw0 : wrongN r.abs n [z] = 0 := by omega
  obtain ⟨p, rfl⟩ : ∃ p : Nat, z = (p : Int) := ⟨z.toNat, by have := (wrongN_ok hw0).2.2.1 z (by simp); omega⟩
  have ok := (ok).tM
  refine .skip <| .seq <| .block fun K0 hK0 => .seq <| .r <| .w 17 .mvP <| .w 18 .mvT <| .c' 19 .func (there_any (d := d) (r := r) (n := n) (ok.m0)) ?_
  rintro _ _ ⟨(⟨hnotf1, rfl⟩ | ⟨tf1, hgtf1, hhtf1, rfl⟩), heq⟩
  · --
    obtain rfl := heq.symm
    refine .w 20 (.pEqN T.pt118) <| .w 16 .asB <| .nil ?_
    refine .ct <| .seq <| .r <| .w 6 .asI <| .nil ?_
    refine .ret ⟨.int .i64 4, Res.one rfl rfl, ⟨r, E, (by rw [trunc_n hw0 hnotf1] <;> rfl), (by rw [trunc_n hw0 hnotf1] <;> rfl), (ok).k1.up fun _ h => .inl h⟩⟩
  obtain rfl := heq.symm
  refine .w 20 (.pEqS T.pt118) <| .w 16 .asB <| .nil ?_
  refine .cf <| .seq <| .r <| .w 22 .mvI <| .w 23 .gtr <| .w 21 .asB <| .nil ?_
  refine .cd (fun C2 => ?_) (fun C2 => ?_)
  · --
    refine .seq <| .r <| .w 6 .asI <| .nil ?_
    refine .ret ⟨.int .i64 5, Res.one rfl rfl, ⟨r, E, (by rw [trunc_f hw0 (by rw [there_f hgtf1]; exact hhtf1) C2] <;> rfl), (by rw [trunc_f hw0 (by rw [there_f hgtf1]; exact hhtf1) C2] <;> rfl), (ok).k1.up fun _ h => .inl h⟩⟩
  refine .skip <| .end <| hK0 _ _ <| .seq <| .r <| .w 24 .mvP <| .w 25 .mvT <| .w 26 .mvI <| .w 27 (.bd #[.int .i64 1, .int .i64 (p : Int), .slice none 0 0] T.zr117 T.pl117 rfl) <| .c' 28 .func (do_any (d := d) (r := r) (E := E) (n := n) (kind := 1) (pos := p) (ba := none) (bc := 0) (bl := ([] : List UInt8)) (ok).loc1 hk hcg (RdL.nil _ _ _) ⟨by simp, by simp only [List.length_nil]; omega⟩) ?_
  rintro _ η2 ⟨rdk1, Edk1, rfl, hadk1, updk1⟩
  have hszdk1 := ok.chg.size
  have ok := (ok).dsk (d := d) (r := r) updk1
  refine .w 6 .asI <| .nil ?_
  refine .ret ⟨.int .i64 ((doN r.abs n ⟨1, p, ([] : List UInt8)⟩).2 : Int), Res.one rfl rfl, ⟨rdk1, Edk1, (by rw [trunc_d hw0 (by rw [there_f hgtf1]; exact hhtf1) C2] <;> rfl), (by rw [trunc_d hw0 (by rw [there_f hgtf1]; exact hhtf1) C2]; exact hadk1), (ok).k1.up fun j hj => (updk1.new j hj).elim .inl fun h => .inr (Nat.le_trans hszdk1 h)⟩⟩

set_option maxRecDepth 100000 in
set_option maxHeartbeats 2000000 in
theorem remove_any {h : Heap} {d : Nat} {r : RD} {E : Nat → Prop} {n : List UInt8} (ok : Hp h (dskI d r).F [dskI d r] [bysI E r.fs] h) (hk : DkOk r.abs) (hcg : r.chg < 1000000000) :
    HC Try.prog 76 #[.pointer (some ⟨d, 0, none⟩), .string (BA n)] h (fun v h' => ∃ r' E', v = .int .i64 ((removeN r.abs n).2 : Int) ∧ r'.abs = (removeN r.abs n).1 ∧ DUp h h' d r r' E E') := by
  refine HC.go Try.func76 20 ?_
  refine .seq <| .r <| .w 4 .asI <| .nil ?_
  refine .seq <| .seq <| .r <| .w 6 .mvP <| .w 7 .mvT <| .k 8 .func (wrong_any (d := d) (r := r) (n := n) (dsk_parts (ok.m0)).1 (a := none) (c := 0) (l := ([] : List Int)) (RdL.nil _ none_ none_)) <| .w 5 .asI <| .nil ?_
  refine .seq <| .r <| .w 9 .mvI <| .w 10 .neq <| .nil ?_
  refine .cd (fun C0 => ?_) (fun C0 => ?_)
  · --
    refine .seq <| .r <| .w 11 .mvI <| .w 4 .asI <| .nil ?_
    refine .ret ⟨.int .i64 (wrongN r.abs n ([] : List Int) : Int), Res.one rfl rfl, ⟨r, E, (by rw [rem_w C0] <;> rfl), (by rw [rem_w C0] <;> rfl), (ok).k1.up fun _ h => .inl h⟩⟩
  have hw0 : wrongN r.abs n [] = 0 := by omega
  refine .skip <| .seq <| .seq <| .r <| .w 12 .mvP <| .w 13 .mvT <| .c' 14 .func (there_any (d := d) (r := r) (n := n) (ok.m0)) ?_
  rintro _ _ ⟨(⟨hnotf1, rfl⟩ | ⟨tf1, hgtf1, hhtf1, rfl⟩), heq⟩
  · --
    obtain rfl := heq.symm
    refine .w 15 (.pEqN T.pt118) <| .nil ?_
    refine .ct <| .seq <| .r <| .w 4 .asI <| .nil ?_
    refine .ret ⟨.int .i64 4, Res.one rfl rfl, ⟨r, E, (by rw [rem_n hw0 hnotf1] <;> rfl), (by rw [rem_n hw0 hnotf1] <;> rfl), (ok).k1.up fun _ h => .inl h⟩⟩
  obtain rfl := heq.symm
  refine .w 15 (.pEqS T.pt118) <| .nil ?_
  refine .cf <| .skip <| .seq <| .r <| .w 16 .mvP <| .w 17 .mvT <| .w 18 (.bd #[.int .i64 2, .int .i64 0, .slice none 0 0] T.zr117 T.pl117 rfl) <| .c' 19 .func (do_any (d := d) (r := r) (E := E) (n := n) (kind := 2) (pos := 0) (ba := none) (bc := 0) (bl := ([] : List UInt8)) (ok).loc1 hk hcg (RdL.nil _ _ _) ⟨by simp, by simp⟩) ?_
  rintro _ η1 ⟨rdk1, Edk1, rfl, hadk1, updk1⟩
  have hszdk1 := ok.chg.size
  have ok := (ok).dsk (d := d) (r := r) updk1
  refine .w 4 .asI <| .nil ?_
  refine .ret ⟨.int .i64 ((doN r.abs n ⟨2, 0, ([] : List UInt8)⟩).2 : Int), Res.one rfl rfl, ⟨rdk1, Edk1, (by rw [rem_d hw0 (by rw [there_f hgtf1]; exact hhtf1)] <;> rfl), (by rw [rem_d hw0 (by rw [there_f hgtf1]; exact hhtf1)]; exact hadk1), (ok).k1.up fun j hj => (updk1.new j hj).elim .inl fun h => .inr (Nat.le_trans hszdk1 h)⟩⟩

set_option maxRecDepth 100000 in
set_option maxHeartbeats 2000000 in
theorem sync_any {h : Heap} {d : Nat} {r : RD} {E : Nat → Prop} {n : List UInt8} (ok : Hp h (dskI d r).F [dskI d r] [bysI E r.fs] h) (hk : DkOk r.abs) (hcg : r.chg < 1000000000) :
    HC Try.prog 37 #[.pointer (some ⟨d, 0, none⟩), .string (BA n)] h (fun v h' => ∃ r' E', v = .int .i64 ((syncN r.abs n).2 : Int) ∧ r'.abs = (syncN r.abs n).1 ∧ DUp h h' d r r' E E') := by
  refine HC.go Try.func37 46 ?_
  refine .seq <| .r <| .w 4 .asI <| .nil ?_
  refine .seq <| .seq <| .r <| .w 8 .mvP <| .w 9 .mvT <| .k 10 .func (wrong_any (d := d) (r := r) (n := n) (dsk_parts (ok.m0)).1 (a := none) (c := 0) (l := ([] : List Int)) (RdL.nil _ none_ none_)) <| .w 5 .asI <| .nil ?_
  refine .seq <| .r <| .w 11 .mvI <| .w 12 .neq <| .nil ?_
  refine .cd (fun C0 => ?_) (fun C0 => ?_)
  · --
    refine .seq <| .r <| .w 13 .mvI <| .w 4 .asI <| .nil ?_
    refine .ret ⟨.int .i64 (wrongN r.abs n ([] : List Int) : Int), Res.one rfl rfl, ⟨r, E, (by rw [sync_w C0] <;> rfl), (by rw [sync_w C0] <;> rfl), (ok).k1.up fun _ h => .inl h⟩⟩
  have hw0 : wrongN r.abs n [] = 0 := by omega
  refine .skip <| .seq <| ?_
  obtain ⟨hd1, hd2, hd3, hd4⟩ := dsk_parts (ok.m0)
  refine .r <| .w 14 .mvP <| .w 15 .nil <| .w 16 (.fa T.fd113_0) <| .w 17 (.ldx T.ag111 hd1) <| .w 18 .mvT <| .w 19 (.lk KV.ba n (v := .pointer (ptrN (bget r.fs n))) T.mp111 (stB_iff T.st9) T.zr118 hd2 (by exact ents_getD)) <| .w 6 .asP <| .nil ?_
  refine .seq <| .seq <| .r <| .w 20 .mvP <| .w 21 (.pEq T.pt118) <| .w 22 .mvB <| .spl (fun G22 => ?_) (fun G22 => ?_)
  ·
    refine .x 23 <| .x 24 <| .x 25 <| .x 26 <| .x 27 <| .x 28 <| .x 29 <| .x 30 <| .x 31 <| .x 32 <| .x 33 <| .x 34 <| .x 35 <| .w 36 .pkt <| .nil ?_
    refine .ct <| .seq <| .r <| .w 4 .asI <| .nil ?_
    refine .ret ⟨.int .i64 4, Res.one rfl rfl, ⟨r, E, (by rw [sync_n hw0 (by simp only [RD.abs]; cases hb : bget r.fs n with | none => rfl | some x => (rw [hb] at G22; simp [ptrN] at G22))] <;> rfl), (by rw [sync_n hw0 (by simp only [RD.abs]; cases hb : bget r.fs n with | none => rfl | some x => (rw [hb] at G22; simp [ptrN] at G22))] <;> rfl), (ok).k1.up fun _ h => .inl h⟩⟩
  obtain ⟨f, hg⟩ : ∃ f0, bget r.fs n = some f0 := by (cases hb : bget r.fs n with | none => (rw [hb] at G22; simp [ptrN] at G22) | some x => exact ⟨x, rfl⟩)
  rw [hg]
  simp only [ptrN, Option.map_some]
  have hfb := hd4 n f hg
  refine .w 23 .mvP <| .w 24 .nil <| .w 25 (.fa T.fd122_2) <| .w 26 (.ldx T.ag4 hfb) <| .w 27 .not <| .w 28 .mvB <| .spl (fun G28 => ?_) (fun G28 => ?_)
  ·
    refine .w 29 .mvP <| .w 30 .nil <| .w 31 (.fa T.fd122_4) <| .w 32 (.ldx T.ag120 hfb) <| .w 33 (.len T.el120) <| .w 34 .eql <| .w 35 .pkt <| .w 36 .pkf <| .nil ?_
    refine .cd (fun C1 => ?_) (fun C1 => ?_)
    · --
      refine .seq <| .r <| .w 4 .asI <| .nil ?_
      refine .ret ⟨.int .i64 4, Res.one rfl rfl, ⟨r, E, (by rw [sync_0 hw0 (show r.abs.fs n = some f.abs by simp [RD.abs, hg]) ⟨by show f.here = false; simpa using G28, by have h2 : f.ol = [] := List.eq_nil_of_length_eq_zero (by omega); simp [RF.abs, h2]⟩] <;> rfl), (by rw [sync_0 hw0 (show r.abs.fs n = some f.abs by simp [RD.abs, hg]) ⟨by show f.here = false; simpa using G28, by have h2 : f.ol = [] := List.eq_nil_of_length_eq_zero (by omega); simp [RF.abs, h2]⟩] <;> rfl), (ok).k1.up fun _ h => .inl h⟩⟩
    have hne : ¬ (f.abs.here = false ∧ f.abs.opn = []) := by rintro ⟨_, h1⟩; exact absurd (show f.ol = [] by simpa [RF.abs] using h1) (fun h2 => C1 (by rw [h2]; rfl))
    refine .skip <| .seq <| .seq <| .r <| .w 37 .mvP <| .c' 38 .func (power_any (ok).loc0 hk hcg) ?_
    rintro _ η1 ⟨rfl, q⟩
    have ok := (ok).lift1 q
    refine .w 7 .asI <| .nil ?_
    refine .seq <| .r <| .w 39 .mvI <| .w 40 .neq <| .nil ?_
    refine .cd (fun C2 => ?_) (fun C2 => ?_)
    · --
      have hp0 : r.left = 0 := by by_cases h : r.left = 0; exact h; exact absurd (by rw [powerR_1 h]; rfl) C2
      refine .seq <| .r <| .w 41 .mvI <| .w 4 .asI <| .nil ?_
      refine .ret ⟨.int .i64 ((powerR r).2 : Int), Res.one rfl rfl, ⟨(powerR r).1, E, (by rw [sync_p hw0 (show r.abs.fs n = some f.abs by simp [RD.abs, hg]) hne hp0, (powerR_abs r).2]), (by rw [sync_p hw0 (show r.abs.fs n = some f.abs by simp [RD.abs, hg]) hne hp0, (powerR_abs r).1]), (by rw [powerR_fs]; exact ok.k1 : Hp _ _ [dskI d (powerR r).1] [bysI E (powerR r).1.fs] _).up fun _ h => .inl h⟩⟩
    have hpl : ¬ r.left = 0 := fun h => by rw [powerR_0 h] at C2; exact C2 (by simp)
    have ok := ok
    rw [powerR_1 hpl] at ok
    refine .skip <| .seq <| .r <| .w 42 .mvP <| .w 43 .mvT <| .w 44 .mvP <| .c' 45 .func (settle_any (d := d) (r := ⟨r.m, r.fs, r.dark, lfR r, r.chg + 1⟩) (E := E) (f := f) (ok).loc1 hg) ?_
    rintro _ η2 ⟨rfl, q⟩
    have ok := (ok).dsk (d := d) (r := ⟨r.m, r.fs, r.dark, lfR r, r.chg + 1⟩) (r' := (settleR ⟨r.m, r.fs, r.dark, lfR r, r.chg + 1⟩ n f)) (E' := E) ⟨q, fun _ h => .inl h⟩
    refine .nil ?_
    refine .seq <| .r <| .w 4 .asI <| .nil ?_
    refine .ret ⟨.int .i64 0, Res.one rfl rfl, ⟨settleR ⟨r.m, r.fs, r.dark, lfR r, r.chg + 1⟩ n f, E, (by rw [sync_d hw0 (show r.abs.fs n = some f.abs by simp [RD.abs, hg]) hne (by exact hpl)]; rfl), (by rw [sync_d hw0 (show r.abs.fs n = some f.abs by simp [RD.abs, hg]) hne (by exact hpl), settleR_abs]; rfl), ok.k1.up fun _ h => .inl h⟩⟩
  have hne : ¬ (f.abs.here = false ∧ f.abs.opn = []) := by rintro ⟨h1, _⟩; have h2 : f.here = false := h1; rw [h2] at G28; cases G28
  refine .x 29 <| .x 30 <| .x 31 <| .x 32 <| .x 33 <| .x 34 <| .w 35 .pkf <| .w 36 .pkf <| .nil ?_
  refine .cf <| .skip <| .seq <| .seq <| .r <| .w 37 .mvP <| .c' 38 .func (power_any (ok).loc0 hk hcg) ?_
  rintro _ η3 ⟨rfl, q⟩
  have ok := (ok).lift1 q
  refine .w 7 .asI <| .nil ?_
  refine .seq <| .r <| .w 39 .mvI <| .w 40 .neq <| .nil ?_
  refine .cd (fun C2 => ?_) (fun C2 => ?_)
  · --
    have hp0 : r.left = 0 := by by_cases h : r.left = 0; exact h; exact absurd (by rw [powerR_1 h]; rfl) C2
    refine .seq <| .r <| .w 41 .mvI <| .w 4 .asI <| .nil ?_
    refine .ret ⟨.int .i64 ((powerR r).2 : Int), Res.one rfl rfl, ⟨(powerR r).1, E, (by rw [sync_p hw0 (show r.abs.fs n = some f.abs by simp [RD.abs, hg]) hne hp0, (powerR_abs r).2]), (by rw [sync_p hw0 (show r.abs.fs n = some f.abs by simp [RD.abs, hg]) hne hp0, (powerR_abs r).1]), (by rw [powerR_fs]; exact ok.k1 : Hp _ _ [dskI d (powerR r).1] [bysI E (powerR r).1.fs] _).up fun _ h => .inl h⟩⟩
  have hpl : ¬ r.left = 0 := fun h => by rw [powerR_0 h] at C2; exact C2 (by simp)
  have ok := ok
  rw [powerR_1 hpl] at ok
  refine .skip <| .seq <| .r <| .w 42 .mvP <| .w 43 .mvT <| .w 44 .mvP <| .c' 45 .func (settle_any (d := d) (r := ⟨r.m, r.fs, r.dark, lfR r, r.chg + 1⟩) (E := E) (f := f) (ok).loc1 hg) ?_
  rintro _ η4 ⟨rfl, q⟩
  have ok := (ok).dsk (d := d) (r := ⟨r.m, r.fs, r.dark, lfR r, r.chg + 1⟩) (r' := (settleR ⟨r.m, r.fs, r.dark, lfR r, r.chg + 1⟩ n f)) (E' := E) ⟨q, fun _ h => .inl h⟩
  refine .nil ?_
  refine .seq <| .r <| .w 4 .asI <| .nil ?_
  refine .ret ⟨.int .i64 0, Res.one rfl rfl, ⟨settleR ⟨r.m, r.fs, r.dark, lfR r, r.chg + 1⟩ n f, E, (by rw [sync_d hw0 (show r.abs.fs n = some f.abs by simp [RD.abs, hg]) hne (by exact hpl)]; rfl), (by rw [sync_d hw0 (show r.abs.fs n = some f.abs by simp [RD.abs, hg]) hne (by exact hpl), settleR_abs]; rfl), ok.k1.up fun _ h => .inl h⟩⟩

end Go.Proofs.Ytpebbkhainpfaaa

namespace Go.HL
open Go Go.Proofs.Ytpebbkhainpfaaa
theorem Hp.addE {h0 h h' : Heap} {D : Nat → Prop} {M R : List Itm} {a b : Itm} (ok : Hp h0 D M R h) (q : Hp h none_ [a] [b] h') (hb : ∀ j, b.F j → (∃ i ∈ R, i.F j) ∨ h.size ≤ j) : Hp h0 D (a :: M) (b :: R) h' := by
  have o := ok.newM (it := a) q.chg q.m0 fun j hj => by
    have h1 := (q.m _ List.mem_cons_self).2 j hj
    exact ⟨h1.2.elim (fun f => f.elim) id, h1.1⟩
  refine ⟨o.chg, o.m, fun i hi => ?_, o.mm, fun x hx y hy j hj hj2 => ?_⟩
  · rcases List.mem_cons.1 hi with rfl | hi
    · exact q.r _ List.mem_cons_self
    · exact o.r i hi
  · rcases List.mem_cons.1 hy with rfl | hy
    · rcases List.mem_cons.1 hx with rfl | hx
      · exact q.mr _ List.mem_cons_self _ List.mem_cons_self j hj hj2
      · rcases hb j hj2 with ⟨i, hi, h1⟩ | h1
        · exact ok.mr x hx i hi j hj h1
        · have := ((ok.m x hx).2 j hj).1
          omega
    · exact o.mr x hx y hy j hj hj2
end Go.HL
namespace Go.Proofs.Ytpebbkhainpfaaa
open Go Go.HL
theorem take_min {α : Type} (l : List α) (q : Nat) : l.take (min q l.length) = l.take q := by
  rw [List.take_eq_take_iff]; omega
theorem size_0 {r : RD} {n : List UInt8} (h : r.dark = true ∨ thereN r.abs n = false) : sizeN r.abs n = (0, false) := by unfold sizeN; rw [if_pos (by exact h)]
theorem size_1 {r : RD} {n : List UInt8} {f : RF} (h : ¬ r.dark = true) (hg : bget r.fs n = some f) (hh : f.here = true) : sizeN r.abs n = (f.nl.length, true) := by
  unfold sizeN; rw [if_neg]
  · simp [RD.abs, hg, RF.abs]
  · rintro (h1 | h1)
    · exact h h1
    · rw [there_f hg, hh] at h1; cases h1
theorem read_w {d : Dk} {n : List UInt8} {y z : Int} (h : ¬ (wrongN d n [y, z] : Int) = 0) : readN d n y z = ([], wrongN d n [y, z]) := by unfold readN; rw [if_pos (by omega)]
theorem read_n {r : RD} {n : List UInt8} {y z : Int} (h : wrongN r.abs n [y, z] = 0) (h1 : thereN r.abs n = false) : readN r.abs n y z = ([], 4) := by
  unfold readN thereN at *
  rw [if_neg (by omega)]
  cases hf : r.abs.fs n with
  | none => rfl
  | some f => rw [hf] at h1; simp only at h1 ⊢; rw [if_pos h1]
theorem read_f {r : RD} {n : List UInt8} {p q : Nat} {f : RF} (h : wrongN r.abs n [(p : Int), (q : Int)] = 0) (hg : bget r.fs n = some f) (hh : f.here = true) : readN r.abs n p q = ((f.nl.drop p).take q, 0) := by
  unfold readN
  rw [if_neg (by omega)]
  simp only [RD.abs, hg, Option.map_some]
  rw [if_neg (by show ¬ f.here = false; rw [hh]; decide)]
  rfl
def cutR (r : RD) (z : Int) : RD := if r.dark = true then r else ⟨r.m, r.fs, r.dark, max z (-1), r.chg⟩
theorem cutR_abs {r : RD} {z : Int} : (cutR r z).abs = cutN r.abs z := by
  unfold cutR cutN
  by_cases h : r.dark = true
  · rw [if_pos h, if_pos (by exact h)]
  · rw [if_neg h, if_neg (by exact h)]; rfl
theorem cutR_fs {r : RD} {z : Int} : (cutR r z).fs = r.fs := by unfold cutR; split <;> rfl
theorem flsNil {h0 h : Heap} {D : Nat → Prop} {M R : List Itm} (ok : Hp h0 D M R h) : Hp h0 D (flsI [] :: M) R h := Hp.star (l := []) ok

set_option maxRecDepth 100000 in
set_option maxHeartbeats 2000000 in
theorem size_anyD {h : Heap} {d : Nat} {r : RD} (hd : (dskI d r).p h) {n : List UInt8} :
    HC Try.prog 31 #[.pointer (some ⟨d, 0, none⟩), .string (BA n)] h (fun v h' => v = .tuple #[.int .i64 ((sizeN r.abs n).1 : Int), .bool (sizeN r.abs n).2] ∧ h' = h) := by
  obtain ⟨hd1, hd2, hd3, hd4⟩ := dsk_parts hd
  refine HC.go Try.func31 30 ?_
  refine .seq <| .r <| .w 4 .asI <| .w 5 .asB <| .nil ?_
  refine .seq <| .seq <| .r <| .w 6 .mvP <| .w 7 (.pEqS T.pt57) <| .w 8 .mvB <| .w 9 .mvP <| .w 10 .nil <| .w 11 (.fa T.fd113_1) <| .w 12 (.ldx T.ag4 hd1) <| .w 13 .pkf <| .w 14 .mvB <| .spl (fun G14 => ?_) (fun G14 => ?_)
  ·
    refine .x 15 <| .x 16 <| .x 17 <| .x 18 <| .w 19 .pkt <| .nil ?_
    refine .ct <| .seq <| .r <| .w 4 .asI <| .w 5 .asB <| .nil ?_
    refine .ret ⟨.tuple #[.int .i64 0, .bool false], Res.two rfl rfl rfl, ⟨by first | rw [size_0 (.inl (by assumption))]; rfl | rw [size_0 (.inr hnotf1)]; rfl, rfl⟩⟩
  refine .w 15 .mvP <| .w 16 .mvT <| .c' 17 .func (there_any (d := d) (r := r) (n := n) hd) ?_
  rintro _ _ ⟨(⟨hnotf1, rfl⟩ | ⟨tf1, hgtf1, hhtf1, rfl⟩), heq⟩
  · --
    obtain rfl := heq.symm
    refine .w 18 (.pEqN T.pt118) <| .w 19 .pkf <| .nil ?_
    refine .ct <| .seq <| .r <| .w 4 .asI <| .w 5 .asB <| .nil ?_
    refine .ret ⟨.tuple #[.int .i64 0, .bool false], Res.two rfl rfl rfl, ⟨by first | rw [size_0 (.inl (by assumption))]; rfl | rw [size_0 (.inr hnotf1)]; rfl, rfl⟩⟩
  obtain rfl := heq.symm
  refine .w 18 (.pEqS T.pt118) <| .w 19 .pkf <| .nil ?_
  refine .cf <| .skip <| .seq <| ?_
  have hfb := hd4 n tf1 hgtf1
  refine .r <| .w 20 .mvP <| .w 21 .nil <| .w 22 (.fa T.fd113_0) <| .w 23 (.ldx T.ag111 hd1) <| .w 24 .mvT <| .w 25 (.lk KV.ba n (v := .pointer (some ⟨tf1.blk, 0, none⟩)) T.mp111 (stB_iff T.st9) T.zr118 hd2 (by rw [ents_get, hgtf1]; rfl)) <| .w 26 .nil <| .w 27 (.fa T.fd122_0) <| .w 28 (.ldx T.ag22 hfb) <| .w 29 (.len T.el22) <| .w 4 .asI <| .w 5 .asB <| .nil ?_
  refine .ret ⟨.tuple #[.int .i64 (tf1.nl.length : Int), .bool true], Res.two rfl rfl rfl, ⟨by rw [size_1 (by intro h9; simp [h9] at *) hgtf1 hhtf1], rfl⟩⟩

set_option maxRecDepth 100000 in
set_option maxHeartbeats 2000000 in
theorem read_anyD {h : Heap} {d : Nat} {r : RD} {E : Nat → Prop} {n : List UInt8} {y z : Int} (ok : Hp h none_ [] [dskI d r, bysI E r.fs] h) (hk : DkOk r.abs) (hy : -9223372036854775808 ≤ y ∧ y ≤ 9223372036854775807) (hz : -9223372036854775808 ≤ z ∧ z ≤ 9223372036854775807) :
    HC Try.prog 45 #[.pointer (some ⟨d, 0, none⟩), .string (BA n), .int .i64 y, .int .i64 z] h (fun v h' => ∃ w, v = .tuple #[w, .int .i64 ((readN r.abs n y z).2 : Int)] ∧ Own h h' 1 5 w ((readN r.abs n y z).1.map bv)) := by
  refine HC.go Try.func45 53 ?_
  refine .seq <| .r <| .w 8 .asS <| .w 9 .asI <| .nil ?_
  refine .seq <| .seq <| .r <| .w 12 .mvP <| .w 13 .mvT <| .w 14 .mvI <| .w 15 .mvI <| .a' 16 (.lit [.tmp 14, .tmp 15] (cs := [.int .i64 y, .int .i64 z]) T.el101 T.sz3 T.zr3 ok ⟨rfl, rfl, trivial⟩) ?_
  rintro _ η1 ⟨pb1, rfl, ok, xe⟩
  refine .k 17 .func (wrong_any (d := d) (r := r) (n := n) (dsk_parts (ok.r0)).1 (a := some ⟨pb1, 0, none⟩) (c := 2) (l := [y, z]) (RdL.ofCapI ok.m0)) <| .w 10 .asI <| .nil ?_
  refine .seq <| .r <| .w 18 .mvI <| .w 19 .neq <| .nil ?_
  refine .cd (fun C0 => ?_) (fun C0 => ?_)
  · --
    refine .seq <| .r <| .w 20 .mvI <| .w 8 .asS <| .w 9 .asI <| .nil ?_
    refine .ret ⟨.tuple #[.slice none 0 0, .int .i64 (wrongN r.abs n [y, z] : Int)], Res.two rfl rfl rfl, ⟨_, (by rw [read_w C0] <;> rfl), by rw [read_w C0]; exact (ok.nilC (k := 1) (e := 5)).toOwn⟩⟩
  have hw0 : wrongN r.abs n [y, z] = 0 := by omega
  obtain ⟨p, rfl⟩ : ∃ p : Nat, y = (p : Int) := ⟨y.toNat, by have := (wrongN_ok hw0).2.2.1 y (by simp); omega⟩
  obtain ⟨q, rfl⟩ : ∃ q : Nat, z = (q : Int) := ⟨z.toNat, by have := (wrongN_ok hw0).2.2.1 z (by simp); omega⟩
  have ok := (ok).tM
  refine .skip <| .seq <| .r <| .w 21 .mvP <| .w 22 .mvT <| .c' 23 .func (there_any (d := d) (r := r) (n := n) (ok.r0)) ?_
  rintro _ _ ⟨(⟨hnotf1, rfl⟩ | ⟨tf1, hgtf1, hhtf1, rfl⟩), heq⟩
  · --
    obtain rfl := heq.symm
    refine .w 11 .asP <| .nil ?_
    refine .seq <| .block fun K0 hK0 => .seq <| .r <| .w 25 .mvP <| .w 26 (.pEqN T.pt118) <| .w 24 .asB <| .nil ?_
    refine .ct <| .seq <| .r <| .w 8 .asS <| .w 9 .asI <| .nil ?_
    refine .ret ⟨.tuple #[.slice none 0 0, .int .i64 4], Res.two rfl rfl rfl, ⟨_, (by rw [read_n hw0 hnotf1] <;> rfl), by rw [read_n hw0 hnotf1]; exact (ok.nilC (k := 1) (e := 5)).toOwn⟩⟩
  obtain rfl := heq.symm
  refine .w 11 .asP <| .nil ?_
  refine .seq <| .block fun K0 hK0 => .seq <| ?_
  obtain ⟨hd1, hd2, hd3, hd4⟩ := dsk_parts (ok.r0)
  have hfb := hd4 n tf1 hgtf1
  have hnl : tf1.nl.length ≤ 16777216 := (hk.fs n tf1.abs (by simp [RD.abs, hgtf1])).1.now
  have ok := ok.d1 (rdI E E (tf1.na, tf1.nl.length, tf1.nc) tf1.nl) (Bys.get ok.r1 hgtf1).now (fun _ h => h.elim id id)
  have hnc : tf1.nl.length ≤ tf1.nc := ok.r0.c
  refine .r <| .w 25 .mvP <| .w 26 (.pEqS T.pt118) <| .w 24 .asB <| .nil ?_
  refine .cf <| .seq <| .r <| .w 28 .mvI <| .w 29 .mvP <| .w 30 .nil <| .w 31 (.fa T.fd122_0) <| .w 32 (.ldx T.ag22 hfb) <| .w 33 (.len T.el22) <| .w 34 .geq <| .w 27 .asB <| .nil ?_
  refine .cd (fun C2 => ?_) (fun C2 => ?_)
  · --
    refine .seq <| .r <| .w 8 .asS <| .w 9 .asI <| .nil ?_
    refine .ret ⟨.tuple #[.slice none 0 0, .int .i64 0], Res.two rfl rfl rfl, ⟨_, (by rw [show readN r.abs n p q = ([], 0) from by rw [read_f hw0 hgtf1 hhtf1, List.drop_eq_nil_of_le (by omega), List.take_nil]] <;> rfl), by rw [show readN r.abs n p q = ([], 0) from by rw [read_f hw0 hgtf1 hhtf1, List.drop_eq_nil_of_le (by omega), List.take_nil]]; exact (ok.nilC (k := 1) (e := 5)).toOwn⟩⟩
  refine .skip <| .end <| hK0 _ _ <| .seq <| .t 17 mixed ?_
  simp only [List.take_succ_cons, List.take_zero, List.drop_succ_cons, List.drop_zero]
  refine .w 35 .mvP <| .w 36 .nil <| .w 37 (.fa T.fd122_0) <| .w 38 (.ldx T.ag22 hfb) <| .w 39 .mvI <| .w 40 .mvI <| .w 41 .mvI <| .w 42 .mvP <| .w 43 .nil <| .w 44 (.fa T.fd122_0) <| .w 45 (.ldx T.ag22 hfb) <| .w 46 (.len T.el22) <| .w 47 .mvI <| .w 48 .sub <| .w 49 .min2 <| .w 50 .add <| ?_
  rw [show ((p : Int) + (min (q : Int) ((tf1.nl.length : Int) - (p : Int)))) = (((p + min q (tf1.nl.length - p)) : Nat) : Int) from by omega]
  refine .w 51 (.slh p (p + min q (tf1.nl.length - p)) T.el22 T.sz5) <| ?_
  generalize hc1 : cutA tf1.na p tf1.nc 1 = ca1
  generalize hn1 : (p + min q (tf1.nl.length - p)) - p = cn1
  obtain rfl : cn1 = ((tf1.nl.drop p).take q).length := by rw [← hn1]; rw [List.length_take, List.length_drop]; omega
  have ok := ok.d0 (rdI E E (ca1, ((tf1.nl.drop p).take q).length, tf1.nc - p) ((tf1.nl.drop p).take q)) (by have h1 := ok.r0.cut (i := p) (j := (p + min q (tf1.nl.length - p))) (by omega) (by omega); rw [show ((tf1.nl).drop p).take ((p + min q (tf1.nl.length - p)) - p) = (tf1.nl.drop p).take q from by rw [Nat.add_sub_cancel_left, ← List.length_drop, take_min]] at h1; rw [← hc1, ← hn1]; exact h1) (fun _ h => h)
  refine .nil ?_
  refine .c' 52 .func (bclone_any (a := ca1) (c := tf1.nc - p) (l := (tf1.nl.drop p).take q) ok.r0 (by simp; omega)) ?_
  rintro _ η2 own
  obtain ⟨ya1, yc1, rfl⟩ := own.formB
  have ok := ok.own own
  refine .w 8 .asS <| .w 9 .asI <| .nil ?_
  refine .ret ⟨.tuple #[.slice ya1 (((tf1.nl.drop p).take q).length) yc1, .int .i64 0], Res.two rfl rfl rfl, ⟨_, (by rw [read_f hw0 hgtf1 hhtf1] <;> rfl), by rw [read_f hw0 hgtf1 hhtf1]; exact (ok).toOwn⟩⟩

set_option maxRecDepth 100000 in
set_option maxHeartbeats 2000000 in
theorem dark_any {h : Heap} {d : Nat} {r : RD} (hd : (dboxI d r).p h) :
    HC Try.prog 44 #[.pointer (some ⟨d, 0, none⟩)] h (fun v h' => v = .bool r.dark ∧ h' = h) := by
  have hd1 := hd
  refine HC.go Try.func44 11 ?_
  refine .seq <| .r <| .w 2 .asB <| .nil ?_
  refine .seq <| .r <| .w 3 .mvP <| .w 4 (.pNeS T.pt57) <| .w 5 .mvB <| .w 6 .mvP <| .w 7 .nil <| .w 8 (.fa T.fd113_1) <| .w 9 (.ldx T.ag4 hd1) <| .w 10 .pkt <| .w 2 .asB <| .nil ?_
  refine .ret ⟨.bool r.dark, Res.one rfl rfl, ⟨rfl, rfl⟩⟩

set_option maxRecDepth 100000 in
set_option maxHeartbeats 2000000 in
theorem changes_any {h : Heap} {d : Nat} {r : RD} (hd : (dboxI d r).p h) :
    HC Try.prog 33 #[.pointer (some ⟨d, 0, none⟩)] h (fun v h' => v = .int .i64 r.chg ∧ h' = h) := by
  have hd1 := hd
  refine HC.go Try.func33 9 ?_
  refine .seq <| .r <| .w 2 .asI <| .nil ?_
  refine .seq <| .seq <| .r <| .w 3 .mvP <| .w 4 (.pEqS T.pt57) <| .nil ?_
  refine .cf <| .skip <| .seq <| .r <| .w 5 .mvP <| .w 6 .nil <| .w 7 (.fa T.fd113_3) <| .w 8 (.ldx T.ag3 hd1) <| .w 2 .asI <| .nil ?_
  refine .ret ⟨.int .i64 r.chg, Res.one rfl rfl, ⟨rfl, rfl⟩⟩

set_option maxRecDepth 100000 in
set_option maxHeartbeats 2000000 in
theorem cut_any {h : Heap} {d : Nat} {r : RD} {z : Int} (ok : Hp h (dskI d r).F [dskI d r] [] h) :
    HC Try.prog 38 #[.pointer (some ⟨d, 0, none⟩), .int .i64 z] h (fun v h' => v = .tuple #[] ∧ Hp h (dskI d r).F [dskI d (cutR r z)] [] h') := by
  have ok := ok.dopn
  refine HC.go Try.func38 18 ?_
  refine .seq <| .r <| .w 4 .mvP <| .w 5 (.pNeS T.pt57) <| .w 6 .mvB <| .w 7 .mvP <| .w 8 .nil <| .w 9 (.fa T.fd113_1) <| .w 10 (.ldx T.ag4 ok.m0) <| .w 11 .not <| .w 12 .pkt <| .nil ?_
  refine .cond (fun C0 => ?_) (fun C0 => ?_)
  · --
    refine .r <| .w 13 .mvP <| .w 14 .mvI <| .w 15 .max2 <| .w 16 .nil <| .w 17 (.fa T.fd113_2) <| .ur' (.stI T.sz3 ok) ?_
    rintro η1 ⟨ok, cg⟩
    refine .nil ?_
    refine .end <| ⟨.tuple #[], Res.none rfl, (by unfold cutR; rw [if_neg (by intro h9; simp [h9] at *)]; exact ⟨rfl, Hp.dcls (r := ⟨r.m, r.fs, r.dark, max z (-1), r.chg⟩) ok⟩)⟩
  refine .skip <| .end <| ⟨.tuple #[], Res.none rfl, (by unfold cutR; rw [if_pos (by simp_all)]; exact ⟨rfl, Hp.dcls (r := r) ok⟩)⟩

set_option maxRecDepth 100000 in
set_option maxHeartbeats 2000000 in
theorem new_any {h : Heap} :
    HC Try.prog 28 #[] h (fun v h' => ∃ d r, v = .pointer (some ⟨d, 0, none⟩) ∧ r.abs = newN ∧ Hp h none_ [dskI d r] [bysI none_ r.fs] h') := by
  have ok := Hp.nil h none_
  refine HC.go Try.func28 4 ?_
  refine .seq <| .r <| .w 0 .asP <| .nil ?_
  refine .seq <| .r <| .a' 1 (.mkm kvB ok) ?_
  rintro _ η1 ⟨mb1, rfl, ok⟩
  refine .w 2 (.bd #[.map (some mb1), .bool false, .int .i64 (-1), .int .i64 0] T.zr113 T.pl113 rfl) <| .a' 3 (.bxA (cs := [.map (some mb1), .bool false, .int .i64 (-1), .int .i64 0]) ok) ?_
  rintro _ η2 ⟨pb1, rfl, ok, xe⟩
  refine .w 0 .asP <| .nil ?_
  refine .ret ⟨.pointer (some ⟨pb1, 0, none⟩), Res.one rfl rfl, ⟨pb1, ⟨mb1, [], false, -1, 0⟩, rfl, rfl, ((Hp.dcls (r := ⟨mb1, [], false, -1, 0⟩) (flsNil ok).n2.n2).dE (bysI none_ []) (fun _ h => by cases h) (fun _ f => f))⟩⟩

set_option maxRecDepth 100000 in
set_option maxHeartbeats 2000000 in
theorem writeNil_any {h : Heap} {n : List UInt8} {z : Int} {v : Value} :
    HC Try.prog 29 #[.pointer none, .string (BA n), .int .i64 z, v] h (fun v h' => v = .int .i64 2 ∧ Ext h h') := by
  have ok := Hp.nil h none_
  refine HC.go Try.func29 34 ?_
  refine .seq <| .r <| .w 8 .asI <| .nil ?_
  refine .seq <| .seq <| .r <| .w 10 .mvP <| .w 11 .mvT <| .w 12 .mvI <| .a' 13 (.lit [.tmp 12] (cs := [.int .i64 z]) T.el101 T.sz3 T.zr3 ok ⟨rfl, trivial⟩) ?_
  rintro _ η1 ⟨pb1, rfl, ok, xe⟩
  refine .k 14 .func (wrongNil_any (n := n) (v := .slice (some ⟨pb1, 0, none⟩) 1 1)) <| .w 9 .asI <| .nil ?_
  refine .seq <| .r <| .w 15 .mvI <| .w 16 .neq <| .nil ?_
  refine .ct <| .seq <| .r <| .w 17 .mvI <| .w 8 .asI <| .nil ?_
  refine .ret ⟨.int .i64 2, Res.one rfl rfl, ⟨rfl, ok.chg⟩⟩

set_option maxRecDepth 100000 in
set_option maxHeartbeats 2000000 in
theorem filesNil_any {h : Heap} :
    HC Try.prog 43 #[.pointer none] h (fun v h' => v = .slice none 0 0 ∧ Ext h h') := by
  have ok := Hp.nil h none_
  refine HC.go Try.func43 15 ?_
  refine .seq <| .r <| .a' 1 (.bxP ok) ?_
  rintro _ η1 ⟨pb1, rfl, ok, xe⟩
  refine .w 2 .asS <| .nil ?_
  refine .seq <| .seq <| .r <| .w 3 (.ldx T.ag57 ok.m0) <| .w 4 (.pEqN T.pt57) <| .w 5 .mvB <| .x 6 <| .x 7 <| .x 8 <| .x 9 <| .w 10 .pkt <| .nil ?_
  refine .ct <| .seq <| .r <| .w 2 .asS <| .nil ?_
  refine .ret ⟨.slice none 0 0, Res.one rfl rfl, ⟨rfl, ok.chg⟩⟩

set_option maxRecDepth 100000 in
set_option maxHeartbeats 2000000 in
theorem copyNil_any {h : Heap} :
    HC Try.prog 36 #[.pointer none] h (fun v h' => v = .pointer none ∧ h' = h) := by
  refine HC.go Try.func36 48 ?_
  refine .seq <| .r <| .w 2 .asP <| .nil ?_
  refine .seq <| .seq <| .r <| .w 7 .mvP <| .w 8 (.pEqN T.pt57) <| .nil ?_
  refine .ct <| .seq <| .r <| .w 2 .asP <| .nil ?_
  refine .ret ⟨.pointer none, Res.one rfl rfl, ⟨rfl, rfl⟩⟩

set_option maxRecDepth 100000 in
set_option maxHeartbeats 2000000 in
theorem darkNil_any {h : Heap} :
    HC Try.prog 44 #[.pointer none] h (fun v h' => v = .bool false ∧ h' = h) := by
  refine HC.go Try.func44 11 ?_
  refine .seq <| .r <| .w 2 .asB <| .nil ?_
  refine .seq <| .r <| .w 3 .mvP <| .w 4 (.pNeN T.pt57) <| .w 5 .mvB <| .x 6 <| .x 7 <| .x 8 <| .x 9 <| .w 10 .pkf <| .w 2 .asB <| .nil ?_
  refine .ret ⟨.bool false, Res.one rfl rfl, ⟨rfl, rfl⟩⟩

set_option maxRecDepth 100000 in
set_option maxHeartbeats 2000000 in
theorem changesNil_any {h : Heap} :
    HC Try.prog 33 #[.pointer none] h (fun v h' => v = .int .i64 0 ∧ h' = h) := by
  refine HC.go Try.func33 9 ?_
  refine .seq <| .r <| .w 2 .asI <| .nil ?_
  refine .seq <| .seq <| .r <| .w 3 .mvP <| .w 4 (.pEqN T.pt57) <| .nil ?_
  refine .ct <| .seq <| .r <| .w 2 .asI <| .nil ?_
  refine .ret ⟨.int .i64 0, Res.one rfl rfl, ⟨rfl, rfl⟩⟩

end Go.Proofs.Ytpebbkhainpfaaa

namespace Go.Proofs
open Go.Shelf
def Try.keysB_ren : Go.Shelf.Ren := ⟨fun | 7 => 108 | 10 => 120 | n => n, fun | 23 => 111 | 26 => 9 | 3 => 118 | 28 => 160 | 0 => 0 | 27 => 159 | 33 => 137 | 4 => 4 | n => n, fun | n => n⟩
theorem Try.keysB : Go.Proofs.SlLaysZ.n7 Try.prog Try.keysB_ren := {
  mixed := by kernel_rfl
  f7 := ⟨Try.f108.name, by decide, Try.func108.trans (congrArg some (by kernel_rfl))⟩
  f10 := ⟨Try.f120.name, by decide, Try.func120.trans (congrArg some (by kernel_rfl))⟩
  t0 := Try.underlying0
  a0 := Try.isAgg0
  z0 := Try.sizeOf0
  v0 := Try.zeroValue0
  t4 := Try.underlying4
  a4 := Try.isAgg4
  z4 := Try.sizeOf4
  v4 := Try.zeroValue4
  t23 := Try.underlying111
  a23 := Try.isAgg111
  z23 := Try.sizeOf111
  v23 := Try.zeroValue111
  t26 := Try.underlying9
  a26 := Try.isAgg9
  z26 := Try.sizeOf9
  v26 := Try.zeroValue9
  t27 := Try.underlying159
  a27 := Try.isAgg159
  z27 := Try.sizeOf159
  v27 := Try.zeroValue159
  t28 := Try.underlying160
  a28 := Try.isAgg160
  z28 := Try.sizeOf160
  v28 := Try.zeroValue160
  t33 := Try.underlying137
  a33 := Try.isAgg137
  z33 := Try.sizeOf137
  v33 := Try.zeroValue137 }
def Try.sortedB_ren : Go.Shelf.Ren := ⟨fun | 6 => 107 | 8 => 118 | 9 => 119 | 11 => 133 | 13 => 114 | 12 => 134 | 23 => 130 | 24 => 131 | 14 => 141 | 15 => 142 | 16 => 143 | 17 => 144 | 18 => 145 | 19 => 146 | 20 => 147 | 21 => 148 | 22 => 149 | 25 => 151 | 26 => 136 | 27 => 137 | 28 => 152 | 29 => 153 | 30 => 154 | 31 => 155 | n => n, fun | 26 => 9 | 28 => 160 | 24 => 82 | 0 => 0 | 3 => 3 | 37 => 168 | 48 => 145 | 50 => 25 | 4 => 4 | 40 => 174 | 39 => 173 | 45 => 60 | 5 => 5 | 9 => 9 | 51 => 185 | 55 => 189 | 57 => 197 | 58 => 198 | 33 => 137 | n => n, fun | n => n⟩
theorem Try.sortedB : Go.Proofs.SlLaysZ.n6 Try.prog Try.sortedB_ren := {
  mixed := by kernel_rfl
  f6 := ⟨Try.f107.name, by decide, Try.func107.trans (congrArg some (by kernel_rfl))⟩
  f8 := ⟨Try.f118.name, by decide, Try.func118.trans (congrArg some (by kernel_rfl))⟩
  f11 := ⟨Try.f133.name, by decide, Try.func133.trans (congrArg some (by kernel_rfl))⟩
  t0 := Try.underlying0
  a0 := Try.isAgg0
  z0 := Try.sizeOf0
  v0 := Try.zeroValue0
  t24 := Try.underlying82
  a24 := Try.isAgg82
  z24 := Try.sizeOf82
  v24 := Try.zeroValue82
  t26 := Try.underlying9
  a26 := Try.isAgg9
  z26 := Try.sizeOf9
  v26 := Try.zeroValue9
  t28 := Try.underlying160
  a28 := Try.isAgg160
  z28 := Try.sizeOf160
  v28 := Try.zeroValue160
  i26 := by kernel_rfl }
def Try.sortB_ren : Go.Shelf.Ren := ⟨fun | 6 => 119 | 8 => 114 | 9 => 134 | 19 => 130 | 20 => 131 | 21 => 141 | 22 => 142 | 23 => 143 | 24 => 144 | 25 => 145 | 26 => 146 | 27 => 147 | 28 => 148 | 29 => 149 | 36 => 151 | 31 => 136 | 32 => 137 | 37 => 152 | 38 => 153 | 39 => 154 | 41 => 155 | n => n, fun | 27 => 82 | 29 => 9 | 3 => 3 | 32 => 168 | 26 => 82 | 0 => 0 | 44 => 145 | 46 => 25 | 4 => 4 | 36 => 174 | 35 => 173 | 41 => 60 | 5 => 5 | 9 => 9 | 53 => 185 | 57 => 189 | 63 => 197 | 64 => 198 | n => n, fun | n => n⟩
theorem Try.sortB : Go.Proofs.SlLaysM.n6 Try.prog Try.sortB_ren := {
  mixed := by kernel_rfl
  f6 := ⟨Try.f119.name, by decide, Try.func119.trans (congrArg some (by kernel_rfl))⟩
  f8 := Try.func114.trans (congrArg some (by kernel_rfl))
  f9 := ⟨Try.f134.name, by decide, Try.func134.trans (congrArg some (by kernel_rfl))⟩
  f19 := Try.func130.trans (congrArg some (by kernel_rfl))
  f20 := Try.func131.trans (congrArg some (by kernel_rfl))
  f21 := ⟨Try.f141.name, by decide, Try.func141.trans (congrArg some (by kernel_rfl))⟩
  f22 := ⟨Try.f142.name, by decide, Try.func142.trans (congrArg some (by kernel_rfl))⟩
  f23 := ⟨Try.f143.name, by decide, Try.func143.trans (congrArg some (by kernel_rfl))⟩
  f24 := ⟨Try.f144.name, by decide, Try.func144.trans (congrArg some (by kernel_rfl))⟩
  f25 := ⟨Try.f145.name, by decide, Try.func145.trans (congrArg some (by kernel_rfl))⟩
  f26 := ⟨Try.f146.name, by decide, Try.func146.trans (congrArg some (by kernel_rfl))⟩
  f27 := ⟨Try.f147.name, by decide, Try.func147.trans (congrArg some (by kernel_rfl))⟩
  f28 := ⟨Try.f148.name, by decide, Try.func148.trans (congrArg some (by kernel_rfl))⟩
  f29 := ⟨Try.f149.name, by decide, Try.func149.trans (congrArg some (by kernel_rfl))⟩
  f31 := Try.func136.trans (congrArg some (by kernel_rfl))
  f32 := Try.func137.trans (congrArg some (by kernel_rfl))
  f36 := ⟨Try.f151.name, by decide, Try.func151.trans (congrArg some (by kernel_rfl))⟩
  f37 := ⟨Try.f152.name, by decide, Try.func152.trans (congrArg some (by kernel_rfl))⟩
  f38 := ⟨Try.f153.name, by decide, Try.func153.trans (congrArg some (by kernel_rfl))⟩
  f39 := ⟨Try.f154.name, by decide, Try.func154.trans (congrArg some (by kernel_rfl))⟩
  f41 := ⟨Try.f155.name, by decide, Try.func155.trans (congrArg some (by kernel_rfl))⟩
  t0 := Try.underlying0
  a0 := Try.isAgg0
  z0 := Try.sizeOf0
  v0 := Try.zeroValue0
  t3 := Try.underlying3
  a3 := Try.isAgg3
  z3 := Try.sizeOf3
  v3 := Try.zeroValue3
  t4 := Try.underlying4
  a4 := Try.isAgg4
  z4 := Try.sizeOf4
  v4 := Try.zeroValue4
  t5 := Try.underlying5
  a5 := Try.isAgg5
  z5 := Try.sizeOf5
  v5 := Try.zeroValue5
  t9 := Try.underlying9
  a9 := Try.isAgg9
  z9 := Try.sizeOf9
  v9 := Try.zeroValue9
  t26 := Try.underlying82
  a26 := Try.isAgg82
  z26 := Try.sizeOf82
  v26 := Try.zeroValue82
  t27 := Try.underlying82
  a27 := Try.isAgg82
  z27 := Try.sizeOf82
  v27 := Try.zeroValue82
  t29 := Try.underlying9
  a29 := Try.isAgg9
  z29 := Try.sizeOf9
  v29 := Try.zeroValue9
  t32 := Try.underlying168
  a32 := Try.isAgg168
  z32 := Try.sizeOf168
  v32 := Try.zeroValue168
  t35 := Try.underlying173
  a35 := Try.isAgg173
  z35 := Try.sizeOf173
  v35 := Try.zeroValue173
  t36 := Try.underlying174
  a36 := Try.isAgg174
  z36 := Try.sizeOf174
  v36 := Try.zeroValue174
  t41 := Try.underlying60
  a41 := Try.isAgg60
  z41 := Try.sizeOf60
  v41 := Try.zeroValue60
  t44 := Try.underlying145
  a44 := Try.isAgg145
  z44 := Try.sizeOf145
  v44 := Try.zeroValue145
  t46 := Try.underlying25
  a46 := Try.isAgg25
  z46 := Try.sizeOf25
  v46 := Try.zeroValue25
  t53 := Try.underlying185
  a53 := Try.isAgg185
  z53 := Try.sizeOf185
  v53 := Try.zeroValue185
  t57 := Try.underlying189
  a57 := Try.isAgg189
  z57 := Try.sizeOf189
  v57 := Try.zeroValue189
  t63 := Try.underlying197
  a63 := Try.isAgg197
  z63 := Try.sizeOf197
  v63 := Try.zeroValue197
  t64 := Try.underlying198
  a64 := Try.isAgg198
  z64 := Try.sizeOf198
  v64 := Try.zeroValue198 }
end Go.Proofs

namespace Go.Proofs
open Go.Shelf
def Try.keysA_ren : Go.Shelf.Ren := ⟨fun | 7 => 53 | 10 => 93 | n => n, fun | 23 => 100 | 26 => 3 | 3 => 38 | 28 => 104 | 0 => 0 | 27 => 103 | 33 => 107 | 4 => 4 | n => n, fun | n => n⟩
theorem Try.keysA : Go.Proofs.SlLaysZI.n7 Try.prog Try.keysA_ren := {
  mixed := by kernel_rfl
  f7 := ⟨Try.f53.name, by decide, Try.func53.trans (congrArg some (by kernel_rfl))⟩
  f10 := ⟨Try.f93.name, by decide, Try.func93.trans (congrArg some (by kernel_rfl))⟩
  t0 := Try.underlying0
  a0 := Try.isAgg0
  z0 := Try.sizeOf0
  v0 := Try.zeroValue0
  t4 := Try.underlying4
  a4 := Try.isAgg4
  z4 := Try.sizeOf4
  v4 := Try.zeroValue4
  t23 := Try.underlying100
  a23 := Try.isAgg100
  z23 := Try.sizeOf100
  v23 := Try.zeroValue100
  t26 := Try.underlying3
  a26 := Try.isAgg3
  z26 := Try.sizeOf3
  v26 := Try.zeroValue3
  t27 := Try.underlying103
  a27 := Try.isAgg103
  z27 := Try.sizeOf103
  v27 := Try.zeroValue103
  t28 := Try.underlying104
  a28 := Try.isAgg104
  z28 := Try.sizeOf104
  v28 := Try.zeroValue104
  t33 := Try.underlying107
  a33 := Try.isAgg107
  z33 := Try.sizeOf107
  v33 := Try.zeroValue107 }
def Try.sortedA_ren : Go.Shelf.Ren := ⟨fun | 6 => 52 | 8 => 91 | 9 => 92 | 11 => 112 | 13 => 114 | 12 => 113 | 23 => 130 | 24 => 131 | 14 => 121 | 15 => 122 | 16 => 123 | 17 => 124 | 18 => 125 | 19 => 126 | 20 => 127 | 21 => 128 | 22 => 129 | 25 => 135 | 26 => 136 | 27 => 137 | 28 => 138 | 29 => 139 | 30 => 140 | 31 => 150 | n => n, fun | 26 => 3 | 28 => 104 | 24 => 101 | 0 => 0 | 3 => 3 | 37 => 168 | 48 => 145 | 50 => 25 | 4 => 4 | 40 => 174 | 39 => 173 | 45 => 60 | 5 => 5 | 9 => 9 | 51 => 185 | 55 => 189 | 57 => 197 | 58 => 198 | 33 => 107 | n => n, fun | n => n⟩
theorem Try.sortedA : Go.Proofs.SlLaysZI.n6 Try.prog Try.sortedA_ren := {
  mixed := by kernel_rfl
  f6 := ⟨Try.f52.name, by decide, Try.func52.trans (congrArg some (by kernel_rfl))⟩
  f8 := ⟨Try.f91.name, by decide, Try.func91.trans (congrArg some (by kernel_rfl))⟩
  f11 := ⟨Try.f112.name, by decide, Try.func112.trans (congrArg some (by kernel_rfl))⟩
  t0 := Try.underlying0
  a0 := Try.isAgg0
  z0 := Try.sizeOf0
  v0 := Try.zeroValue0
  t24 := Try.underlying101
  a24 := Try.isAgg101
  z24 := Try.sizeOf101
  v24 := Try.zeroValue101
  t26 := Try.underlying3
  a26 := Try.isAgg3
  z26 := Try.sizeOf3
  v26 := Try.zeroValue3
  t28 := Try.underlying104
  a28 := Try.isAgg104
  z28 := Try.sizeOf104
  v28 := Try.zeroValue104
  i26 := by kernel_rfl }
def Try.sortA_ren : Go.Shelf.Ren := ⟨fun | 5 => 92 | 8 => 114 | 7 => 113 | 19 => 130 | 20 => 131 | 10 => 121 | 11 => 122 | 12 => 123 | 13 => 124 | 14 => 125 | 15 => 126 | 16 => 127 | 17 => 128 | 18 => 129 | 30 => 135 | 31 => 136 | 32 => 137 | 33 => 138 | 34 => 139 | 35 => 140 | 40 => 150 | n => n, fun | 23 => 101 | 25 => 3 | 3 => 3 | 32 => 168 | 22 => 101 | 0 => 0 | 44 => 145 | 46 => 25 | 4 => 4 | 36 => 174 | 35 => 173 | 41 => 60 | 5 => 5 | 9 => 9 | 53 => 185 | 57 => 189 | 63 => 197 | 64 => 198 | n => n, fun | n => n⟩
theorem Try.sortA : Go.Proofs.SlLaysM.n5 Try.prog Try.sortA_ren := {
  mixed := by kernel_rfl
  f5 := ⟨Try.f92.name, by decide, Try.func92.trans (congrArg some (by kernel_rfl))⟩
  f7 := ⟨Try.f113.name, by decide, Try.func113.trans (congrArg some (by kernel_rfl))⟩
  f8 := Try.func114.trans (congrArg some (by kernel_rfl))
  f10 := ⟨Try.f121.name, by decide, Try.func121.trans (congrArg some (by kernel_rfl))⟩
  f11 := ⟨Try.f122.name, by decide, Try.func122.trans (congrArg some (by kernel_rfl))⟩
  f12 := ⟨Try.f123.name, by decide, Try.func123.trans (congrArg some (by kernel_rfl))⟩
  f13 := ⟨Try.f124.name, by decide, Try.func124.trans (congrArg some (by kernel_rfl))⟩
  f14 := ⟨Try.f125.name, by decide, Try.func125.trans (congrArg some (by kernel_rfl))⟩
  f15 := ⟨Try.f126.name, by decide, Try.func126.trans (congrArg some (by kernel_rfl))⟩
  f16 := ⟨Try.f127.name, by decide, Try.func127.trans (congrArg some (by kernel_rfl))⟩
  f17 := ⟨Try.f128.name, by decide, Try.func128.trans (congrArg some (by kernel_rfl))⟩
  f18 := ⟨Try.f129.name, by decide, Try.func129.trans (congrArg some (by kernel_rfl))⟩
  f19 := Try.func130.trans (congrArg some (by kernel_rfl))
  f20 := Try.func131.trans (congrArg some (by kernel_rfl))
  f30 := ⟨Try.f135.name, by decide, Try.func135.trans (congrArg some (by kernel_rfl))⟩
  f31 := Try.func136.trans (congrArg some (by kernel_rfl))
  f32 := Try.func137.trans (congrArg some (by kernel_rfl))
  f33 := ⟨Try.f138.name, by decide, Try.func138.trans (congrArg some (by kernel_rfl))⟩
  f34 := ⟨Try.f139.name, by decide, Try.func139.trans (congrArg some (by kernel_rfl))⟩
  f35 := ⟨Try.f140.name, by decide, Try.func140.trans (congrArg some (by kernel_rfl))⟩
  f40 := ⟨Try.f150.name, by decide, Try.func150.trans (congrArg some (by kernel_rfl))⟩
  t0 := Try.underlying0
  a0 := Try.isAgg0
  z0 := Try.sizeOf0
  v0 := Try.zeroValue0
  t3 := Try.underlying3
  a3 := Try.isAgg3
  z3 := Try.sizeOf3
  v3 := Try.zeroValue3
  t4 := Try.underlying4
  a4 := Try.isAgg4
  z4 := Try.sizeOf4
  v4 := Try.zeroValue4
  t5 := Try.underlying5
  a5 := Try.isAgg5
  z5 := Try.sizeOf5
  v5 := Try.zeroValue5
  t9 := Try.underlying9
  a9 := Try.isAgg9
  z9 := Try.sizeOf9
  v9 := Try.zeroValue9
  t22 := Try.underlying101
  a22 := Try.isAgg101
  z22 := Try.sizeOf101
  v22 := Try.zeroValue101
  t23 := Try.underlying101
  a23 := Try.isAgg101
  z23 := Try.sizeOf101
  v23 := Try.zeroValue101
  t25 := Try.underlying3
  a25 := Try.isAgg3
  z25 := Try.sizeOf3
  v25 := Try.zeroValue3
  t32 := Try.underlying168
  a32 := Try.isAgg168
  z32 := Try.sizeOf168
  v32 := Try.zeroValue168
  t35 := Try.underlying173
  a35 := Try.isAgg173
  z35 := Try.sizeOf173
  v35 := Try.zeroValue173
  t36 := Try.underlying174
  a36 := Try.isAgg174
  z36 := Try.sizeOf174
  v36 := Try.zeroValue174
  t41 := Try.underlying60
  a41 := Try.isAgg60
  z41 := Try.sizeOf60
  v41 := Try.zeroValue60
  t44 := Try.underlying145
  a44 := Try.isAgg145
  z44 := Try.sizeOf145
  v44 := Try.zeroValue145
  t46 := Try.underlying25
  a46 := Try.isAgg25
  z46 := Try.sizeOf25
  v46 := Try.zeroValue25
  t53 := Try.underlying185
  a53 := Try.isAgg185
  z53 := Try.sizeOf185
  v53 := Try.zeroValue185
  t57 := Try.underlying189
  a57 := Try.isAgg189
  z57 := Try.sizeOf189
  v57 := Try.zeroValue189
  t63 := Try.underlying197
  a63 := Try.isAgg197
  z63 := Try.sizeOf197
  v63 := Try.zeroValue197
  t64 := Try.underlying198
  a64 := Try.isAgg198
  z64 := Try.sizeOf198
  v64 := Try.zeroValue198 }
end Go.Proofs

namespace Go.Proofs.Ytpebbkhainpfaaa
open Go Go.HL Go.RowKit Go.Maps Go.Sort Go.Shelf Go.MapKept

@[reducible] def ptr (b : Nat) : Value := .pointer (some ⟨b, 0, none⟩)
theorem HC.of_calls {P : Program} {f : FuncId} {args : Array Value} {h : Heap} {R : Value → Heap → Prop} (hc : Callable P f) (hr : ∀ w : World, w.heap = h → Calls P f args w fun e w' => ∃ v, e = .returned v ∧ RowKit.Below h.size w w' ∧ R v w'.heap) : HC P f args h R :=
  ⟨hc, fun _ w at' => (hr w at'.heap).mono fun _ w' ⟨v, e, b, r⟩ => ⟨v, w'.heap, e, ⟨rfl, b.os.trans at'.os, b.tape.trans at'.tape, b.output.trans at'.output⟩, r⟩⟩
theorem Ext.of_below {h : Heap} {w w' : World} (hw : w.heap = h) (b : RowKit.Below h.size w w') : Ext h w'.heap := ⟨hw ▸ b.size, fun k hk _ => by rw [b.block k hk, hw]⟩
theorem sorts_in (m : Nat) : AnyZI.SortsIn Try.prog Try.sortedA_ren Fence.wide m :=
  ⟨fun blk off cap ss W hH hblk hsz => callsIn_wide.2 (AnyM.slices_Sort_int Try.sortA blk off cap ss W hH hblk hsz),
   fun p cap W => callsIn_wide.2 (AnyM.slices_Sort_int_none Try.sortA p cap W)⟩
/-- An element reads as nothing. -/
def noElem (_ : Value) : Option (DataW Unit × List MemPlace) := some (.nil, [])
theorem int_wf {k : Int} (h : -9223372036854775808 ≤ k ∧ k ≤ 9223372036854775807) : (Lit.int .i64 k).wf = true := by
  simpa [Lit.wf, IntKind.min, IntKind.max, IntKind.signed, IntKind.bits] using h

theorem insert_perm {H : Type} (x : Lit × DataW H) : ∀ l : List (Lit × DataW H), (DataW.insert x l).Perm (x :: l)
  | [] => by simp [DataW.insert]
  | y :: l => by
    unfold DataW.insert
    split
    · exact .refl _
    · exact ((insert_perm x l).cons y).trans (.swap x y l)
theorem sorted_perm {H : Type} : ∀ l : List (Lit × DataW H), (l.foldr DataW.insert []).Perm l
  | [] => .refl _
  | x :: l => (insert_perm x _).trans ((sorted_perm l).cons x)
/-- The map as the kit's readings have it: its keys. -/
theorem owns_keys {h : Heap} {mb : Nat} {ks : List Int} {f : Int → Value} (hm : MapT (Value.int .i64) h mb (ks.map fun k => (k, f k))) (hr : ∀ k ∈ ks, -9223372036854775808 ≤ k ∧ k ≤ 9223372036854775807) (hl : ks.length ≤ 1000000000000) {w : World} (hw : w.heap[mb]? = h[mb]?) :
    ∃ (nn : Nat) (D : DataW Unit), w.ownsMap Try.prog 3 noElem mb nn D ∧ Maps.size D = ks.length ∧ (intKeys D).Perm ks := by
  obtain ⟨es, cl, hb, he, hs⟩ := hm
  have hlen : es.size = ks.length := by
    have := congrArg List.length he
    simpa using this
  have hkeys : es.toList.map (fun e => (e.key, e.val)) = ks.map fun k => (Value.int .i64 k, f k) := by rw [he, List.map_map]; rfl
  have hrd : ∀ x ∈ es.toList, ∃ k ∈ ks, x.key = .int .i64 k ∧ WideElems.rd Try.prog 3 noElem x = some (.int .i64 k, .nil) := fun x hx => by
    have h1 : (x.key, x.val) ∈ es.toList.map fun e => (e.key, e.val) := List.mem_map.2 ⟨x, hx, rfl⟩
    rw [hkeys] at h1
    obtain ⟨k, hk, e⟩ := List.mem_map.1 h1
    injection e with e1 e2
    refine ⟨k, hk, e1.symm, ?_⟩
    unfold WideElems.rd
    rw [← e1, keyOf_int_mk Try.underlying3 (int_wf (hr k hk))]
    rfl
  have hrg : es.toList.map (WideElems.rg Try.prog 3 noElem) = ks.map fun k => (Lit.int .i64 k, DataW.nil) := by
    have h1 : es.toList.map (·.key) = ks.map (Value.int .i64) := by
      have := congrArg (List.map Prod.fst) hkeys
      rw [List.map_map, List.map_map] at this
      exact this
    have h2 : ∀ (l : List MapEntry) (s : List Int), l.map (·.key) = s.map (Value.int .i64) → (∀ x ∈ l, ∃ k ∈ ks, x.key = .int .i64 k ∧ WideElems.rd Try.prog 3 noElem x = some (.int .i64 k, .nil)) → l.map (WideElems.rg Try.prog 3 noElem) = s.map fun k => (Lit.int .i64 k, DataW.nil) := by
      intro l
      induction l with
      | nil => intro s hs _; cases s with
        | nil => rfl
        | cons a s => simp at hs
      | cons x l ih =>
        intro s hs hx
        cases s with
        | nil => simp at hs
        | cons a s =>
          simp only [List.map_cons, List.cons.injEq] at hs ⊢
          obtain ⟨k, _, h3, h4⟩ := hx x List.mem_cons_self
          have : a = k := by
            have h5 := hs.1
            rw [h3] at h5
            exact (Value.int.inj h5).2.symm
          subst this
          refine ⟨?_, ih s hs.2 fun y hy => hx y (List.mem_cons_of_mem _ hy)⟩
          unfold WideElems.rg
          rw [h4]; rfl
    exact h2 _ _ h1 hrd
  refine ⟨es.size, _, ⟨es, cl, hw.trans hb, ⟨by show _ ≤ 9223372036854775807; omega, hs, fun x hx => let ⟨k, _, _, h⟩ := hrd x hx; ⟨_, h⟩⟩, Nat.le_refl _, rfl⟩, ?_, ?_⟩
  · show (List.foldr DataW.insert [] _).length = _
    rw [(sorted_perm _).length_eq, List.length_map]; simpa using hlen
  · show ((List.foldr DataW.insert [] _).map fun p => _root_.Go.intOf p.1).Perm ks
    refine ((sorted_perm _).map _).trans ?_
    rw [hrg, List.map_map]
    exact .of_eq (by rw [show ((fun p : Lit × DataW Unit => _root_.Go.intOf p.1) ∘ fun k => (Lit.int .i64 k, DataW.nil)) = id from rfl, List.map_id])

/-- The keys of the map as a sequence. -/
theorem keys_any {h : Heap} {mb : Nat} : HC Try.prog 53 #[.map (some mb)] h (fun v h' => v = .func (.func 93) #[] #[ptr h.size] ∧ h' = h.push (.cells #[.map (some mb)] 100 (0, 0))) :=
  HC.of_calls ⟨_, Try.func53, by decide, rfl⟩ fun w hw => (callsIn_wide.1 (AnyZI.keys_in Try.keysA Fence.wide 5 trivial rfl (some mb) w)).mono fun e w' ⟨h1, h2⟩ => by
    subst h2 hw
    exact ⟨_, h1, (RowKit.Below.refl _ w).alloc (Nat.le_refl _) _, rfl, rfl⟩

theorem sorted_any {h : Heap} {mb : Nat} {ks : List Int} {f : Int → Value} (hm : MapT (Value.int .i64) h mb (ks.map fun k => (k, f k))) (hr : ∀ k ∈ ks, -9223372036854775808 ≤ k ∧ k ≤ 9223372036854775807) (hl : ks.length ≤ 1000000000000) :
    HC Try.prog 52 #[.func (.func 93) #[] #[ptr h.size]] (h.push (.cells #[.map (some mb)] 100 (0, 0)))
      (fun v h' => ∃ S : List Int, S.Perm ks ∧ S.Pairwise (· ≤ ·) ∧ Own (h.push (.cells #[.map (some mb)] 100 (0, 0))) h' 1 3 v (S.map iv)) :=
  HC.of_calls ⟨_, Try.func52, by decide, rfl⟩ fun w hw => by
    have hsz : w.heap.size = h.size + 1 := by rw [hw]; simp
    obtain ⟨nn, D, hown, hD, hK⟩ := owns_keys hm hr hl (w := w) (by rw [hw, Array.getElem?_push, if_neg (by have := hm.lt; omega)])
    have hseq : SeqGives Fence.wide 2 Try.prog 93 #[.pointer (some ⟨h.size, 0, none⟩)] encZ (fun ss => ss.Perm (intKeys D)) (Maps.size D) w :=
      AnyZI.keys_gives (ρ := Try.keysA_ren) { Try.keysA with } Fence.wide _ trivial rfl (by omega) h.size mb nn D w (by omega) (by rw [cell?_eq, hw]; exact cell_of (push_same _ _) 0) hown
    have cS := AnyZI.sorted_in Try.sortedA Fence.wide 5 trivial trivial trivial trivial rfl (by omega) (sorts_in _) (enters_of Try.func92 (by kernel_rfl) rfl) 93 #[.pointer (some ⟨h.size, 0, none⟩)] trivial (enters_of Try.func93 (by kernel_rfl) rfl) _ (Maps.size D) (by show _ ≤ 9223372036854775807; omega) (by omega) w hseq
    refine (callsIn_wide.1 cS).mono fun e w' ⟨v, ss, h1, h2, h3, h4, h5⟩ => ⟨v, h1, by rw [← hw]; exact h5, ss.mergeSort (fun x y => decide (x ≤ y)), ?_, ?_, ?_⟩
    · exact (List.mergeSort_perm _ _).trans (h2.trans hK)
    · have := List.pairwise_mergeSort (le := fun x y : Int => decide (x ≤ y)) (fun a b c h1 h2 => by simp at h1 h2 ⊢; omega) (fun a b => by simp; omega) ss
      exact this.imp fun h => by simpa using h
    · have hx : Ext w.heap w'.heap := Ext.of_below rfl h5
      rw [← hw]
      have hml : (ss.mergeSort fun x y => decide (x ≤ y)).length = ss.length := List.length_mergeSort _
      rcases h3.2 with ⟨rfl, hz⟩ | ⟨g, cap, cur, rfl, hg, hgb, hnc, hcm, hcs, hct⟩
      · have hs0 : ss = [] := List.length_eq_zero_iff.1 hz
        subst hs0
        rw [List.mergeSort_nil]
        exact Own.nil hx _ _
      · refine ⟨⟨_, _, _, rfl, hnc, hcm, by simp, .inr ⟨g, 0, cur, (0, 0), rfl, hgb, by simp; omega, fzOk_zero _, ?_⟩⟩, hx, fun b hb => ?_⟩
        · rw [List.drop_zero]; exact hct
        · obtain ⟨o, n, c, e⟩ := hb
          injection e with e; injection e with e; injection e with e; subst e; exact hg
end Go.Proofs.Ytpebbkhainpfaaa

namespace Go.Proofs.Ytpebbkhainpfaaa
open Go Go.HL Go.RowKit Go.Maps Go.Sort Go.Shelf Go.MapKept
theorem sortsS_in (m : Nat) : AnyZ.SortsIn Try.prog Try.sortedB_ren Fence.wide m :=
  ⟨fun blk off cap ss W hH hblk hsz => callsIn_wide.2 (AnyM.slices_Sort_string Try.sortB blk off cap ss W hH hblk hsz),
   fun p cap W => callsIn_wide.2 (AnyM.slices_Sort_string_none Try.sortB p cap W)⟩
/-- The map as the kit's readings have it: its keys. -/
theorem owns_keysS {h : Heap} {mb : Nat} {l : List (List UInt8 × Value)} (hm : MapT kvB h mb l) (hr : ∀ p ∈ l, p.1.length ≤ 1000000000) (hl : l.length ≤ 1000000000) {w : World} (hw : w.heap[mb]? = h[mb]?) :
    ∃ (nn : Nat) (D : DataW Unit), w.ownsMap Try.prog 9 noElem mb nn D ∧ Maps.size D = l.length ∧ (strKeys D).Perm (l.map (·.1)) := by
  obtain ⟨es, cl, hb, he, hs⟩ := hm
  have hlen : es.size = l.length := by
    have := congrArg List.length he
    simpa using this
  have hrd : ∀ x ∈ es.toList, ∃ k ∈ l.map (·.1), x.key = kvB k ∧ WideElems.rd Try.prog 9 noElem x = some (.string k, .nil) := fun x hx => by
    have h1 : (x.key, x.val) ∈ es.toList.map fun e => (e.key, e.val) := List.mem_map.2 ⟨x, hx, rfl⟩
    rw [he] at h1
    obtain ⟨p, hp, e⟩ := List.mem_map.1 h1
    injection e with e1 e2
    refine ⟨p.1, List.mem_map.2 ⟨p, hp, rfl⟩, e1.symm, ?_⟩
    unfold WideElems.rd
    have hsz : (BA p.1).size ≤ maxLen := by have := hr p hp; rw [BA_size]; simp only [maxLen]; omega
    have hk : keyOf Try.prog 9 (.string (BA p.1)) = some (.string (BA p.1).data.toList) := by simp [keyOf, Try.underlying9, mapKey, hsz]
    rw [← e1, kvB, hk]
    simp [noElem, BA]
  have hrg : es.toList.map (WideElems.rg Try.prog 9 noElem) = l.map fun p => (Lit.string p.1, DataW.nil) := by
    have h1 : es.toList.map (·.key) = l.map fun p => kvB p.1 := by
      have := congrArg (List.map Prod.fst) he
      rw [List.map_map, List.map_map] at this
      exact this
    have h2 : ∀ (m : List MapEntry) (s : List (List UInt8 × Value)), m.map (·.key) = (s.map fun p => kvB p.1) → (∀ x ∈ m, ∃ k ∈ l.map (·.1), x.key = kvB k ∧ WideElems.rd Try.prog 9 noElem x = some (.string k, .nil)) → m.map (WideElems.rg Try.prog 9 noElem) = s.map fun p => (Lit.string p.1, DataW.nil) := by
      intro m
      induction m with
      | nil => intro s hs _; cases s with
        | nil => rfl
        | cons a s => simp at hs
      | cons x m ih =>
        intro s hs hx
        cases s with
        | nil => simp at hs
        | cons a s =>
          simp only [List.map_cons, List.cons.injEq] at hs ⊢
          obtain ⟨k, _, h3, h4⟩ := hx x List.mem_cons_self
          have : a.1 = k := by
            have h5 := hs.1
            rw [h3] at h5
            exact (KV.ba.inj _ _ h5).symm
          subst this
          refine ⟨?_, ih s hs.2 fun y hy => hx y (List.mem_cons_of_mem _ hy)⟩
          unfold WideElems.rg
          rw [h4]; rfl
    exact h2 _ _ h1 hrd
  refine ⟨es.size, _, ⟨es, cl, hw.trans hb, ⟨by show _ ≤ 9223372036854775807; omega, hs, fun x hx => let ⟨k, _, _, h⟩ := hrd x hx; ⟨_, h⟩⟩, Nat.le_refl _, rfl⟩, ?_, ?_⟩
  · show (List.foldr DataW.insert [] _).length = _
    rw [(sorted_perm _).length_eq, List.length_map]; simpa using hlen
  · show ((List.foldr DataW.insert [] _).map fun p => strOf p.1).Perm (l.map (·.1))
    refine ((sorted_perm _).map _).trans ?_
    rw [hrg, List.map_map]
    exact .of_eq rfl
theorem keysS_any {h : Heap} {mb : Nat} : HC Try.prog 108 #[.map (some mb)] h (fun v h' => v = .func (.func 120) #[] #[ptr h.size] ∧ h' = h.push (.cells #[.map (some mb)] 111 (0, 0))) :=
  HC.of_calls ⟨_, Try.func108, by decide, rfl⟩ fun w hw => (callsIn_wide.1 (AnyZ.keys_in Try.keysB Fence.wide 5 trivial rfl (some mb) w)).mono fun e w' ⟨h1, h2⟩ => by
    subst h2 hw
    exact ⟨_, h1, (RowKit.Below.refl _ w).alloc (Nat.le_refl _) _, rfl, rfl⟩
theorem le_of_not {a b : List UInt8} (h : ¬ a ≤ b) : b ≤ a := by
  rcases list_tri a b with h1 | h1 | h1
  · exact absurd (List.le_of_lt h1) h
  · exact absurd (h1 ▸ List.le_refl _) h
  · exact List.le_of_lt h1
theorem sortedS_any {h : Heap} {mb : Nat} {l : List (List UInt8 × Value)} (hm : MapT kvB h mb l) (hr : ∀ p ∈ l, p.1.length ≤ 1000000000) (hl : l.length ≤ 1000000000) :
    HC Try.prog 107 #[.func (.func 120) #[] #[ptr h.size]] (h.push (.cells #[.map (some mb)] 111 (0, 0)))
      (fun v h' => ∃ S : List (List UInt8), S.Perm (l.map (·.1)) ∧ S.Pairwise (· ≤ ·) ∧ Own (h.push (.cells #[.map (some mb)] 111 (0, 0))) h' 1 9 v (S.map kvB)) :=
  HC.of_calls ⟨_, Try.func107, by decide, rfl⟩ fun w hw => by
    have hsz : w.heap.size = h.size + 1 := by rw [hw]; simp
    obtain ⟨nn, D, hown, hD, hK⟩ := owns_keysS hm hr hl (w := w) (by rw [hw, Array.getElem?_push, if_neg (by have := hm.lt; omega)])
    have hseq : SeqGives Fence.wide 2 Try.prog 120 #[.pointer (some ⟨h.size, 0, none⟩)] encStr (fun ss => ss.Perm (strKeys D)) (Maps.size D) w :=
      AnyZ.keys_gives (ρ := Try.keysB_ren) { Try.keysB with } Fence.wide _ trivial rfl (by omega) h.size mb nn D w (by omega) (by rw [cell?_eq, hw]; exact cell_of (push_same _ _) 0) hown
    have cS := AnyZ.sorted_in Try.sortedB Fence.wide 5 trivial trivial trivial trivial rfl (by omega) (sortsS_in _) (enters_of Try.func119 (by kernel_rfl) rfl) 120 #[.pointer (some ⟨h.size, 0, none⟩)] trivial (enters_of Try.func120 (by kernel_rfl) rfl) _ (Maps.size D) (by show _ ≤ 9223372036854775807; omega) (by omega) w hseq
    refine (callsIn_wide.1 cS).mono fun e w' ⟨v, ss, h1, h2, h3, h4, h5⟩ => ⟨v, h1, by rw [← hw]; exact h5, ss.mergeSort (fun x y => decide (x ≤ y)), ?_, ?_, ?_⟩
    · exact (List.mergeSort_perm _ _).trans (h2.trans hK)
    · have := List.pairwise_mergeSort (le := fun x y : List UInt8 => decide (x ≤ y)) (fun a b c h1 h2 => by simp only [decide_eq_true_eq] at h1 h2 ⊢; exact List.le_trans h1 h2) (fun a b => by
        by_cases h : a ≤ b
        · simp [h]
        · simp [le_of_not h]) ss
      exact this.imp fun h => by simpa using h
    · have hx : Ext w.heap w'.heap := Ext.of_below rfl h5
      rw [← hw]
      have hml : (ss.mergeSort fun x y => decide (x ≤ y)).length = ss.length := List.length_mergeSort _
      rcases h3.2 with ⟨rfl, hz⟩ | ⟨g, cap, cur, rfl, hg, hgb, hnc, hcm, hcs, hct⟩
      · have hs0 : ss = [] := List.length_eq_zero_iff.1 hz
        subst hs0
        rw [List.mergeSort_nil]
        exact Own.nil hx _ _
      · refine ⟨⟨_, _, _, rfl, hnc, hcm, by simp, .inr ⟨g, 0, cur, (0, 0), rfl, hgb, by simp; omega, fzOk_zero _, ?_⟩⟩, hx, fun b hb => ?_⟩
        · rw [List.drop_zero]; exact hct
        · obtain ⟨o, n, c, e⟩ := hb
          injection e with e; injection e with e; injection e with e; subst e; exact hg
end Go.Proofs.Ytpebbkhainpfaaa

namespace Go.HL
open Go
theorem RdL.ofCapN {h : Heap} {e : TypeId} {v : SV} {S : List (List UInt8)} (c : Cap h 1 e (sv v) (S.map kvB)) : RdL h (blkC (sv v)) none_ v (S.map Nm.mk) :=
  RdL.of_cap1 (f := fun a : Nm => kvB a.n) rfl (fun _ _ _ => rfl) (by simpa [Function.comp_def] using c)
theorem Cap.nm {h : Heap} {e : TypeId} {S : List (List UInt8)} {b o n c : Nat} (r : Cap h 1 e (.slice (some ⟨b, o, none⟩) n c) (S.map kvB)) {i : Nat} (hi : i < S.length) : cell h b (o + i) = some (.string (BA S[i])) := (RdL.ofCapN (v := (some ⟨b, o, none⟩, n, c)) r).nm hi
theorem Cap.lenN {h : Heap} {e : TypeId} {a : Option Addr} {n c : Nat} {S : List (List UInt8)} (r : Cap h 1 e (.slice a n c) (S.map kvB)) : n = S.length := by
  have := r.sl.cells.1
  simp only [List.length_map, Nat.mul_one] at this; exact this.symm
theorem OpUR.sxT {P : Program} {s : Slots} {h0 h : Heap} {D : Nat → Prop} {M R : List Itm} {d : Option Tmp} {ty : TypeId} {pos : String} {af : Array Edge} {g : Option (Nat × Bool)} {x y : Operand} {t : TypeId} {b o n c q : Nat} {e : TypeId} {S : List (List UInt8)} {a : List UInt8} (ht : szB P t = some 1) (ok : Hp h0 D (capI 1 e (some ⟨b, o, none⟩, n, c) (S.map kvB) :: M) R h) (hq : q < n) (hx : ev s x = .pointer (some ⟨b, o + q, none⟩) := by exact rfl) (hy : ev s y = .string (BA a) := by exact rfl) :
    OpUR P ⟨d, .store t x y, ty, pos, af, g⟩ s h (fun h' => Hp h0 D (capI 1 e (some ⟨b, o, none⟩, n, c) ((S.set q a).map kvB) :: M) R h' ∧ Chg (fun x => x = b) h h') := by
  rw [List.map_set]
  exact OpUR.sx (k := 1) ht ok (by omega) hx hy rfl
/-- clear(s[i:]). -/
theorem OpA.clr {P : Program} {s : Slots} {h0 h : Heap} {D : Nat → Prop} {M R : List Itm} {d : Option Tmp} {ty : TypeId} {pos : String} {af : Array Edge} {g : Option (Nat × Bool)} {x : Operand} {t e : TypeId} {a : Option Addr} {n c : Nat} {S : List (List UInt8)} {z : List UInt8} (i : Nat)
    (ht : elB P t = some e) (hz : zrB P e = some (.string (BA z))) (ok : Hp h0 D (capI 1 e (a, n, c) (S.map kvB) :: M) R h) (hx : ev s x = .slice (cutA a i c 1) (n - i) (c - i)) (hi : i ≤ n) :
    OpA P ⟨d, .call ⟨.builtin .clear, #[x], #[t]⟩, ty, pos, af, g⟩ s h (fun v h' => v = .tuple #[] ∧ Hp h0 D (capI 1 e (a, n, c) ((S.take i ++ List.replicate (n - i) z).map kvB) :: M) R h') := fun E w at' => by
  have hc : Cap h 1 e (.slice a n c) (S.map kvB) := ok.m0
  have hnS : n = S.length := Cap.lenN hc
  by_cases hni : n - i = 0
  · have hin : i = n := by omega
    refine ⟨.tuple #[], h, w, ⟨rfl, ?_⟩, at', ?_⟩
    · rw [hni, List.replicate_zero, List.append_nil, List.take_of_length_le (by omega)]; exact ok
    · rw [hni] at hx
      have : ∀ (ao : Option Addr) (m : Nat), (Builtin.clear_ #[t] ty #[Value.slice ao 0 m]).run P w = Result.ok (.tuple #[]) w := fun ao m => by
        cases ao <;> simp [Builtin.clear_, run_und (elB_iff ht)]
      simp [execOp, resolve, invoke, builtin, hx, this]
  · obtain ⟨a1, n1, c1, hv, hnc, _, hl, hr⟩ := id hc
    injection hv with e1 e2 e3; subst e1 e2 e3
    rcases hr with ⟨rfl, rfl⟩ | ⟨b, o, cs, fz, rfl, _⟩
    · omega
    · have hzc : (Builtin.zeroCells (Value.string (BA z)).cells (n - i)).toList = List.replicate (n - i) (.string (BA z)) := zeroCells_eq _ _ rfl
      obtain ⟨h', w', hcap, hchg, at2, hr⟩ := run_storeAt (P := P) (i := i) hc (vs := List.replicate (n - i) (.string (BA z))) (by simp; omega) (fun u hu => by rw [List.eq_of_mem_replicate hu]; rfl) at'
      have hxs : spl (S.map kvB) i (List.replicate (n - i) (.string (BA z))) = (S.take i ++ List.replicate (n - i) z).map kvB := by
        unfold spl
        rw [List.drop_eq_nil_of_le (by simp; omega), List.append_nil, List.map_append, List.map_take, List.map_replicate]
      rw [hxs] at hcap
      refine ⟨.tuple #[], h', w', ⟨rfl, ok.upd hchg (fun j e => by subst e; exact ⟨o, n, c, rfl⟩) _ hcap (fun _ x => .inl x)⟩, at2, ?_⟩
      rw [cutA_some (by omega)] at hx
      obtain ⟨m, hm⟩ : ∃ m, n - i = m + 1 := ⟨n - i - 1, by omega⟩
      rw [hm] at hx hzc hr
      rw [Nat.mul_one] at hx
      simp [execOp, resolve, invoke, builtin, hx, Builtin.clear_, run_und (elB_iff ht), run_zrB hz, hzc, hr]
end Go.HL
