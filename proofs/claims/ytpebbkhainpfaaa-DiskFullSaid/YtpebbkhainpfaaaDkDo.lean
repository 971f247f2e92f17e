/- A disk's power, what is there, a change that is done, what is made safe. Conditions: the disk is in order, its changes few. -/
import Derived.Test.YtpebbkhainpfaaaDkWr
namespace Go.Proofs.Ytpebbkhainpfaaa
open Go Go.HL
def lfR (r : RD) : Int := if 0 < r.left then r.left - 1 else r.left
def powerR (r : RD) : RD × Nat := if r.left = 0 then (⟨r.m, r.fs, true, r.left, r.chg⟩, 13) else (⟨r.m, r.fs, r.dark, lfR r, r.chg + 1⟩, 0)
theorem powerR_0 {r : RD} (h : r.left = 0) : powerR r = (⟨r.m, r.fs, true, r.left, r.chg⟩, 13) := by unfold powerR; rw [if_pos h]
theorem powerR_1 {r : RD} (h : ¬ r.left = 0) : powerR r = (⟨r.m, r.fs, r.dark, lfR r, r.chg + 1⟩, 0) := by unfold powerR; rw [if_neg h]
theorem powerR_abs (r : RD) : (powerR r).1.abs = (powerN r.abs).1 ∧ (powerR r).2 = (powerN r.abs).2 := by
  by_cases h : r.left = 0
  · rw [powerR_0 h]; unfold powerN; rw [if_pos (by exact h)]; exact ⟨rfl, rfl⟩
  · rw [powerR_1 h]; unfold powerN; rw [if_neg (by exact h)]; exact ⟨rfl, rfl⟩
theorem powerR_fs (r : RD) : (powerR r).1.fs = r.fs := by unfold powerR; split <;> rfl
theorem lfR_1 {r : RD} (h : 0 < r.left) : lfR r = r.left - 1 := by unfold lfR; rw [if_pos h]
theorem lfR_0 {r : RD} (h : ¬ 0 < r.left) : lfR r = r.left := by unfold lfR; rw [if_neg h]

set_option maxRecDepth 100000 in
set_option maxHeartbeats 2000000 in
theorem power_any {h : Heap} {d : Nat} {r : RD} (ok : Hp h (dskI d r).F [dskI d r] [] h) (hk : DkOk r.abs) (hcg : r.chg < 1000000000) :
    HC Try.prog 70 #[.pointer (some ⟨d, 0, none⟩)] h (fun v h' => v = .int .i64 ((powerR r).2 : Int) ∧ Hp h (dskI d r).F [dskI d (powerR r).1] [] h') := by
  have hl : r.left ≤ 9223372036854775807 := hk.left
  have hc0 : 0 ≤ r.chg := hk.chg
  have ok := ok.dopn
  refine HC.go Try.func70 30 ?_
  refine .seq <| .r <| .w 2 .asI <| .nil ?_
  refine .seq <| .seq <| .r <| .w 3 .mvP <| .w 4 .nil <| .w 5 (.fa T.fd113_2) <| .w 6 (.ldx T.ag3 ok.m0) <| .w 7 .eql <| .nil ?_
  refine .cd (fun C0 => ?_) (fun C0 => ?_)
  · --
    refine .seq <| .r <| .w 8 .mvP <| .w 9 .nil <| .w 10 (.fa T.fd113_1) <| .ur' (.stB T.sz4 ok) ?_
    rintro η1 ⟨ok, cg⟩
    refine .nil ?_
    refine .seq <| .r <| .w 2 .asI <| .nil ?_
    refine .ret ⟨.int .i64 13, Res.one rfl rfl, (by rw [powerR_0 C0]; exact ⟨rfl, Hp.dcls (r := ⟨r.m, r.fs, true, r.left, r.chg⟩) ok⟩)⟩
  refine .skip <| .seq <| .seq <| .r <| .w 11 .mvP <| .w 12 .nil <| .w 13 (.fa T.fd113_2) <| .w 14 (.ldx T.ag3 ok.m0) <| .w 15 .gtr <| .nil ?_
  refine .cd (fun C1 => ?_) (fun C1 => ?_)
  · --
    refine .r <| .w 16 .mvP <| .w 17 .nil <| .w 18 (.fa T.fd113_2) <| .w 19 (.ldx T.ag3 ok.m0) <| .w 20 .sub <| .w 21 .nil <| .w 22 (.fa T.fd113_2) <| .ur' (.stI T.sz3 ok) ?_
    rintro η2 ⟨ok, cg⟩
    refine .nil ?_
    refine .seq <| .r <| .w 23 .mvP <| .w 24 .nil <| .w 25 (.fa T.fd113_3) <| .w 26 (.ldx T.ag3 ok.m0) <| .w 27 .add <| .w 28 .nil <| .w 29 (.fa T.fd113_3) <| .ur' (.stI T.sz3 ok) ?_
    rintro η3 ⟨ok, cg⟩
    refine .nil ?_
    refine .seq <| .r <| .w 2 .asI <| .nil ?_
    refine .ret ⟨.int .i64 0, Res.one rfl rfl, (by rw [powerR_1 C0]; refine ⟨rfl, Hp.dcls (r := ⟨r.m, r.fs, r.dark, lfR r, r.chg + 1⟩) ?_⟩; show Hp _ _ (boxI d _ [_, _, .int .i64 (lfR r), _] :: _) _ _; rw [lfR_1 C1]; exact ok)⟩
  refine .skip <| .seq <| .r <| .w 23 .mvP <| .w 24 .nil <| .w 25 (.fa T.fd113_3) <| .w 26 (.ldx T.ag3 ok.m0) <| .w 27 .add <| .w 28 .nil <| .w 29 (.fa T.fd113_3) <| .ur' (.stI T.sz3 ok) ?_
  rintro η4 ⟨ok, cg⟩
  refine .nil ?_
  refine .seq <| .r <| .w 2 .asI <| .nil ?_
  refine .ret ⟨.int .i64 0, Res.one rfl rfl, (by rw [powerR_1 C0]; refine ⟨rfl, Hp.dcls (r := ⟨r.m, r.fs, r.dark, lfR r, r.chg + 1⟩) ?_⟩; show Hp _ _ (boxI d _ [_, _, .int .i64 (lfR r), _] :: _) _ _; rw [lfR_0 C1]; exact ok)⟩

theorem dsk_parts {h : Heap} {d : Nat} {r : RD} (hd : (dskI d r).p h) : (dboxI d r).p h ∧ MapT kvB h r.m (ents r.fs) ∧ (r.fs.map (·.1)).Nodup ∧ ∀ n f, bget r.fs n = some f → (fboxI f).p h := by
  have h1 := hd.1 _ List.mem_cons_self
  have h2 : MapT kvB h r.m (ents r.fs) := hd.1 _ (List.mem_cons_of_mem _ List.mem_cons_self)
  refine ⟨h1, h2, by have := h2.nodup; rwa [ents_keys] at this, fun n f hg => hd.1 _ (List.mem_cons_of_mem _ (List.mem_cons_of_mem _ (List.mem_flatMap.2 ⟨_, bget_mem hg, ?_⟩)))⟩
  simp [fileI]
def ptrN (f : Option RF) : Option Addr := f.map fun f => ⟨f.blk, 0, none⟩
theorem ents_getD {fs : Fs} {n : List UInt8} : (aget (ents fs) n).getD (.pointer none) = .pointer (ptrN (bget fs n)) := by
  rw [ents_get]; cases bget fs n <;> rfl
theorem there_no {r : RD} {n : List UInt8} (h : bget r.fs n = none) : thereN r.abs n = false := by simp [thereN, RD.abs, h]
theorem there_f {r : RD} {n : List UInt8} {f : RF} (h : bget r.fs n = some f) : thereN r.abs n = f.here := by simp [thereN, RD.abs, h, RF.abs]

set_option maxRecDepth 100000 in
set_option maxHeartbeats 2000000 in
theorem there_any {h : Heap} {d : Nat} {r : RD} {n : List UInt8} (hd : (dskI d r).p h) :
    HC Try.prog 68 #[.pointer (some ⟨d, 0, none⟩), .string (BA n)] h (fun v h' => ((thereN r.abs n = false ∧ v = .pointer none) ∨ ∃ f, bget r.fs n = some f ∧ f.here = true ∧ v = .pointer (some ⟨f.blk, 0, none⟩)) ∧ h' = h) := by
  obtain ⟨hd1, hd2, hd3, hd4⟩ := dsk_parts hd
  refine HC.go Try.func68 21 ?_
  refine .seq <| .r <| .w 4 .asP <| .nil ?_
  refine .seq <| .seq <| .r <| .w 6 .mvP <| .w 7 .nil <| .w 8 (.fa T.fd113_0) <| .w 9 (.ldx T.ag111 hd1) <| .w 10 .mvT <| .w 11 (.lk KV.ba n (v := .pointer (ptrN (bget r.fs n))) T.mp111 (stB_iff T.st9) T.zr118 hd2 (by exact ents_getD)) <| .w 5 .asP <| .nil ?_
  refine .seq <| .r <| .w 12 .mvP <| .w 13 (.pNe T.pt118) <| .w 14 .mvB <| .spl (fun G14 => ?_) (fun G14 => ?_)
  ·
    obtain ⟨f, hg⟩ : ∃ f0, bget r.fs n = some f0 := by (cases hb : bget r.fs n with | none => (rw [hb] at G14; simp [ptrN] at G14) | some x => exact ⟨x, rfl⟩)
    rw [hg]
    simp only [ptrN, Option.map_some]
    have hfb := hd4 n f hg
    refine .w 15 .mvP <| .w 16 .nil <| .w 17 (.fa T.fd122_2) <| .w 18 (.ldx T.ag4 hfb) <| .w 19 .pkt <| .nil ?_
    refine .cond (fun C0 => ?_) (fun C0 => ?_)
    · --
      refine .seq <| .r <| .w 20 .mvP <| .w 4 .asP <| .nil ?_
      refine .ret ⟨.pointer (some ⟨f.blk, 0, none⟩), Res.one rfl rfl, ⟨.inr ⟨f, (by first | exact hg | rfl), C0, rfl⟩, rfl⟩⟩
    refine .skip <| .seq <| .r <| .w 4 .asP <| .nil ?_
    refine .ret ⟨.pointer none, Res.one rfl rfl, ⟨.inl ⟨by rw [there_f hg]; exact C0, rfl⟩, rfl⟩⟩
  refine .x 15 <| .x 16 <| .x 17 <| .x 18 <| .w 19 .pkf <| .nil ?_
  refine .cf <| .skip <| .seq <| .r <| .w 4 .asP <| .nil ?_
  refine .ret ⟨.pointer none, Res.one rfl rfl, ⟨.inl ⟨there_no (by cases hb : bget r.fs n with | none => rfl | some x => (rw [hb] at G14; simp [ptrN] at G14)), rfl⟩, rfl⟩⟩

theorem box_cell {h : Heap} {b o : Nat} {t : TypeId} {cs : List Value} {v : Value} (hb : (boxI b t cs).p h) (hv : cs[o]? = some v) : cell h b o = some v := by rw [cell_of hb]; simpa using hv
def settleR (r : RD) (n : List UInt8) (f : RF) : RD := if f.here = true then ⟨r.m, bput r.fs n ⟨f.blk, f.na, f.nc, f.nl, f.na, f.nc, f.nl, true, true, none, 0, []⟩, r.dark, r.left, r.chg⟩ else ⟨r.m, bdel r.fs n, r.dark, r.left, r.chg⟩
theorem settleR_abs {r : RD} {n : List UInt8} {f : RF} : (settleR r n f).abs = ⟨put1 r.abs.fs n (settleF f.abs), r.dark, r.left, r.chg⟩ := by
  unfold settleR settleF
  by_cases h : f.here = true
  · rw [if_pos h, if_pos (by exact h)]
    simp only [RD.abs]; congr 1
    funext m
    rw [bget_put]
    by_cases hm : m = n
    · simp [put1, hm, RF.abs]
    · simp [put1, hm]
  · rw [if_neg h, if_neg (by exact h)]
    simp only [RD.abs]; congr 1
    funext m
    rw [bget_del]
    by_cases hm : m = n
    · simp [put1, hm]
    · simp [put1, hm]
theorem settle_end {h0 h : Heap} {D E : Nat → Prop} {M : List Itm} {d : Nat} {r : RD} {n : List UInt8} {f : RF} (hn : (r.fs.map (·.1)).Nodup) (hg : bget r.fs n = some f) (hh : f.here = true)
    (ok : Hp h0 D (boxI f.blk 122 [.slice f.na f.nl.length f.nc, .slice f.na f.nl.length f.nc, .bool f.here, .bool f.here, .slice none 0 0] :: flsI (bdel r.fs n) :: dboxI d r :: mapI kvB r.m (ents r.fs) :: M) [bysI E r.fs] h) :
    Hp h0 D (dskI d (settleR r n f) :: M) [bysI E (settleR r n f).fs] h := by
  have he : settleR r n f = ⟨r.m, bput r.fs n ⟨f.blk, f.na, f.nc, f.nl, f.na, f.nc, f.nl, true, true, none, 0, []⟩, r.dark, r.left, r.chg⟩ := by unfold settleR; rw [if_pos hh]
  rw [he]
  have hb := (Bys.get ok.r0 hg)
  rw [hh] at ok
  have o1 := (ok.nilC (k := 3) (e := 117)).n1
  have o2 := Hp.fcls (n := n) (f := ⟨f.blk, f.na, f.nc, f.nl, f.na, f.nc, f.nl, true, true, none, 0, []⟩) hn o1
  have o3 := Hp.dcls (r := ⟨r.m, bput r.fs n ⟨f.blk, f.na, f.nc, f.nl, f.na, f.nc, f.nl, true, true, none, 0, []⟩, r.dark, r.left, r.chg⟩) (d := d) (M := M) (by
    have o4 := o2.n2.n2
    simp only
    rw [ents_same hg (by rfl)]
    exact o4)
  exact (o3.d0 (bysI E (bput r.fs n ⟨f.blk, f.na, f.nc, f.nl, f.na, f.nc, f.nl, true, true, none, 0, []⟩)) (Bys.put ok.r0 ⟨hb.now, hb.now, fun c hc => by cases hc⟩) (fun _ h => h)).e1
theorem settle_end0 {h0 h : Heap} {D E : Nat → Prop} {M : List Itm} {d : Nat} {r : RD} {n : List UInt8} {f : RF} (hh : f.here = false)
    (ok : Hp h0 D (flsI (bdel r.fs n) :: dboxI d r :: mapI kvB r.m (adel (ents r.fs) n) :: M) [bysI E r.fs] h) :
    Hp h0 D (dskI d (settleR r n f) :: M) [bysI E (settleR r n f).fs] h := by
  have he : settleR r n f = ⟨r.m, bdel r.fs n, r.dark, r.left, r.chg⟩ := by unfold settleR; rw [if_neg (by rw [hh]; decide)]
  rw [he]
  have o3 := Hp.dcls (r := ⟨r.m, bdel r.fs n, r.dark, r.left, r.chg⟩) (d := d) (M := M) (by
    have o4 := ok.n2.n2
    simp only
    rw [← ents_del]
    exact o4)
  exact (o3.d0 (bysI E (bdel r.fs n)) (Bys.del ok.r0) (fun _ h => h)).e1

set_option maxRecDepth 100000 in
set_option maxHeartbeats 2000000 in
theorem settle_any {h : Heap} {d : Nat} {r : RD} {E : Nat → Prop} {n : List UInt8} {f : RF} (ok : Hp h (dskI d r).F [dskI d r] [bysI E r.fs] h) (hg : bget r.fs n = some f) :
    HC Try.prog 71 #[.pointer (some ⟨d, 0, none⟩), .string (BA n), .pointer (some ⟨f.blk, 0, none⟩)] h (fun v h' => v = .tuple #[] ∧ Hp h (dskI d r).F [dskI d (settleR r n f)] [bysI E (settleR r n f).fs] h') := by
  refine HC.go Try.func71 33 ?_
  have hnd : (r.fs.map (·.1)).Nodup := (dsk_parts ok.m0).2.2.1
  have ok := ok.dopn
  have ok := Hp.fopn hnd hg ok.n2
  refine .seq <| .join (fun s hh => Has s [(0, .pointer (some ⟨d, 0, none⟩)), (1, .string (BA n)), (2, .pointer (some ⟨f.blk, 0, none⟩))] ∧ Hp h (dskI d r).F [boxI f.blk 122 [.slice f.na f.nl.length f.nc, .slice f.na f.nl.length f.nc, .bool f.here, .bool f.here, .slice none 0 0], flsI (bdel r.fs n), boxI d 113 [.map (some r.m), .bool r.dark, .int .i64 r.left, .int .i64 r.chg], mapI kvB r.m (ents r.fs)] [bysI E r.fs] hh) ?_ ?_
  · --
    refine .a 13 (fun fl hh => cond fl True (cell hh f.blk 0 = some (.slice f.na f.nl.length f.nc) ∧ cell hh f.blk 2 = some (.bool f.here))) mixed ?_
    have hS := (And.intro (box_cell (o := 0) (v := .slice f.na f.nl.length f.nc) ok.m0 rfl) (box_cell (o := 2) (v := .bool f.here) ok.m0 rfl))
    refine .g 0 false rfl 6 hS (fun _ => .mvP) <| .g 1 false rfl 7 hS (fun _ => .mvP) <| .g 2 false rfl 8 hS (fun _ => .mvP) <| .g 3 false rfl 9 hS (fun _ => .mvP) <| .g 4 false rfl 10 hS (fun _ => .nil) <| .g 5 false rfl 11 hS (fun _ => .fa T.fd122_0) <| .l 6 false rfl 12 hS (fun _ hS => .ld T.ag22 hS.1) <| .g 7 false rfl 13 hS (fun _ => .mvP) <| .g 8 false rfl 14 hS (fun _ => .nil) <| .g 9 false rfl 15 hS (fun _ => .fa T.fd122_2) <| .l 10 false rfl 16 hS (fun _ hS => .ld T.ag4 hS.2) <| .g 11 false rfl 17 hS (fun _ => .nil) <| .g 12 false rfl 18 hS (fun _ => .fa T.fd122_1) <| .o1 13 <| .ur' true rfl (.stS T.sz22 ok) ?_
    rintro η1 ⟨ok, cg⟩
    refine ⟨trivial, ?_⟩
    refine .g 14 true rfl 19 trivial (fun _ => .nil) <| .g 15 true rfl 20 trivial (fun _ => .fa T.fd122_3) <| .o1 16 <| .ur' true rfl (.stB T.sz4 ok) ?_
    rintro η2 ⟨ok, cg⟩
    refine ⟨trivial, ?_⟩
    refine .g 17 true rfl 21 trivial (fun _ => .nil) <| .g 18 true rfl 22 trivial (fun _ => .fa T.fd122_4) <| .o1 19 <| .ur' true rfl (.stS T.sz120 ok) ?_
    rintro η3 ⟨ok, cg⟩
    refine ⟨trivial, ?_⟩
    refine .e ?_
    refine .end <| ⟨⟨rfl, rfl, rfl, trivial⟩, ok.n4.n4.n4.n3.k4⟩
  rintro s η4 ⟨hs, ok⟩
  refine .frame hs fun τ => ?_
  refine .seq <| .r <| .w 23 .mvP <| .w 24 .nil <| .w 25 (.fa T.fd122_2) <| .w 26 (.ldx T.ag4 ok.m0) <| .w 27 .not <| .nil ?_
  refine .cond (fun C0 => ?_) (fun C0 => ?_)
  · --
    refine .r <| .w 28 .mvP <| .w 29 .nil <| .w 30 (.fa T.fd113_0) <| .w 31 (.ldx T.ag111 ok.m2) <| .w 32 .mvT <| .a0' (.del KV.ba n T.mp111 (stB_iff T.st9) ok.n3) ?_
    rintro _ η5 ⟨rfl, ok⟩
    refine .nil ?_
    refine .end <| ⟨.tuple #[], Res.none rfl, ⟨rfl, settle_end0 (by simpa using C0) (ok.n3.n3.k3)⟩⟩
  refine .skip <| .end <| ⟨.tuple #[], Res.none rfl, ⟨rfl, settle_end hnd hg (by simpa using C0) (ok.n3.n3.n3.n3)⟩⟩

@[reducible] def byfI (E : Nat → Prop) (f : RF) : Itm := ⟨fun h => ByF h E f, E, fun _ _ _ c d b => b.st c d⟩
def chgR (f : RF) (c : RC) (ya : Option Addr) (yc : Nat) (oa : Option Addr) (oc : Nat) : RF := ⟨f.blk, ya, yc, (doneN c.abs f.nl f.here).1, f.sa, f.sc, f.sl, (doneN c.abs f.nl f.here).2, f.was, oa, oc, f.ol ++ [c]⟩
theorem chgR_abs {f : RF} {c : RC} {ya yc oa oc} : (chgR f c ya yc oa oc).abs = chgF f.abs c.abs := by simp [chgR, RF.abs, chgF]
def newF (b : Nat) : RF := ⟨b, none, 0, [], none, 0, [], false, false, none, 0, []⟩
/-- The file that a change is done to. -/
def FileAt (r : RD) (n : List UInt8) (f : RF) : Prop := f.abs = ((r.abs.fs n).getD noF)
theorem fileAt_some {r : RD} {n : List UInt8} {f : RF} (h : bget r.fs n = some f) : FileAt r n f := by simp [FileAt, RD.abs, h]
theorem fileAt_new {r : RD} {n : List UInt8} {b : Nat} (h : bget r.fs n = none) : FileAt r n (newF b) := by simp [FileAt, RD.abs, h, newF, RF.abs, noF]
theorem ents_blk {fs : Fs} {n : List UInt8} {f g : RF} (h : f.blk = g.blk) : ents (bput fs n f) = ents (bput fs n g) := by rw [← ents_put, ← ents_put, ptrF, ptrF, h]
theorem do_end {h0 h : Heap} {D E : Nat → Prop} {M R : List Itm} {d : Nat} {r : RD} {n : List UInt8} {f : RF} {c : RC} {ya oa : Option Addr} {yc oc : Nat} (hl : ¬ r.left = 0) (hn : (r.fs.map (·.1)).Nodup) (hf : FileAt r n f)
    (ok : Hp h0 D (boxI f.blk 122 [.slice ya (doneN c.abs f.nl f.here).1.length yc, .slice f.sa f.sl.length f.sc, .bool (doneN c.abs f.nl f.here).2, .bool f.was, .slice oa (f.ol ++ [c]).length oc] :: capI 3 117 (oa, (f.ol ++ [c]).length, oc) ((f.ol ++ [c]).flatMap RC.cells) :: flsI (bdel r.fs n) :: boxI d 113 [.map (some r.m), .bool r.dark, .int .i64 (lfR r), .int .i64 (r.chg + 1)] :: mapI kvB r.m (ents (bput r.fs n f)) :: capI 1 5 (ya, (doneN c.abs f.nl f.here).1.length, yc) ((doneN c.abs f.nl f.here).1.map bv) :: M)
      (byfI E f :: bysI E r.fs :: rdI E E (c.ba, c.bl.length, c.bc) c.bl :: R) h) :
    ∃ (r' : RD) (E' : Nat → Prop), r'.abs = (doN r.abs n c.abs).1 ∧ Hp h0 D (dskI d r' :: M) (bysI E' r'.fs :: R) h ∧ ∀ j, E' j → E j ∨ blkC (sv (ya, (doneN c.abs f.nl f.here).1.length, yc)) j := by
  refine ⟨⟨r.m, bput r.fs n (chgR f c ya yc oa oc), r.dark, lfR r, r.chg + 1⟩, fun j => E j ∨ blkC (sv (ya, (doneN c.abs f.nl f.here).1.length, yc)) j, ?_, ?_, fun _ h => h⟩
  · unfold doN
    rw [if_neg (by exact hl)]
    simp only [RD.abs]
    congr 1
    · funext m
      rw [bget_put]
      by_cases hm : m = n
      · subst hm
        have := hf
        unfold FileAt at this
        simp only [RD.abs] at this
        rw [if_pos rfl, Option.map_some, chgR_abs, this]
        simp [put1]
      · simp [put1, hm]
  · have o1 := Hp.frzB (l := (doneN c.abs f.nl f.here).1) (Hp.n5 ok) rfl
    have o2 := Hp.fcls (n := n) (f := chgR f c ya yc oa oc) hn o1
    have o3 := Hp.dcls (r := ⟨r.m, bput r.fs n (chgR f c ya yc oa oc), r.dark, lfR r, r.chg + 1⟩) (d := d) (M := M) (by
      have o4 := o2.n2.n2
      simp only
      rw [ents_blk (f := chgR f c ya yc oa oc) (g := f) rfl]
      exact o4)
    have hby : Bys h (fun j => E j ∨ blkC (sv (ya, (doneN c.abs f.nl f.here).1.length, yc)) j) (bput r.fs n (chgR f c ya yc oa oc)) := by
      refine Bys.put (Bys.mono (fun _ h => .inl h) o3.r2) ⟨?_, ?_, fun x hx => ?_⟩
      · exact RdL.mono (fun _ h => .inr h) (fun _ f => f.elim) o3.r0
      · exact RdL.mono (fun _ h => .inl h) (fun _ h => .inl h) o3.r1.safe
      · rcases List.mem_append.1 hx with hx | hx
        · exact RdL.mono (fun _ h => .inl h) (fun _ h => .inl h) (o3.r1.opn x hx)
        · rw [List.mem_singleton.1 hx]
          exact RdL.mono (fun _ h => .inl h) (fun _ h => .inl h) o3.r3
    exact ((o3.or (r := rdI (blkC (sv (ya, (doneN c.abs f.nl f.here).1.length, yc))) none_ (ya, (doneN c.abs f.nl f.here).1.length, yc) (doneN c.abs f.nl f.here).1) (r' := byfI E f) (by simp) (by simp) (bysI _ _) hby (fun j hj => hj.elim .inr fun h => .inl (.inl h))).sub (by
      intro i hi
      simp only [List.mem_cons] at hi ⊢
      rcases hi with h | h
      · exact .inl h
      · exact .inr (.inr (.inr (.inr (.inr h))))))
theorem byfI_new {h : Heap} {E : Nat → Prop} {b : Nat} : ByF h E (newF b) := ⟨RdL.nil _ _ _, RdL.nil _ _ _, fun _ h => by cases h⟩

set_option maxRecDepth 100000 in
set_option maxHeartbeats 2000000 in
theorem do_any {h : Heap} {d : Nat} {r : RD} {E : Nat → Prop} {n : List UInt8} {kind pos : Nat} {ba : Option Addr} {bc : Nat} {bl : List UInt8} (ok : Hp h (dskI d r).F [dskI d r] [bysI E r.fs] h) (hk : DkOk r.abs) (hcg : r.chg < 1000000000) (hb : RdL h E E (ba, bl.length, bc) bl) (hc : ChOk ⟨kind, pos, bl⟩) :
    HC Try.prog 66 #[.pointer (some ⟨d, 0, none⟩), .string (BA n), .agg #[.int .i64 (kind : Int), .int .i64 (pos : Int), .slice ba bl.length bc]] h (fun v h' => ∃ r' E', v = .int .i64 ((doN r.abs n ⟨kind, pos, bl⟩).2 : Int) ∧ r'.abs = (doN r.abs n ⟨kind, pos, bl⟩).1 ∧ DUp h h' d r r' E E') := by
  have ok := ok.d0 (rdI E E (ba, bl.length, bc) bl) hb (fun _ h => h.elim id id)
  have hc0 : 0 ≤ r.chg := hk.chg
  have hfit : pos + bl.length ≤ 16777216 := hc.fit
  refine HC.go Try.func66 59 ?_
  refine .seq <| .r <| .a' 5 (.bxA (cs := [.int .i64 (kind : Int), .int .i64 (pos : Int), .slice ba bl.length bc]) ok) ?_
  rintro _ η1 ⟨pb1, rfl, ok, xe⟩
  refine .w 6 .asI <| .nil ?_
  refine .seq <| .seq <| .r <| .w 9 .mvP <| .c' 10 .func (power_any (ok.n1).loc0 hk hcg) ?_
  rintro _ η2 ⟨rfl, q⟩
  have ok := (ok.n1).lift1 q
  refine .w 7 .asI <| .nil ?_
  refine .seq <| .r <| .w 11 .mvI <| .w 12 .neq <| .nil ?_
  refine .cd (fun C0 => ?_) (fun C0 => ?_)
  · --
    have hp0 : r.left = 0 := by by_cases h : r.left = 0; exact h; exact absurd (by rw [powerR_1 h]; rfl) C0
    refine .seq <| .r <| .w 13 .mvI <| .w 6 .asI <| .nil ?_
    refine .ret ⟨.int .i64 ((powerR r).2 : Int), Res.one rfl rfl, ⟨(powerR r).1, E, by unfold doN powerN; rw [if_pos (by exact hp0), if_pos (by exact hp0), powerR_0 hp0], by unfold doN; rw [if_pos (by exact hp0), (powerR_abs r).1], ⟨by rw [powerR_fs]; exact ok.k1.tR, fun _ h => .inl h⟩⟩⟩
  have hpl : ¬ r.left = 0 := fun h => by rw [powerR_0 h] at C0; exact C0 (by simp)
  have hnd : (r.fs.map (·.1)).Nodup := by have := (dsk_parts (ok).m0).2.2.1; rwa [powerR_fs] at this
  have ok := ok
  rw [powerR_1 hpl] at ok
  have ok := ok.dopn
  refine .skip <| .seq <| .r <| .w 14 .mvP <| .w 15 .nil <| .w 16 (.fa T.fd113_0) <| .w 17 (.ldx T.ag111 ok.m0) <| .w 18 .mvT <| .w 19 (.lk KV.ba n (v := .pointer (ptrN (bget r.fs n))) T.mp111 (stB_iff T.st9) T.zr118 ok.m1 (by exact ents_getD)) <| .w 8 .asP <| .nil ?_
  refine .seq <| .seq <| .r <| .w 20 .mvP <| .w 21 (.pEq T.pt118) <| .nil ?_
  refine .join (fun s hh => ∃ (f : RF), Has s [(5, .pointer (some ⟨pb1, 0, none⟩)), (8, .pointer (some ⟨f.blk, 0, none⟩))] ∧ Hp h (dskI d r).F [boxI f.blk 122 [.slice f.na f.nl.length f.nc, .slice f.sa f.sl.length f.sc, .bool f.here, .bool f.was, .slice f.oa f.ol.length f.oc], capI 3 117 (f.oa, f.ol.length, f.oc) (f.ol.flatMap RC.cells), flsI (bdel r.fs n), boxI d 113 [.map (some r.m), .bool r.dark, .int .i64 (lfR r), .int .i64 (r.chg + 1)], mapI kvB r.m (ents (bput r.fs n f)), boxI pb1 117 [.int .i64 (kind : Int), .int .i64 (pos : Int), .slice ba bl.length bc]] [byfI E f, rdI E E (ba, bl.length, bc) bl, bysI E r.fs] hh ∧ FileAt r n f) ?_ ?_
  · --
    refine .cond (fun C1 => ?_) (fun C1 => ?_)
    · --
      have hg : bget r.fs n = none := by (cases hb : bget r.fs n with | none => rfl | some x => (rw [hb] at C1; simp [ptrN] at C1))
      refine .seq <| .r <| .w 22 (.bd #[.slice none 0 0, .slice none 0 0, .bool false, .bool false, .slice none 0 0] T.zr122 T.pl122 rfl) <| .a' 23 (.bxA (cs := [.slice none 0 0, .slice none 0 0, .bool false, .bool false, .slice none 0 0]) ok) ?_
      rintro _ η3 ⟨pb2, rfl, ok, xe⟩
      refine .w 8 .asP <| .nil ?_
      refine .r <| .w 24 .mvP <| .w 25 .nil <| .w 26 (.fa T.fd113_0) <| .w 27 (.ldx T.ag111 ok.m1) <| .w 28 .mvT <| .w 29 .mvP <| .ur' (.mpu KV.ba sbB n (v := (ptrF (newF pb2))) T.mp111 (stB_iff T.st9) ok.n2) ?_
      rintro η4 ok
      refine .nil ?_
      refine .end <| ⟨(newF pb2), ⟨rfl, rfl, trivial⟩, (by rw [show ents (bput r.fs n (newF pb2)) = aput (ents r.fs) n (ptrF (newF pb2)) from ents_put.symm, bdel_none hg]; exact (Hp.n1 (Hp.nilC (k := 3) (e := 117) (ok.n4.n1.n3.n4.n4))).d1 (byfI E (newF pb2)) byfI_new (fun _ h => h)), fileAt_new hg⟩
    obtain ⟨f, hg⟩ : ∃ f0, bget r.fs n = some f0 := by (cases hb : bget r.fs n with | none => (rw [hb] at C1; simp [ptrN] at C1) | some x => exact ⟨x, rfl⟩)
    rw [hg]
    simp only [ptrN, Option.map_some]
    have ok := Hp.fopn hnd hg (ok.n2)
    have ok := ok.d1 (byfI E f) (Bys.get ok.r1 hg) (fun _ h => h)
    refine .skip <| .end <| ⟨f, ⟨rfl, rfl, trivial⟩, (by rw [show ents (bput r.fs n f) = ents r.fs from ents_same hg rfl]; exact ok.n5.n5.n5.n5.n5.n5), fileAt_some hg⟩
  rintro s η5 ⟨f, hs, ok, hfa⟩
  refine .frame hs fun τ => ?_
  have hnl : f.nl.length ≤ 16777216 := by have := (hk.getD n).1.now; rw [← hfa] at this; exact this
  have hol : (f.ol.flatMap RC.cells).length = f.ol.length * 3 := flat_len RC.cells_len _
  have hoc : (f.ol.length : Int) ≤ r.chg := by have h9 := (hk.getD n).2; rw [← hfa] at h9; simpa [RF.abs] using (show _ ≤ r.chg from h9)
  refine .seq <| ?_
  have ok := ok.d0 (rdI E E (f.na, f.nl.length, f.nc) f.nl) (ok.r0).now (fun _ h => h.elim id id)
  refine .a 11 (fun fl hh => cond fl True (Hp h (dskI d r).F [boxI f.blk 122 [.slice f.na f.nl.length f.nc, .slice f.sa f.sl.length f.sc, .bool f.here, .bool f.was, .slice f.oa f.ol.length f.oc], capI 3 117 (f.oa, f.ol.length, f.oc) (f.ol.flatMap RC.cells), flsI (bdel r.fs n), boxI d 113 [.map (some r.m), .bool r.dark, .int .i64 (lfR r), .int .i64 (r.chg + 1)], mapI kvB r.m (ents (bput r.fs n f)), boxI pb1 117 [.int .i64 (kind : Int), .int .i64 (pos : Int), .slice ba bl.length bc]] [rdI E E (f.na, f.nl.length, f.nc) f.nl, byfI E f, rdI E E (ba, bl.length, bc) bl, bysI E r.fs] hh)) mixed ?_
  have hS := ok
  refine .g 0 false rfl 31 hS (fun _ => .mvP) <| .g 1 false rfl 32 hS (fun _ => .mvP) <| .l 2 false rfl 33 hS (fun _ hS => .ldb T.ag117 hS.m5 T.sz117) <| .g 3 false rfl 34 hS (fun _ => .mvP) <| .g 4 false rfl 35 hS (fun _ => .nil) <| .g 5 false rfl 36 hS (fun _ => .fa T.fd122_0) <| .l 6 false rfl 37 hS (fun _ hS => .ldx T.ag22 hS.m0) <| .g 7 false rfl 38 hS (fun _ => .mvP) <| .g 8 false rfl 39 hS (fun _ => .nil) <| .g 9 false rfl 40 hS (fun _ => .fa T.fd122_2) <| .l 10 false rfl 41 hS (fun _ hS => .ldx T.ag4 hS.m0) <| .o1 11 <| .c' true rfl 42 .func (done_any (kind := kind) (pos := pos) (ba := ba) (bc := bc) (bl := bl) (a := f.na) (c := f.nc) (l := f.nl) (here := f.here) ok.r2 ok.r0 (by omega) (by omega)) ?_
  rintro _ η6 ⟨_, rfl, own⟩
  obtain ⟨ya1, yc1, rfl⟩ := own.formB
  have hyf := fun j hj => Nat.le_trans ok.chg.size (own.fresh j hj)
  have ok := ok.own own
  refine ⟨trivial, ?_⟩
  refine .g 12 true rfl 30 trivial (fun _ => .mvU) <| .g 13 true rfl 43 trivial (fun _ => .ex) <| .g 14 true rfl 44 trivial (fun _ => .ex) <| .g 15 true rfl 45 trivial (fun _ => .nil) <| .g 16 true rfl 46 trivial (fun _ => .fa T.fd122_0) <| .o1 17 <| .ur' true rfl (.stS T.sz22 ok.n1) ?_
  rintro η7 ⟨ok, cg⟩
  refine ⟨trivial, ?_⟩
  refine .g 18 true rfl 47 trivial (fun _ => .nil) <| .g 19 true rfl 48 trivial (fun _ => .fa T.fd122_2) <| .o1 20 <| .ur' true rfl (.stB T.sz4 ok) ?_
  rintro η8 ⟨ok, cg⟩
  refine ⟨trivial, ?_⟩
  refine .e ?_
  refine .seq <| .a 10 (fun fl hh => cond fl True (Hp h (dskI d r).F [boxI f.blk 122 [.slice ya1 ((doneN ⟨kind, pos, bl⟩ f.nl f.here).1.length) yc1, .slice f.sa f.sl.length f.sc, .bool ((doneN ⟨kind, pos, bl⟩ f.nl f.here).2), .bool f.was, .slice f.oa f.ol.length f.oc], capI 1 5 (ya1, (doneN ⟨kind, pos, bl⟩ f.nl f.here).1.length, yc1) ((doneN ⟨kind, pos, bl⟩ f.nl f.here).1.map bv), flsI (bdel r.fs n), boxI d 113 [.map (some r.m), .bool r.dark, .int .i64 (lfR r), .int .i64 (r.chg + 1)], mapI kvB r.m (ents (bput r.fs n f)), boxI pb1 117 [.int .i64 (kind : Int), .int .i64 (pos : Int), .slice ba bl.length bc]] [rdI E E (f.na, f.nl.length, f.nc) f.nl, byfI E f, rdI E E (ba, bl.length, bc) bl, bysI E r.fs] hh)) mixed ?_
  have hS := ok.n6.n6.n6.n6.n5.n5.k6
  refine .g 0 false rfl 49 hS (fun _ => .mvP) <| .g 1 false rfl 50 hS (fun _ => .mvP) <| .g 2 false rfl 51 hS (fun _ => .nil) <| .g 3 false rfl 52 hS (fun _ => .fa T.fd122_4) <| .l 4 false rfl 53 hS (fun _ hS => .ldx T.ag120 hS.m0) <| .l 5 false rfl 54 hS (fun _ hS => .ldb T.ag117 hS.m5 T.sz117) <| .o1 6 <| .a' false rfl 55 (.lit [.tmp 54] (cs := [.int .i64 (kind : Int), .int .i64 (pos : Int), .slice ba bl.length bc]) T.el120 T.sz117 T.zr117 ok ⟨rfl, trivial⟩) ?_
  rintro _ η9 ⟨pb3, rfl, ok, xe⟩
  refine ⟨ok.n7.n7.n7.n7.n6.n6.k6, ?_⟩
  have hS := ok.n7.n7.n7.n7.n6.n6.k6
  refine .o1 7 <| .a' false rfl 56 (.app (news := [.int .i64 (kind : Int), .int .i64 (pos : Int), .slice ba bl.length bc]) T.el120 T.sz117 T.by117 T.zr117 ok.n3 (ok.n3.m1).sl (oneL rfl) (by rw [hol]; simp only [List.length_cons, List.length_nil]; omega)) ?_
  rintro _ η10 ⟨ya2, yn1, yc2, rfl, ok, ap⟩
  refine ⟨ok.n7.n7.n7.n7.n7.n7.k6, ?_⟩
  have hS := ok.n7.n7.n7.n7.n7.n7.k6
  refine .g 8 false rfl 57 hS (fun _ => .nil) <| .g 9 false rfl 58 hS (fun _ => .fa T.fd122_4) <| .o1 10 <| .ur' true rfl (.stS T.sz120 ok.n2) ?_
  rintro η11 ⟨ok, cg⟩
  refine ⟨trivial, ?_⟩
  refine .e ?_
  refine .seq <| .r <| .w 6 .asI <| .nil ?_
  have ok := (ok.n1).cx (ys := (f.ol ++ [(⟨kind, pos, ba, bc, bl⟩ : RC)]).flatMap RC.cells) (by simp [RC.cells])
  obtain rfl : yn1 = (f.ol ++ [(⟨kind, pos, ba, bc, bl⟩ : RC)]).length := (Sl.sz (Cap.sl ok.m0) RC.cells_len (by decide)).1.symm
  refine .ret ⟨.int .i64 0, Res.one rfl rfl, (by obtain ⟨r2, E2, h1, h2, h3⟩ := do_end (n := n) (f := f) (c := ⟨kind, pos, ba, bc, bl⟩) hpl hnd hfa (ok.n3.n6.n6.n6.n4.n5.f2.f3.f3); exact ⟨r2, E2, by unfold doN; rw [if_neg (by exact hpl)]; rfl, h1, h2.k1.up fun j hj => (h3 j hj).imp id (fun h9 => hyf j h9)⟩)⟩

end Go.Proofs.Ytpebbkhainpfaaa
