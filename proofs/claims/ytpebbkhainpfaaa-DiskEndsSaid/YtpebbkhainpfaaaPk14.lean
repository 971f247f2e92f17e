/- A disk has just the document's files; the law DiskPlays. Conditions: the calls are readable. The law DiskEnds: a crash that keeps nothing, one that keeps all; a copy crashes for itself. Conditions: the calls are readable. How a law whose call returns true and turns nothing old closes its row. Conditions: those that each fact names. How arguments that come in read: types opened one by one. Conditions: those that each fact names. The calls that come in to the laws on disks, opened. Conditions: none. The law DiskEnds at arguments as they come in. Conditions: they are readable. The law DiskEnds returns true at every input and leaves its arguments as they were. Conditions: none. -/
import Derived.Test.YtpebbkhainpfaaaPk13
import Derived.ProofKit
import Derived.OpenShut
import Derived.Below
import Derived.Carry
import Derived.Deep.Slices
import Derived.ChangeArms
import Derived.ChangeMaps5
import Derived.Test.YtpebbkhainpfaaaRows
namespace Go.HL
open Go
theorem Hp.rdo3 {h0 h : Heap} {D : Nat → Prop} {M R : List Itm} {a b c : Itm} (ok : Hp h0 D (a :: M) (b :: c :: R) h) : Hp h none_ [] [a, b, c] h :=
  ⟨Chg.refl _ _, by simp, fun i hi => by
    rcases List.mem_cons.1 hi with rfl | hi
    · exact ⟨ok.m0, fun j hj => ((ok.m i List.mem_cons_self).2 j hj).1⟩
    · exact ok.r i (by simp at hi ⊢; rcases hi with h | h <;> simp [h]), .nil, by simp⟩
end Go.HL
namespace Go.Proofs.Ytpebbkhainpfaaa
open Go Go.HL
theorem srt_ext : ∀ {a b : List (List UInt8)}, a.Pairwise (· < ·) → b.Pairwise (· < ·) → (∀ x, x ∈ a ↔ x ∈ b) → a = b
  | [], [], _, _, _ => rfl
  | [], y :: b, _, _, h => absurd ((h y).2 List.mem_cons_self) (by simp)
  | x :: a, [], _, _, h => absurd ((h x).1 List.mem_cons_self) (by simp)
  | x :: a, y :: b, ha, hb, h => by
    have ha' := List.pairwise_cons.1 ha
    have hb' := List.pairwise_cons.1 hb
    have hxy : x = y := by
      rcases List.mem_cons.1 ((h x).1 List.mem_cons_self) with e | e
      · exact e
      · rcases List.mem_cons.1 ((h y).2 List.mem_cons_self) with e2 | e2
        · exact e2.symm
        · exact absurd (hb'.1 x e) (lt_asymm' (ha'.1 y e2))
    subst hxy
    rw [srt_ext ha'.2 hb'.2 fun z => ?_]
    constructor
    · intro hz
      rcases List.mem_cons.1 ((h z).1 (List.mem_cons_of_mem _ hz)) with e | e
      · subst e; exact absurd (ha'.1 z hz) (List.lt_irrefl _)
      · exact e
    · intro hz
      rcases List.mem_cons.1 ((h z).2 (List.mem_cons_of_mem _ hz)) with e | e
      · subst e; exact absurd (hb'.1 z hz) (List.lt_irrefl _)
      · exact e
theorem lk_iff {l : List WF} {n : List UInt8} : (lk l n).isSome = true ↔ n ∈ l.map (·.n) := by
  induction l with
  | nil => simp [lk]
  | cons f l ih =>
    rw [lk_cons]
    by_cases h : f.n = n
    · rw [if_pos h]; simp [h]
    · rw [if_neg h, ih]; simp [Ne.symm h]
/-- The files that are there, by a list that tells them. -/
theorem files_eq {d : Dk} {S : List (List UInt8)} {L : List WF} (hd : d.dark = false) (hK : Keys d.fs S) (hL : Srt L) (h : ∀ n, nowO d n = lk L n) : filesN d S = L.map (·.n) := by
  unfold filesN
  rw [if_neg (by rw [hd]; decide)]
  refine srt_ext (hK.up.filter _) (List.pairwise_map.2 hL) fun n => ?_
  rw [← lk_iff, ← h n, List.mem_filter, hK.iff]
  unfold nowO thereN
  cases d.fs n with
  | none => simp
  | some f => simp only [Option.bind_some, nowF, optB, Option.isSome_some]; cases f.here <;> simp
theorem Rel.files {d : Dk} {w : WD} {S : List (List UInt8)} (R : Rel d w) (hK : Keys d.fs S) : filesN d S = filesW w := by
  unfold filesW
  rw [← R.dark]
  cases hd : d.dark with
  | true => unfold filesN; rw [hd]; rfl
  | false => rw [if_neg (by decide)]; exact files_eq hd hK R.snow R.now
theorem file_read {d : Dk} {L : List WF} {f : WF} (hd : d.dark = false) (hL : Srt L) (h : ∀ n, nowO d n = lk L n) (hlim : Lim d) (hn : ∀ n f, d.fs n = some f → n ≠ [] ∧ n.length ≤ 32) (hf : f ∈ L) : readN d f.n 0 1048576 = (f.b, 0) := by
  have h1 := h f.n
  rw [lk_mem hL hf] at h1
  unfold nowO at h1
  cases hg : d.fs f.n with
  | none => rw [hg] at h1; cases h1
  | some g =>
    rw [hg] at h1
    simp only [Option.bind_some, nowF, optB] at h1
    cases hh : g.here with
    | false => rw [hh] at h1; cases h1
    | true =>
      rw [hh] at h1
      have h2 : g.now = f.b := Option.some.inj h1
      obtain ⟨h3, h4⟩ := hn _ _ hg
      have h5 : wrongN d f.n [0, 1048576] = 0 := by
        unfold wrongN
        rw [if_neg, if_neg (by rw [hd]; decide)]
        rintro (e | e | ⟨z, hz, e⟩)
        · exact h3 (List.eq_nil_of_length_eq_zero (by omega))
        · omega
        · simp at hz; rcases hz with rfl | rfl <;> omega
      have h6 := (hlim _ _ hg).now
      unfold readN
      rw [h5, if_neg (by decide), hg]
      simp only
      rw [if_neg (by rw [hh]; decide), h2]
      have e1 : (0 : Int).toNat = 0 := rfl
      have e2 : (1048576 : Int).toNat = 1048576 := rfl
      rw [e1, e2, List.drop_zero, List.take_of_length_le (by rw [← h2]; omega)]
theorem Rel.has_i {d : Dk} {w : WD} {S : List (List UInt8)} (R : Rel d w) (hlim : Lim d) (hK : Keys d.fs S) {i : Nat} (hi : i < (filesN d S).length) : ∃ h2 : i < w.now.length, (filesN d S)[i] = w.now[i].n ∧ readN d w.now[i].n 0 1048576 = (w.now[i].b, 0) := by
  have hd : d.dark = false := by
    cases h : d.dark with
    | false => rfl
    | true => unfold filesN at hi; rw [if_pos h] at hi; simp at hi
  have he := files_eq hd hK R.snow R.now
  have h2 : i < w.now.length := by have := congrArg List.length he; rw [List.length_map] at this; omega
  refine ⟨h2, by simp only [he, List.getElem_map], file_read hd R.snow R.now hlim (fun n f h => (R.fs n f h).2.2) (List.getElem_mem h2)⟩

set_option maxRecDepth 100000 in
set_option maxHeartbeats 2000000 in
theorem has_any {h : Heap} {d : Nat} {r : RD} {E EW : Nat → Prop} {sa na pa : Option Addr} {sc nc pc : Nat} {sl nl : List RWF} {pl : List RWC} {lf : Int} {gn : Bool} {mn : Int} (ok : Hp h none_ [] [dskI d r, bysI E r.fs, docI EW ⟨sa, sc, sl, na, nc, nl, pa, pc, pl, lf, gn, mn⟩] h) (hk : DkOk r.abs) (hc : r.chg ≤ 300) (R : Rel r.abs (RW.abs ⟨sa, sc, sl, na, nc, nl, pa, pc, pl, lf, gn, mn⟩)) (hlim : Lim r.abs) : HC Try.prog 40 #[.pointer (some ⟨d, 0, none⟩), .agg #[.slice sa sl.length sc, .slice na nl.length nc, .slice pa pl.length pc, .int .i64 lf, .bool gn, .int .i64 mn]] h (fun v h' => v = .bool true ∧ Ext h h') := by
  have hws := R.ws hk hc
  have hdk : r.dark = gn := R.dark
  have hch : r.chg = mn := R.chg
  have ok := ok.d2 (flwI EW (na, nl.length, nc) nl) ok.r2.n (fun _ h => h)
  have hnm := ok.r0.m
  refine HC.go Try.func40 72 ?_
  refine .seq <| .r <| .a' 3 (.bxA (cs := [.slice sa sl.length sc, .slice na nl.length nc, .slice pa pl.length pc, .int .i64 lf, .bool gn, .int .i64 mn]) ok) ?_
  rintro _ η1 ⟨pb1, rfl, ok, xe⟩
  refine .w 4 .asB <| .nil ?_
  refine .seq <| .r <| .w 9 .mvP <| .c' 10 .func (files_any (d := d) (r := r) (E := E) (rdR (ok.r1) (ok.r2) (ok.l1) (ok.l2)) hk (by omega)) ?_
  rintro _ η2 ⟨S1, hKS1, own⟩
  obtain ⟨ya1, nS1, yc1, rfl⟩ := own.form3
  have ok := ok.own own
  obtain rfl : nS1 = (filesN r.abs S1).length := Cap.lenN ok.m0
  refine .w 5 .asS <| .nil ?_
  refine .seq <| .seq <| .a 20 (fun fl hh => Hp h none_ [capI 1 9 (ya1, (filesN r.abs S1).length, yc1) ((filesN r.abs S1).map kvB), boxI pb1 69 [.slice sa sl.length sc, .slice na nl.length nc, .slice pa pl.length pc, .int .i64 lf, .bool gn, .int .i64 mn]] [flwI EW (na, nl.length, nc) nl, dskI d r, bysI E r.fs, docI EW ⟨sa, sc, sl, na, nc, nl, pa, pc, pl, lf, gn, mn⟩] hh) mixed ?_
  have hS := ok
  refine .g 0 false rfl 11 hS (fun _ => .mvP) <| .g 2 false rfl 13 hS (fun _ => .fa T.fd69_4) <| .lw 3 false rfl 14 hS (fun _ _ hS => .ldx T.ag4 hS.m1) <| .o1 1 <| .k false rfl 12 .func (dark_any (d := d) (r := r) (dsk_parts (ok.r1)).1) hS <| .g 4 false rfl 15 hS (fun _ => .bNe T.bo4) <| .g 5 false rfl 16 hS (fun _ => .mvB) <| .spl (fun G16 => ?_) (fun G16 => ?_)
  ·
    exact absurd hdk (by simpa using G16)
  refine .g 6 false rfl 17 hS (fun _ => .mvP) <| .g 8 false rfl 19 hS (fun _ => .fa T.fd69_5) <| .lw 9 false rfl 20 hS (fun _ _ hS => .ldx T.ag3 hS.m1) <| .o1 7 <| .k false rfl 18 .func (changes_any (d := d) (r := r) (dsk_parts (ok.r1)).1) hS <| .g 10 false rfl 21 hS (fun _ => .neq) <| .g 11 false rfl 22 hS (fun _ => .pkf) <| .g 12 false rfl 23 hS (fun _ => .mvB) <| .sd (fun G23 => ?_) (fun G23 => ?_)
  ·
    exact absurd hch G23
  refine .g 13 false rfl 24 hS (fun _ => .mvS) <| .g 14 false rfl 25 hS (fun _ => .len T.el82) <| .lw 15 false rfl 26 hS (fun _ _ hS => .ldb T.ag69 hS.m1 T.sz69) <| .o1 16 <| .c' false rfl 27 .func (dfiles_any (E := EW) (sa := sa) (sc := sc) (sl := sl) (na := na) (nc := nc) (nl := nl) (pa := pa) (pc := pc) (pl := pl) (lf := lf) (gn := gn) (mn := mn) (ok.r3) hws) ?_
  rintro _ η3 own
  obtain ⟨ya2, yn1, yc2, rfl⟩ := own.form3
  have ok := ok.own own
  obtain rfl : yn1 = (filesW (RW.abs ⟨sa, sc, sl, na, nc, nl, pa, pc, pl, lf, gn, mn⟩)).length := Cap.lenN ok.m0
  refine ⟨ok.n2.n2.k2, ?_⟩
  have hS := ok.n2.n2.k2
  refine .g 17 false rfl 28 hS (fun _ => .len T.el82) <| .g 18 false rfl 29 hS (fun _ => .neq) <| .g 19 false rfl 30 hS (fun _ => .pkf) <| .e ?_
  refine .cd (fun C0 => ?_) (fun C0 => ?_)
  · --
    exact absurd (congrArg List.length (R.files hKS1)) (by omega)
  refine .skip <| .seq <| .seq <| .r <| .w 6 .asI <| .nil ?_
  refine .block fun K0 hK0 => .loop (fun m s hh => ∃ (i : Nat), Has s [(0, .pointer (some ⟨d, 0, none⟩)), (3, .pointer (some ⟨pb1, 0, none⟩)), (5, .slice ya1 ((filesN r.abs S1).length) yc1), (6, .int .i64 (i : Int))] ∧ Hp h none_ [capI 1 9 (ya2, (filesW (RW.abs ⟨sa, sc, sl, na, nc, nl, pa, pc, pl, lf, gn, mn⟩)).length, yc2) ((filesW (RW.abs ⟨sa, sc, sl, na, nc, nl, pa, pc, pl, lf, gn, mn⟩)).map kvB), capI 1 9 (ya1, (filesN r.abs S1).length, yc1) ((filesN r.abs S1).map kvB), boxI pb1 69 [.slice sa sl.length sc, .slice na nl.length nc, .slice pa pl.length pc, .int .i64 lf, .bool gn, .int .i64 mn]] [flwI EW (na, nl.length, nc) nl, dskI d r, bysI E r.fs, docI EW ⟨sa, sc, sl, na, nc, nl, pa, pc, pl, lf, gn, mn⟩] hh ∧ i ≤ (filesN r.abs S1).length ∧ m = (filesN r.abs S1).length - i) ?_ ?_
  · exact ⟨_, 0, ⟨rfl, rfl, rfl, rfl, trivial⟩, ok, Nat.zero_le _, rfl⟩
  rintro _ _ η4 ⟨i, hs, ok, hi, rfl⟩ J0 hJ0
  refine .frame hs fun τ => ?_
  refine .seq <| .seq <| .r <| .w 31 .mvI <| .w 32 .mvS <| .w 33 (.len T.el82) <| .w 34 .lss <| .nil ?_
  refine .cdr (fun C1 => ?_) (fun C1 => ?_)
  · --
    refine .exit <| hK0 _ _ <| .seq <| .r <| .w 4 .asB <| .nil ?_
    refine .ret ⟨.bool true, Res.one rfl rfl, ⟨rfl, ok.chg⟩⟩
  have hil : i < (filesN r.abs S1).length := by omega
  obtain ⟨hi2, hfi, hri⟩ := R.has_i hlim hKS1 hil
  have hin : i < nl.length := by simpa [RW.abs] using hi2
  have hwi : (RW.abs ⟨sa, sc, sl, _, nc, nl, pa, pc, pl, lf, gn, mn⟩).now[i] = nl[i].abs := List.getElem_map _
  rw [hwi] at hfi hri
  have ok := ok.d0 (rdI EW EW (nl[i].ba, nl[i].bl.length, nl[i].bc) nl[i].bl) ((ok.r0).by' _ (List.getElem_mem hin)) (fun _ h => h.elim id id)
  refine .skip <| .seq <| .block fun K1 hK1 => .seq <| .r <| .w 38 .mvP <| .w 39 .mvS <| .w 40 .mvI <| ?_
  obtain ⟨bb1, oo1, rfl, fb1⟩ := ok.m1.pos (n := (filesN r.abs S1).length) (by omega)
  refine .w 41 (.ix1 i T.el82 T.sz9) <| .w 42 (.ld T.ag9 (Cap.nm ok.m1 (i := i) (by omega))) <| .c' 43 .func (read_anyD (d := d) (r := r) (E := E) (n := (filesN r.abs S1)[i]) (y := 0) (z := 1048576) (rdR (ok.r2) (ok.r3) (ok.l2) (ok.l3)) hk ⟨by omega, by omega⟩ ⟨by omega, by omega⟩) ?_
  rintro _ η5 ⟨w, rfl, own⟩
  obtain ⟨ya3, yc3, rfl⟩ := own.formB
  have ok := ok.own own
  refine .w 37 .mvU <| .w 44 .ex <| .w 45 .ex <| .w 7 .asS <| .w 8 .asI <| .nil ?_
  refine .seq <| .q (hm := mixed) <| .w 46 .mvS <| .w 47 .mvI <| .w 48 (.ix1 i T.el82 T.sz9) <| .w 49 (.ld T.ag9 (Cap.nm ok.m2 (i := i) (by omega))) <| .w 50 (.fa T.fd69_1) <| .w 51 (.ldx T.ag66 ok.m3) <| .w 52 .mvI <| ?_
  obtain ⟨bb2, oo2, rfl, fb2⟩ := ok.r1.pos (by omega)
  refine .w 53 (.ix i T.el66 T.sz86) <| .w 54 (.fa T.fd86_0) <| .w 55 (.ld T.ag9 (sl_at RWF.cells_len (ok.r1).sl (i := i) (j := 0) (by omega) rfl)) <| .w 56 .tNeB <| .w 57 .mvB <| .sd (fun G57 => ?_) (fun G57 => ?_)
  ·
    exact absurd hfi G57
  refine .w 58 .mvI <| .w 59 .neq <| .w 60 .pkf <| .w 61 .mvB <| .sd (fun G61 => ?_) (fun G61 => ?_)
  ·
    exact absurd (by rw [hfi, hri]; rfl) G61
  refine .w 62 .mvS <| .w 63 (.fa T.fd69_1) <| .w 64 (.ldx T.ag66 ok.m3) <| .w 65 .mvI <| .w 66 (.ix i T.el66 T.sz86) <| .w 67 (.fa T.fd86_1) <| .w 68 (.ld T.ag22 (sl_at RWF.cells_len (ok.r1).sl (i := i) (j := 1) (by omega) rfl)) <| .k 69 .func (same_any (a := ya3) (c := yc3) (l := ((readN r.abs ((filesN r.abs S1)[i]) 0 1048576).1)) (b := nl[i].ba) (d := nl[i].bc) (l2 := nl[i].bl) (RdL.ofCapB (v := (ya3, ((readN r.abs ((filesN r.abs S1)[i]) 0 1048576).1).length, yc3)) (l := ((readN r.abs ((filesN r.abs S1)[i]) 0 1048576).1)) ok.m0) ok.r0) <| .w 70 .notd <| .w 71 .pkf <| .nil ?_
  refine .cd (fun C2 => ?_) (fun C2 => ?_)
  · --
    first | exact absurd (by rw [hfi, hri]; rfl) C2 | (rw [hfi, hri] at C2; simp [RWF.abs] at C2)
  refine .skip <| .end <| hK1 _ _ <| .r <| .w 35 .mvI <| .w 36 (.addI (b := 1)) <| .w 6 .asI <| .nil ?_
  refine .end <| hJ0 _ _ _ ⟨i + 1, ⟨rfl, rfl, rfl, rfl, trivial⟩, (ok.n3.n3.n3).k3.f4.f4.f4.f4.e4, by omega, rfl⟩ (by omega)

set_option maxRecDepth 100000 in
set_option maxHeartbeats 2000000 in
theorem plays_walk {h : Heap} {EO : Nat → Prop} {a : Option Addr} {c : Nat} {l : List ROp} (hl : RwB 5 ROp.cells ROp.sb h EO (a, l.length, c) l) (hop : OpsOk l) : HC Try.prog 9 #[.slice a l.length c] h (fun v h' => v = .bool true ∧ Ext h h') := by
  have hc2 := hl.m
  have ok := (Hp.nil h none_).old (opwI (fun j => EO j ∧ j < h.size) (a, l.length, c) l) (hl.lt (by decide)) (fun j hj => hj.2)
  refine HC.go Try.func9 65 ?_
  refine .seq <| .r <| .w 2 .asB <| .nil ?_
  refine .seq <| .r <| .c' 8 .func new_any ?_
  rintro _ η1 ⟨dnd1, rnd1, rfl, hand1, q⟩
  have ok := ok.addE q (fun _ f => f.elim)
  have hknd1 : DkOk rnd1.abs := by rw [hand1]; exact newN_ok
  have hcnd1 : rnd1.chg = 0 := congrArg Dk.chg hand1
  refine .c' 9 .func dnew_any ?_
  rintro _ η2 ⟨rfl, hx⟩
  have ok := ok.ext hx
  have ok := ok.dE (docI none_ newRW) newRW_doc (fun _ f => f)
  refine .a' 4 (.alA T.zr69 ok) ?_
  rintro _ η3 ⟨pb1, rfl, ok, xe⟩
  refine .w 3 .asP <| .ur' (.stW (vs := [.slice none 0 0, .slice none 0 0, .slice none 0 0, .int .i64 (-1), .bool false, .int .i64 0]) T.sz69 ok (oneL rfl)) ?_
  rintro η4 ⟨ok, cg⟩
  refine .nil ?_
  refine .seq <| .seq <| .r <| .w 10 .mvP <| .w 11 (.pEqS T.pt57) <| .w 12 .mvB <| .w 13 .mvS <| .k 14 .func (small_any (a := a) (c := c) (l := l) ok.r2) <| .w 15 .not <| .w 16 .pkf <| .nil ?_
  refine .cond (fun C0 => ?_) (fun C0 => ?_)
  · --
    refine .seq <| .r <| .c' 17 .func live_any ?_
    rintro _ η5 ⟨rfl, hx⟩
    have ok := ok.ext hx
    refine .w 18 .mvB <| .w 19 .mvP <| .w 20 (.pNeS T.pt57) <| .w 21 .pkt <| .w 2 .asB <| .nil ?_
    refine .ret ⟨.bool true, Res.one rfl rfl, ⟨rfl, ok.chg⟩⟩
  have hsm := smallB_iff.1 (by simpa using C0)
  refine .skip <| .seq <| .seq <| .r <| .w 5 .asI <| .nil ?_
  refine .block fun K0 hK0 => .loop (fun m s hh => ∃ (i d : Nat) (r : RD) (E : Nat → Prop) (w : RW) (EW : Nat → Prop), Has s [(0, .slice a l.length c), (3, .pointer (some ⟨d, 0, none⟩)), (4, .pointer (some ⟨pb1, 0, none⟩)), (5, .int .i64 (i : Int))] ∧ Hp h none_ [dskI d r, boxI pb1 69 [.slice w.sa w.sl.length w.sc, .slice w.na w.nl.length w.nc, .slice w.pa w.pl.length w.pc, .int .i64 w.left, .bool w.gone, .int .i64 w.many]] [bysI E r.fs, docI EW w, opwI (fun j => EO j ∧ j < h.size) (a, l.length, c) l] hh ∧ i ≤ l.length ∧ DkOk r.abs ∧ r.chg ≤ i ∧ Rel r.abs w.abs ∧ Lim r.abs ∧ m = l.length - i) ?_ ?_
  · exact ⟨_, 0, dnd1, rnd1, none_, newRW, none_, ⟨rfl, rfl, rfl, rfl, trivial⟩, (ok.n1).k2.f2.f1.f2, Nat.zero_le _, hknd1, by omega, by rw [hand1]; exact Rel.new, by rw [hand1]; exact newN_lim, rfl⟩
  rintro _ _ η6 ⟨i, d, r, E, w, EW, hs, ok, hi, hk, hch, hrel, hlim, rfl⟩ J0 hJ0
  refine .frame hs fun τ => ?_
  refine .seq <| .seq <| .r <| .w 22 .mvI <| .w 23 .mvS <| .w 24 (.len T.el65) <| .w 25 .lss <| .nil ?_
  refine .cdr (fun C1 => ?_) (fun C1 => ?_)
  · --
    refine .exit <| hK0 _ _ <| .seq <| .r <| .c' 64 .func live_any ?_
    rintro _ η7 ⟨rfl, hx⟩
    have ok := ok.ext hx
    refine .w 2 .asB <| .nil ?_
    refine .ret ⟨.bool true, Res.one rfl rfl, ⟨rfl, ok.chg⟩⟩
  have hil : i < l.length := by omega
  have hws := hrel.ws hk (show r.abs.chg ≤ 300 from (by have h9 : r.abs.chg ≤ i := hch; omega))
  have hlf : w.left ≤ 9223372036854775807 := by have h1 : r.abs.left = w.left := hrel.left; have h2 := hk.left; omega
  refine .skip <| .seq <| .block fun K1 hK1 => .seq <| .seq <| .r <| .w 28 .mvS <| .w 29 .mvI <| ?_
  obtain ⟨bb1, oo1, rfl, fb1⟩ := ok.r2.pos (by omega)
  refine .w 30 (.ix i T.el65 T.sz73) <| .w 31 (.fa T.fd73_0) <| .w 32 (.ld T.ag5 (sl_at ROp.cells_len (ok.r2).sl (i := i) (j := 0) (by omega) rfl)) <| .w 33 .eql <| .nil ?_
  refine .cd (fun C2 => ?_) (fun C2 => ?_)
  · --
    refine .seq <| .r <| .w 34 .mvP <| .w 6 .asP <| .nil ?_
    refine .seq <| .r <| .w 35 .mvP <| .c' 36 .func (copy_any (d := d) (r := r) (E := E) (ok).loc1 hk (by omega)) ?_
    rintro _ η8 ⟨dcp1, rcp1, Ecp1, rfl, hacp1, q, hBcp1⟩
    have hszcp1 := ok.chg.size
    have ok := (ok).copy q hBcp1
    have hkcp1 : DkOk rcp1.abs := by rw [hacp1]; exact hk
    have hccp1 : rcp1.chg = r.chg := congrArg Dk.chg hacp1
    refine .w 3 .asP <| .nil ?_
    refine .seq <| .seq <| .r <| .w 37 .mvP <| .w 38 (.pEqS T.pt57) <| .nil ?_
    refine .cf <| .skip <| .seq <| .r <| .w 39 .mvP <| .a' 40 (.lit [.const (.int .u8 9)] (cs := [.int .u8 9]) T.el22 T.sz5 T.zr5 ok ⟨rfl, trivial⟩) ?_
    rintro _ η9 ⟨pb2, rfl, ok, xe⟩
    have ok := ok.cx (ys := ([9] : List UInt8).map bv) rfl
    have ok := (ok).frzB (l := [9]) rfl
    refine .c' 41 .func (write_any (d := d) (r := r) (E := E) (n := ([115, 112, 111, 105, 108, 116] : List UInt8)) (z := 0) (a := some ⟨pb2, 0, none⟩) (c := 1) (l := [9]) (ok.n1.f2).loc2 hk (by omega) ⟨by omega, by omega⟩) ?_
    rintro _ η10 ⟨rw1, Ew1, rfl, haw1, upw1⟩
    have ok := (ok.n1.f2).dsk (d := d) (r := r) upw1
    have hkw1 : DkOk rw1.abs := by rw [haw1]; exact (hk).write
    have hcw1 : rw1.chg ≤ r.chg + 1 := Int.le_trans (Int.le_of_eq (congrArg Dk.chg haw1)) write_chg
    refine .nil ?_
    refine .seq <| .r <| .w 42 .mvP <| .c' 43 .func (sync_any (d := d) (r := rw1) (E := Ew1) (n := ([115, 112, 111, 105, 108, 116] : List UInt8)) (ok).loc1 hkw1 (by omega)) ?_
    rintro _ η11 ⟨rw2, Ew2, rfl, haw2, upw2⟩
    have ok := (ok).dsk (d := d) (r := rw1) upw2
    have hkw2 : DkOk rw2.abs := by rw [haw2]; exact (hkw1).sync
    have hcw2 : rw2.chg ≤ rw1.chg + 1 := Int.le_trans (Int.le_of_eq (congrArg Dk.chg haw2)) sync_chg
    refine .nil ?_
    refine .seq <| .r <| .w 44 .mvP <| .c' 45 .func (cut_any (d := d) (r := rw2) (z := 0) (ok).loc0) ?_
    rintro _ η12 ⟨rfl, q⟩
    have ok := (ok).lift1 q
    obtain ⟨rcu1, hrcu1⟩ : ∃ rcu1, cutR rw2 0 = rcu1 := ⟨_, rfl⟩
    have hacu1 : rcu1.abs = cutN rw2.abs 0 := by rw [← hrcu1]; exact cutR_abs
    have hfcu1 : rcu1.fs = rw2.fs := by rw [← hrcu1]; exact cutR_fs
    rw [hrcu1, ← hfcu1] at ok
    have hkcu1 : DkOk rcu1.abs := by rw [hacu1]; exact (hkw2).cut (by omega)
    have hccu1 : rcu1.chg = rw2.chg := by rw [← hrcu1]; unfold cutR; split <;> rfl
    refine .nil ?_
    refine .exit <| hK1 _ _ <| .r <| .w 26 .mvI <| .w 27 (.addI (b := 1)) <| .w 5 .asI <| .nil ?_
    refine .end <| hJ0 _ _ _ ⟨i + 1, dcp1, rcp1, Ecp1, w, EW, ⟨rfl, rfl, rfl, rfl, trivial⟩, (ok.n2.n2).k2.f4.f4.f4.e3, by omega, hkcp1, by omega, by rw [hacp1]; exact hrel, by rw [hacp1]; exact hlim, rfl⟩ (by omega)
  refine .skip <| .seq <| .r <| .w 7 .asB <| .nil ?_
  refine .seq <| ?_
  have ok := ok.d2 (rdI (fun j => EO j ∧ j < h.size) (fun j => EO j ∧ j < h.size) (l[i].ba, l[i].bl.length, l[i].bc) l[i].bl) ((ok.r2).by' _ (List.getElem_mem hil)) (fun _ h => h.elim id id)
  refine .a 6 (fun fl hh => cond fl True (Hp h none_ [dskI d r, boxI pb1 69 [.slice w.sa w.sl.length w.sc, .slice w.na w.nl.length w.nc, .slice w.pa w.pl.length w.pc, .int .i64 w.left, .bool w.gone, .int .i64 w.many]] [rdI (fun j => EO j ∧ j < h.size) (fun j => EO j ∧ j < h.size) (l[i].ba, l[i].bl.length, l[i].bc) (l[i].bl), bysI E r.fs, docI EW w, opwI (fun j => EO j ∧ j < h.size) (some ⟨bb1, oo1, none⟩, l.length, c) l] hh)) mixed ?_
  have hS := ok
  refine .g 0 false rfl 47 hS (fun _ => .mvP) <| .l 1 false rfl 48 hS (fun _ hS => .ldb T.ag69 hS.m1 T.sz69) <| .g 2 false rfl 49 hS (fun _ => .mvS) <| .g 3 false rfl 50 hS (fun _ => .mvI) <| .g 4 false rfl 51 hS (fun _ => .ix i T.el65 T.sz73) <| .l 5 false rfl 52 (v := .agg #[.int .u8 (l[i].k : Int), .string (BA (l[i].n)), .int .i64 (l[i].y), .int .i64 (l[i].z), .slice (l[i].ba) (l[i].bl.length) (l[i].bc)]) hS (fun _ hS => .ldc (vs := ROp.cells l[i]) T.ag73 (sl_ats ROp.cells_len (hS.r3).sl (i := i) (by omega)) T.sz73) <| .o1 6 <| .c' true rfl 53 .func (call_any (d := d) (r := r) (E := E) (FB := fun j => EO j ∧ j < h.size) (EB := fun j => EO j ∧ j < h.size) (EW := EW) (sa := w.sa) (sc := w.sc) (sl := w.sl) (na := w.na) (nc := w.nc) (nl := w.nl) (pa := w.pa) (pc := w.pc) (pl := w.pl) (lf := w.left) (gn := w.gone) (mn := w.many) (k := l[i].k) (n := l[i].n) (bl := l[i].bl) (y := l[i].y) (z := l[i].z) (ba := l[i].ba) (bc := l[i].bc) (ok.f2.f2).loc3 hk (by omega) hws hlf (hop _ (List.getElem_mem hil)).1 (hop _ (List.getElem_mem hil)).2.1 (hop _ (List.getElem_mem hil)).2.2 (keys_ex (dsk_parts (ok.m0)).2.2.1).choose_spec) ?_
  rintro _ η13 ⟨Sq1, rq1, Eq1, wq1, Wq1, bq1, rfl, hKq1, haq1, hwq1, hsbq1, pq1, hEq1, hWq1⟩
  have hszq1 := ok.chg.size
  have ok := (ok.f2.f2).call2 pq1 hEq1 hWq1
  have hkq1 : DkOk rq1.abs := by rw [haq1]; exact stepD_ok hk (hop _ (List.getElem_mem hil)).2.2.2
  have hcq1 : rq1.chg ≤ r.chg + 1 := Int.le_trans (Int.le_of_eq (congrArg Dk.chg haq1)) stepD_chg
  refine ⟨trivial, ?_⟩
  refine .g 7 true rfl 46 trivial (fun _ => .mvU) <| .g 8 true rfl 54 trivial (fun _ => .ex) <| .g 9 true rfl 55 trivial (fun _ => .ex) <| .o1 10 <| .ur' true rfl (.stW (vs := [.slice wq1.sa wq1.sl.length wq1.sc, .slice wq1.na wq1.nl.length wq1.nc, .slice wq1.pa wq1.pl.length wq1.pc, .int .i64 wq1.left, .bool wq1.gone, .int .i64 wq1.many]) T.sz69 ok.n1 (oneL rfl)) ?_
  rintro η14 ⟨ok, cg⟩
  refine ⟨trivial, ?_⟩
  refine .g 11 true rfl 7 trivial (fun _ => .asB) <| .e ?_
  refine .seq <| .r <| .w 56 .mvB <| .w 57 .not <| .w 58 .mvB <| .spl (fun G58 => ?_) (fun G58 => ?_)
  ·
    have h8 := hsbq1.2 (hrel.step hKq1).2
    rw [h8] at G58; cases G58
  refine .w 59 .mvP <| .w 60 (.ldb T.ag69 ok.m0 T.sz69) <| .c' 61 .func (has_any (d := d) (r := rq1) (E := Eq1) (EW := Wq1) (sa := wq1.sa) (sc := wq1.sc) (sl := wq1.sl) (na := wq1.na) (nc := wq1.nc) (nl := wq1.nl) (pa := wq1.pa) (pc := wq1.pc) (pl := wq1.pl) (lf := wq1.left) (gn := wq1.gone) (mn := wq1.many) (ok.n1.f1.f1).rdo3 hkq1 (by omega) (show Rel rq1.abs wq1.abs by rw [haq1, hwq1]; exact (hrel.step hKq1).1) (by rw [haq1]; exact hlim.step (hsm.2 i hil))) ?_
  rintro _ η15 ⟨rfl, hx⟩
  have ok := ok.ext hx
  refine .w 62 .not <| .w 63 .pkf <| .nil ?_
  refine .cf <| .skip <| .end <| hK1 _ _ <| .r <| .w 26 .mvI <| .w 27 (.addI (b := 1)) <| .w 5 .asI <| .nil ?_
  refine .end <| hJ0 _ _ _ ⟨i + 1, d, rq1, Eq1, wq1, Wq1, ⟨rfl, rfl, rfl, rfl, trivial⟩, (ok.n1).k2.f3.f2.f2.e3, by omega, hkq1, by omega, by rw [haq1, hwq1]; exact (hrel.step hKq1).1, by rw [haq1]; exact hlim.step (hsm.2 i hil), rfl⟩ (by omega)

end Go.Proofs.Ytpebbkhainpfaaa

namespace Go.HL
open Go
theorem Hp.e8 {h0 h : Heap} {D : Nat → Prop} {M R : List Itm} {q0 q1 q2 q3 q4 q5 q6 q7 : Itm} (ok : Hp h0 D M (q0 :: q1 :: q2 :: q3 :: q4 :: q5 :: q6 :: q7 :: R) h) : Hp h0 D M [q0, q1, q2, q3, q4, q5, q6, q7] h := ok.sub (by simp)
theorem Hp.e9 {h0 h : Heap} {D : Nat → Prop} {M R : List Itm} {q0 q1 q2 q3 q4 q5 q6 q7 q8 : Itm} (ok : Hp h0 D M (q0 :: q1 :: q2 :: q3 :: q4 :: q5 :: q6 :: q7 :: q8 :: R) h) : Hp h0 D M [q0, q1, q2, q3, q4, q5, q6, q7, q8] h := ok.sub (by simp)
end Go.HL
namespace Go.Proofs.Ytpebbkhainpfaaa
open Go Go.HL
/-- A disk shows just these files. -/
structure Sees (d : Dk) (L : List WF) : Prop where
  dark : d.dark = false
  srt : Srt L
  now : ∀ n, nowO d n = lk L n
  lim : Lim d
  nm : ∀ n f, d.fs n = some f → n ≠ [] ∧ n.length ≤ 32
theorem Sees.len {d : Dk} {L : List WF} {S : List (List UInt8)} (v : Sees d L) (hK : Keys d.fs S) : (filesN d S).length = L.length := by rw [files_eq v.dark hK v.srt v.now, List.length_map]
theorem Sees.get {d : Dk} {L : List WF} {S : List (List UInt8)} (v : Sees d L) (hK : Keys d.fs S) {i : Nat} (hi : i < (filesN d S).length) : ∃ h2 : i < L.length, (filesN d S)[i] = L[i].n ∧ readN d L[i].n 0 1048576 = (L[i].b, 0) := by
  have he := files_eq v.dark hK v.srt v.now
  have h2 : i < L.length := by have := v.len hK; omega
  exact ⟨h2, by simp only [he, List.getElem_map], file_read v.dark v.srt v.now v.lim v.nm (List.getElem_mem h2)⟩
theorem lim_crash {d : Dk} {S : List (List UInt8)} {ks : List UInt8} (k : Lim d) : Lim (crashN d S ks) := fun n f hf => crashL_ok (P := LimF) (fun f g ks hf hg => settle_lim (f := ⟨_, _, _, _, _⟩) ⟨crC_le hf.opn hf.safe, hf.safe, hf.opn⟩ hg) k n f hf
theorem nm_crash {d : Dk} {w : WD} {S : List (List UInt8)} {ks : List UInt8} (R : Rel d w) : ∀ n f, (crashN d S ks).fs n = some f → n ≠ [] ∧ n.length ≤ 32 := fun n f hf => by
  obtain ⟨g, hg⟩ := crashL_some hf
  exact (R.fs n g hg).2.2
theorem apC_nil {x : List UInt8} : ∀ (P : List WC) (fs : List WF), apC x fs [] P = (fs, [])
  | [], _ => rfl
  | c :: P, fs => by
    rw [apC]
    split
    · exact apC_nil P fs
    · rw [if_neg (by simp)]; exact apC_nil P fs
theorem crW_nil {P : List WC} : ∀ (m : Nat) (fs : List WF) (lo : List UInt8), crW P m fs lo [] = fs
  | 0, _, _ => rfl
  | m + 1, fs, lo => by
    rw [crW, apC_nil]
    split
    · exact crW_nil m fs lo
    · exact crW_nil m fs _
/-- A crash that keeps nothing: what is safe. -/
theorem sees_none {d : Dk} {w : WD} {S : List (List UInt8)} (R : Rel d w) (hlim : Lim d) (hK : Keys d.fs S) : Sees (crashN d S []) w.safe := by
  have h := R.crash (ks := []) hK
  have e : (crashW w []).now = w.safe := crW_nil _ _ _
  exact ⟨rfl, R.ssafe, fun n => by rw [h.now n, e], lim_crash hlim, nm_crash R⟩
theorem crC_all : ∀ (l : List Chn) {b : List UInt8} {h : Bool} {m : Nat}, (h = false → b = []) → l.length ≤ m → crC b h l (List.replicate m 255) = l.foldl (fun p c => doneN c p.1 p.2) (b, h)
  | [], _, _, _, _, _ => rfl
  | c :: l, b, h, m, hb, hm => by
    obtain ⟨m, rfl⟩ : ∃ m', m = m' + 1 := ⟨m - 1, by simp at hm; omega⟩
    have e : crS c b h 255 = doneN c b h := by
      by_cases h0 : c.kind = 0
      · have h1 : keptN c 255 = (c, true) := by unfold keptN; rw [if_neg (by simpa using h0), if_neg (by simp)]; rfl
        rw [crS_y (by rw [h1]) (.inl h0), h1]
      · have h1 : keptN c 255 = (c, true) := by unfold keptN; rw [if_pos h0]; rfl
        cases h with
        | true => rw [crS_y (by rw [h1]) (.inr rfl), h1]
        | false =>
          rw [crS_n (by rintro ⟨_, g | g⟩; exact h0 g; cases g), hb rfl]
          unfold doneN; rw [if_neg h0, if_neg (by simp)]
    rw [List.replicate_succ, crC_s]
    have e2 : ((255 : UInt8) :: List.replicate m 255).headD 0 = 255 := rfl
    rw [e2, show ((255 : UInt8)).toNat = 255 from rfl, e, List.tail_cons, crC_all l done_nil (by simp at hm; omega)]
    rfl
theorem crF_all {f : Fl} {m : Nat} (v : FlV f) (hm : f.opn.length ≤ m) : (crF f (List.replicate m 255)).bind nowF = nowF f := by
  rw [crF_now, crC_all _ v.safe0 hm]
  have := v.rep
  unfold repF at this
  rw [this]; rfl
def totN (fs : List UInt8 → Option Fl) (S : List (List UInt8)) : Nat := (S.map fun n => (opnF (fs n)).length).sum
theorem totN_put {fs : List UInt8 → Option Fl} {S : List (List UInt8)} {m : List UInt8} {v : Option Fl} (h : m ∉ S) : totN (put1 fs m v) S = totN fs S := by
  unfold totN
  congr 1
  exact List.map_congr_left fun n hn => by rw [put1_ne (fun e => h (by rw [← e]; exact hn))]
theorem crashL_all : ∀ {S : List (List UInt8)} {fs : List UInt8 → Option Fl} {m : Nat}, S.Nodup → (∀ n ∈ S, ∃ f, fs n = some f ∧ FlV f) → totN fs S ≤ m → ∀ n ∈ S, (crashL fs S (List.replicate m 255) n).bind nowF = (fs n).bind nowF
  | k :: S, fs, m, hS, hf, hm, n, hn => by
    have hS' := List.nodup_cons.1 hS
    obtain ⟨f, hk, hv⟩ := hf k List.mem_cons_self
    have hm' : f.opn.length + totN fs S ≤ m := by
      have : totN fs (k :: S) = f.opn.length + totN fs S := by unfold totN; rw [List.map_cons, List.sum_cons, hk]; rfl
      omega
    rw [crashL, hk]
    simp only
    rw [List.drop_replicate]
    by_cases e : n = k
    · subst e
      rw [crashL_not hS'.1, put1_at, hk, crF_all hv (by omega)]; rfl
    · have hnS : n ∈ S := (List.mem_cons.1 hn).resolve_left e
      rw [crashL_all hS'.2 (fun n' h' => by
        obtain ⟨g, g1, g2⟩ := hf n' (List.mem_cons_of_mem _ h')
        exact ⟨g, by rw [put1_ne (fun e => hS'.1 (by rw [← e]; exact h'))]; exact g1, g2⟩) (by rw [totN_put hS'.1]; omega) n hnS, put1_ne e]
theorem filt_sum : ∀ (S : List (List UInt8)) (P : List WC), S.Nodup → (S.map fun n => (P.filter fun c => decide (c.n = n)).length).sum ≤ P.length
  | [], _, _ => Nat.zero_le _
  | k :: S, P, hS => by
    have hS' := List.nodup_cons.1 hS
    have h1 := wo_len (l := P) (n := k)
    have h2 := filt_sum S (withoutL WC.n P k) hS'.2
    have h3 : (S.map fun n => ((withoutL WC.n P k).filter fun c => decide (c.n = n)).length) = S.map fun n => (P.filter fun c => decide (c.n = n)).length := List.map_congr_left fun n hn => by rw [filt_wo, if_neg (fun e => hS'.1 (by rw [← e]; exact hn))]
    rw [h3] at h2
    rw [List.map_cons, List.sum_cons]; omega
/-- A crash that keeps all: what is there. -/
theorem sees_all {d : Dk} {w : WD} {S : List (List UInt8)} {m : Nat} (R : Rel d w) (hlim : Lim d) (hK : Keys d.fs S) (hm : d.chg ≤ m) : Sees (crashN d S (List.replicate m 255)) w.now := by
  have hnd : S.Nodup := hK.up.imp fun {a b} h e => by subst e; exact absurd h (List.lt_irrefl _)
  have htot : totN d.fs S ≤ m := by
    have h1 := filt_sum S w.pend hnd
    have h2 : totN d.fs S = (S.map fun n => (w.pend.filter fun c => decide (c.n = n)).length).sum := by
      unfold totN; congr 1
      exact List.map_congr_left fun n _ => by rw [R.pend n, List.length_map]
    have h3 := R.plen
    have h4 := R.chg
    omega
  refine ⟨rfl, R.snow, fun n => ?_, lim_crash hlim, nm_crash R⟩
  rw [← R.now n]
  show (crashL d.fs S (List.replicate m 255) n).bind nowF = (d.fs n).bind nowF
  by_cases hn : n ∈ S
  · exact crashL_all hnd (fun n hn => by
      have h1 := (hK.iff n).1 hn
      cases hf : d.fs n with
      | none => rw [hf] at h1; cases h1
      | some f => exact ⟨f, rfl, (R.fs n f hf).1⟩) htot n hn
  · rw [crashL_not hn]
theorem set_255 {i n : Nat} (h : i < n) : ((List.replicate i (255 : UInt8) ++ List.replicate (n - i) (0 : UInt8)).map bv).set i (.int .u8 255) = (List.replicate (i + 1) (255 : UInt8) ++ List.replicate (n - (i + 1)) (0 : UInt8)).map bv := by
  rw [show n - i = (n - (i + 1)) + 1 by omega, List.replicate_succ, List.map_append, List.map_cons, List.set_append_right _ _ (by simp)]
  rw [show i - ((List.replicate i (255 : UInt8)).map bv).length = 0 by simp, List.set_cons_zero, List.replicate_succ']
  simp only [List.map_append, List.map_cons, List.map_nil, List.append_assoc, List.singleton_append]; rfl

set_option maxRecDepth 100000 in
set_option maxHeartbeats 2000000 in
theorem ends_walk {h : Heap} {EO : Nat → Prop} {a : Option Addr} {c : Nat} {l : List ROp} (hl : RwB 5 ROp.cells ROp.sb h EO (a, l.length, c) l) (hop : OpsOk l) : HC Try.prog 10 #[.slice a l.length c] h (fun v h' => v = .bool true ∧ Ext h h') := by
  have hc2 := hl.m
  have ok := (Hp.nil h none_).old (opwI (fun j => EO j ∧ j < h.size) (a, l.length, c) l) (hl.lt (by decide)) (fun j hj => hj.2)
  refine HC.go Try.func10 178 ?_
  refine .seq <| .r <| .w 2 .asB <| .nil ?_
  refine .seq <| .seq <| .r <| .w 17 .mvS <| .k 18 .func (small_any (a := a) (c := c) (l := l) ok.r0) <| .w 19 .not <| .nil ?_
  refine .cond (fun C0 => ?_) (fun C0 => ?_)
  · --
    refine .seq <| .r <| .c' 20 .func live_any ?_
    rintro _ η1 ⟨rfl, hx⟩
    have ok := ok.ext hx
    refine .w 2 .asB <| .nil ?_
    refine .ret ⟨.bool true, Res.one rfl rfl, ⟨rfl, ok.chg⟩⟩
  have hsm := smallB_iff.1 (by simpa using C0)
  refine .skip <| .seq <| .r <| .w 22 .mvS <| .c' 23 .func (played_any (a := a) (c := c) (l := l) ok.r0 hop (by omega) hsm.2) ?_
  rintro _ η2 ⟨dp1, rp1, Ep1, ⟨sa, sc, sl, na, nc, nl, pa, pc, pl, lf, gn, mn⟩, Wp1, rfl, hkp1, hcp1, hrelp1, hlimp1, hEp1, hWp1, qp1⟩
  have hszp1 := ok.chg.size
  have ok := ok.addE2 qp1 hEp1 hWp1
  have hwsp1 := hrelp1.ws hkp1 (show rp1.abs.chg ≤ 300 from (by have h9 : rp1.abs.chg ≤ l.length := hcp1; omega))
  have hlfp1 : lf ≤ 9223372036854775807 := by have h1 : rp1.abs.left = lf := hrelp1.left; have h2 := hkp1.left; omega
  refine .w 21 .mvU <| .w 24 .ex <| .w 25 .ex <| .a' 4 (.alA T.zr69 ok) ?_
  rintro _ η3 ⟨pb1, rfl, ok, xe⟩
  refine .w 3 .asP <| .ur' (.stW (vs := [.slice sa sl.length sc, .slice na nl.length nc, .slice pa pl.length pc, .int .i64 lf, .bool gn, .int .i64 mn]) T.sz69 ok (oneL rfl)) ?_
  rintro η4 ⟨ok, cg⟩
  refine .nil ?_
  refine .seq <| .seq <| .r <| .w 26 .mvP <| .w 27 (.pEqS T.pt57) <| .nil ?_
  refine .cf <| .skip <| .seq <| ?_
  have ok := ok.d1 (flwI Wp1 (na, nl.length, nc) nl) ok.r1.n (fun _ h => h)
  have ok := ok.d2 (flwI Wp1 (sa, sl.length, sc) sl) ok.r2.s (fun _ h => h)
  have hns := ok.r0.m
  have hnn := ok.r1.m
  refine .r <| .w 28 .mvS <| .w 29 (.len T.el65) <| .a' 30 (.mks l.length l.length T.el22 T.sz5 T.by5 T.zr5 ok) ?_
  rintro _ η5 ⟨pb2, rfl, ok, xe⟩
  have ok := ok.cx (ys := (List.replicate l.length (0 : UInt8)).map bv) (zeros8 _)
  refine .w 5 .asS <| .nil ?_
  refine .seq <| .seq <| .r <| .w 6 .asI <| .nil ?_
  refine .block fun K0 hK0 => .loop (fun m s hh => ∃ (i : Nat), Has s [(3, .pointer (some ⟨dp1, 0, none⟩)), (4, .pointer (some ⟨pb1, 0, none⟩)), (5, .slice (some ⟨pb2, 0, none⟩) l.length l.length), (6, .int .i64 (i : Int))] ∧ Hp h none_ [capI 1 5 (some ⟨pb2, 0, none⟩, l.length, l.length) ((List.replicate i (255 : UInt8) ++ List.replicate (l.length - i) (0 : UInt8)).map bv), boxI pb1 69 [.slice sa sl.length sc, .slice na nl.length nc, .slice pa pl.length pc, .int .i64 lf, .bool gn, .int .i64 mn], dskI dp1 rp1] [flwI Wp1 (sa, sl.length, sc) sl, flwI Wp1 (na, nl.length, nc) nl, bysI Ep1 rp1.fs, docI Wp1 ⟨sa, sc, sl, na, nc, nl, pa, pc, pl, lf, gn, mn⟩, opwI (fun j => EO j ∧ j < h.size) (a, l.length, c) l] hh ∧ i ≤ l.length ∧ m = l.length - i) ?_ ?_
  · exact ⟨_, 0, ⟨rfl, rfl, rfl, rfl, trivial⟩, (ok.n2.n2.n2).k3.f4.f4.f4.f4.f4, Nat.zero_le _, rfl⟩
  rintro _ _ η6 ⟨i, hs, ok, hi, rfl⟩ J0 hJ0
  refine .frame hs fun τ => ?_
  refine .seq <| .seq <| .r <| .w 31 .mvI <| .w 32 .mvS <| .w 33 (.len T.el22) <| .w 34 .lss <| .nil ?_
  refine .cdr (fun C2 => ?_) (fun C2 => ?_)
  · --
    refine .exit <| hK0 _ _ <| .seq <| ?_
    obtain rfl : i = l.length := by omega
    have hall : List.replicate l.length (255 : UInt8) ++ List.replicate (l.length - l.length) (0 : UInt8) = List.replicate l.length 255 := by simp
    rw [hall] at ok
    obtain ⟨al, hal, haln⟩ : ∃ al : List UInt8, al = List.replicate l.length 255 ∧ l.length = al.length := ⟨_, rfl, by simp⟩
    have ok : Hp h none_ [capI 1 5 (some ⟨pb2, 0, none⟩, al.length, al.length) (al.map bv), boxI pb1 69 [.slice sa sl.length sc, .slice na nl.length nc, .slice pa pl.length pc, .int .i64 lf, .bool gn, .int .i64 mn], dskI dp1 rp1] [flwI Wp1 (sa, sl.length, sc) sl, flwI Wp1 (na, nl.length, nc) nl, bysI Ep1 rp1.fs, docI Wp1 ⟨sa, sc, sl, na, nc, nl, pa, pc, pl, lf, gn, mn⟩, opwI (fun j => EO j ∧ j < h.size) (a, l.length, c) l] η6 := by rw [← haln, hal]; exact ok
    rw [haln]
    refine .r <| .w 40 .mvP <| .c' 41 .func (copy_any (d := dp1) (r := rp1) (E := Ep1) (ok.n2.f2).loc1 hkp1 (by omega)) ?_
    rintro _ η7 ⟨dcp1, rcp1, Ecp1, rfl, hacp1, q, hBcp1⟩
    have hszcp1 := ok.chg.size
    have ok := (ok.n2.f2).copy q hBcp1
    have hkcp1 : DkOk rcp1.abs := by rw [hacp1]; exact hkp1
    have hccp1 : rcp1.chg = rp1.chg := congrArg Dk.chg hacp1
    refine .w 42 .mvP <| .c' 43 .func (copy_any (d := dp1) (r := rp1) (E := Ep1) (ok.n1.f1).loc1 hkp1 (by omega)) ?_
    rintro _ η8 ⟨dcp2, rcp2, Ecp2, rfl, hacp2, q, hBcp2⟩
    have hszcp2 := ok.chg.size
    have ok := (ok.n1.f1).copy q hBcp2
    have hkcp2 : DkOk rcp2.abs := by rw [hacp2]; exact hkp1
    have hccp2 : rcp2.chg = rp1.chg := congrArg Dk.chg hacp2
    refine .w 7 .asP <| .w 8 .asP <| .nil ?_
    refine .seq <| .seq <| .r <| .w 44 .mvP <| .w 45 (.pEqS T.pt57) <| .w 46 .mvB <| .w 47 .mvP <| .w 48 (.pEqS T.pt57) <| .w 49 .pkf <| .nil ?_
    refine .cf <| .skip <| .seq <| .r <| .w 50 .mvP <| ?_
    have ok := ok.dE (rdI none_ none_ (none, 0, 0) ([] : List UInt8)) (RdL.nil _ none_ none_) (fun _ f => f.elim id id)
    refine .c' 51 .func (crash_any (d := dcp1) (r := rcp1) (E := Ecp1) (a := none) (c := 0) (l := ([] : List UInt8)) (ok.n2.f3).loc2 hkcp1 (by omega)) ?_
    rintro _ η9 ⟨Scr1, rcr1, Ecr1, rfl, hKcr1, hacr1, upcr1⟩
    have ok := (ok.n2.f3).dsk (d := dcp1) (r := rcp1) upcr1
    have hkcr1 : DkOk rcr1.abs := by rw [hacr1]; exact (hkcp1).crash
    have hccr1 : rcr1.chg = rcp1.chg := congrArg Dk.chg hacr1
    refine .nil ?_
    refine .seq <| ?_
    have hse0 : Sees rcr1.abs (sl.map RWF.abs) := by rw [hacr1, hacp1]; exact sees_none hrelp1 hlimp1 (by rw [← hacp1]; exact hKcr1)
    refine .r <| .w 52 .mvP <| .w 53 .mvS <| ?_
    have ok := (ok.n3).frzB (l := al) rfl
    refine .c' 54 .func (crash_any (d := dcp2) (r := rcp2) (E := Ecp2) (a := some ⟨pb2, 0, none⟩) (c := al.length) (l := al) (ok.n1.f3).loc2 hkcp2 (by omega)) ?_
    rintro _ η10 ⟨Scr2, rcr2, Ecr2, rfl, hKcr2, hacr2, upcr2⟩
    have ok := (ok.n1.f3).dsk (d := dcp2) (r := rcp2) upcr2
    have hkcr2 : DkOk rcr2.abs := by rw [hacr2]; exact (hkcp2).crash
    have hccr2 : rcr2.chg = rcp2.chg := congrArg Dk.chg hacr2
    refine .nil ?_
    refine .seq <| ?_
    have hse1 : Sees rcr2.abs (nl.map RWF.abs) := by rw [hacr2, hacp2, hal]; exact sees_all hrelp1 hlimp1 (by rw [← hacp2]; exact hKcr2) hcp1
    refine .r <| .w 55 .mvP <| .c' 56 .func (files_any (d := dcp1) (r := rcr1) (E := Ecr1) ((ok.n1.f2).rdo) hkcr1 (by omega)) ?_
    rintro _ η11 ⟨S1, hKS1, own⟩
    obtain ⟨ya1, nS1, yc1, rfl⟩ := own.form3
    have ok := ok.own own
    obtain rfl : nS1 = (filesN rcr1.abs S1).length := Cap.lenN ok.m0
    refine .w 57 .mvP <| .c' 58 .func (files_any (d := dcp2) (r := rcr2) (E := Ecr2) ((ok.n1).rdo) hkcr2 (by omega)) ?_
    rintro _ η12 ⟨S2, hKS2, own⟩
    obtain ⟨ya2, nS2, yc2, rfl⟩ := own.form3
    have ok := ok.own own
    obtain rfl : nS2 = (filesN rcr2.abs S2).length := Cap.lenN ok.m0
    refine .w 9 .asS <| .w 10 .asS <| .nil ?_
    refine .seq <| .seq <| .r <| .w 59 .mvS <| .w 60 (.len T.el82) <| .w 61 (.fa T.fd69_0) <| .w 62 (.ldx T.ag66 ok.m5) <| .w 63 (.len T.el66) <| .w 64 .neq <| .w 65 .mvB <| .sd (fun G65 => ?_) (fun G65 => ?_)
    ·
      have h8 := hse0.len hKS1
      rw [List.length_map] at h8
      omega
    refine .w 66 .mvS <| .w 67 (.len T.el82) <| .w 68 (.fa T.fd69_1) <| .w 69 (.ldx T.ag66 ok.m5) <| .w 70 (.len T.el66) <| .w 71 .neq <| .w 72 .pkf <| .w 73 .mvB <| .sd (fun G73 => ?_) (fun G73 => ?_)
    ·
      have h8 := hse1.len hKS2
      rw [List.length_map] at h8
      omega
    refine .w 74 .mvP <| .k 75 .func (dark_any (d := dcp1) (r := rcr1) (dsk_parts (ok.m3)).1) <| .w 76 .pkf <| .w 77 .mvB <| .spl (fun G77 => ?_) (fun G77 => ?_)
    ·
      exact absurd (G77.symm.trans hse0.dark) (by decide)
    refine .w 78 .mvP <| .k 79 .func (dark_any (d := dcp2) (r := rcr2) (dsk_parts (ok.m2)).1) <| .w 80 .pkf <| .w 81 .mvB <| .spl (fun G81 => ?_) (fun G81 => ?_)
    ·
      exact absurd (G81.symm.trans hse1.dark) (by decide)
    refine .w 82 .mvP <| .k 83 .func (changes_any (d := dcp1) (r := rcr1) (dsk_parts (ok.m3)).1) <| .w 84 .mvP <| .k 85 .func (changes_any (d := dp1) (r := rp1) (dsk_parts (ok.m4)).1) <| .w 86 .neq <| .w 87 .pkf <| .nil ?_
    refine .cd (fun C4 => ?_) (fun C4 => ?_)
    · --
      omega
    refine .skip <| .seq <| .seq <| .r <| .w 11 .asI <| .nil ?_
    refine .block fun K2 hK2 => .loop (fun m s hh => ∃ (i : Nat), Has s [(3, .pointer (some ⟨dp1, 0, none⟩)), (4, .pointer (some ⟨pb1, 0, none⟩)), (7, .pointer (some ⟨dcp1, 0, none⟩)), (8, .pointer (some ⟨dcp2, 0, none⟩)), (9, .slice ya1 ((filesN rcr1.abs S1).length) yc1), (10, .slice ya2 ((filesN rcr2.abs S2).length) yc2), (11, .int .i64 (i : Int))] ∧ Hp h none_ [capI 1 9 (ya2, (filesN rcr2.abs S2).length, yc2) ((filesN rcr2.abs S2).map kvB), capI 1 9 (ya1, (filesN rcr1.abs S1).length, yc1) ((filesN rcr1.abs S1).map kvB), dskI dcp2 rcr2, dskI dcp1 rcr1, dskI dp1 rp1, boxI pb1 69 [.slice sa sl.length sc, .slice na nl.length nc, .slice pa pl.length pc, .int .i64 lf, .bool gn, .int .i64 mn]] [bysI Ecr2 rcr2.fs, rdI (blkC (sv (some ⟨pb2, 0, none⟩, al.length, al.length))) none_ (some ⟨pb2, 0, none⟩, al.length, al.length) al, bysI Ecr1 rcr1.fs, rdI none_ none_ (none, 0, 0) ([] : List UInt8), bysI Ep1 rp1.fs, flwI Wp1 (sa, sl.length, sc) sl, flwI Wp1 (na, nl.length, nc) nl, docI Wp1 ⟨sa, sc, sl, na, nc, nl, pa, pc, pl, lf, gn, mn⟩, opwI (fun j => EO j ∧ j < h.size) (a, l.length, c) l] hh ∧ i ≤ (filesN rcr1.abs S1).length ∧ m = (filesN rcr1.abs S1).length - i) ?_ ?_
    · exact ⟨_, 0, ⟨rfl, rfl, rfl, rfl, rfl, rfl, rfl, trivial⟩, ok, Nat.zero_le _, rfl⟩
    rintro _ _ η13 ⟨i, hs, ok, hi, rfl⟩ J1 hJ1
    refine .frame hs fun τ => ?_
    refine .seq <| .seq <| .r <| .w 88 .mvI <| .w 89 .mvS <| .w 90 (.len T.el82) <| .w 91 .lss <| .nil ?_
    refine .cdr (fun C5 => ?_) (fun C5 => ?_)
    · --
      refine .exit <| hK2 _ _ <| .seq <| .seq <| .r <| .w 14 .asI <| .nil ?_
      refine .block fun K4 hK4 => .loop (fun m s hh => ∃ (i : Nat), Has s [(3, .pointer (some ⟨dp1, 0, none⟩)), (4, .pointer (some ⟨pb1, 0, none⟩)), (8, .pointer (some ⟨dcp2, 0, none⟩)), (10, .slice ya2 ((filesN rcr2.abs S2).length) yc2), (14, .int .i64 (i : Int))] ∧ Hp h none_ [capI 1 9 (ya2, (filesN rcr2.abs S2).length, yc2) ((filesN rcr2.abs S2).map kvB), capI 1 9 (ya1, (filesN rcr1.abs S1).length, yc1) ((filesN rcr1.abs S1).map kvB), dskI dcp2 rcr2, dskI dcp1 rcr1, dskI dp1 rp1, boxI pb1 69 [.slice sa sl.length sc, .slice na nl.length nc, .slice pa pl.length pc, .int .i64 lf, .bool gn, .int .i64 mn]] [bysI Ecr2 rcr2.fs, rdI (blkC (sv (some ⟨pb2, 0, none⟩, al.length, al.length))) none_ (some ⟨pb2, 0, none⟩, al.length, al.length) al, bysI Ecr1 rcr1.fs, rdI none_ none_ (none, 0, 0) ([] : List UInt8), bysI Ep1 rp1.fs, flwI Wp1 (sa, sl.length, sc) sl, flwI Wp1 (na, nl.length, nc) nl, docI Wp1 ⟨sa, sc, sl, na, nc, nl, pa, pc, pl, lf, gn, mn⟩, opwI (fun j => EO j ∧ j < h.size) (a, l.length, c) l] hh ∧ i ≤ (filesN rcr2.abs S2).length ∧ m = (filesN rcr2.abs S2).length - i) ?_ ?_
      · exact ⟨_, 0, ⟨rfl, rfl, rfl, rfl, rfl, trivial⟩, ok, Nat.zero_le _, rfl⟩
      rintro _ _ η14 ⟨i, hs, ok, hi, rfl⟩ J2 hJ2
      refine .frame hs fun τ => ?_
      refine .seq <| .seq <| .r <| .w 129 .mvI <| .w 130 .mvS <| .w 131 (.len T.el82) <| .w 132 .lss <| .nil ?_
      refine .cdr (fun C7 => ?_) (fun C7 => ?_)
      · --
        refine .exit <| hK4 _ _ <| .seq <| .a 9 (fun fl hh => Hp h none_ [capI 1 9 (ya2, (filesN rcr2.abs S2).length, yc2) ((filesN rcr2.abs S2).map kvB), capI 1 9 (ya1, (filesN rcr1.abs S1).length, yc1) ((filesN rcr1.abs S1).map kvB), dskI dcp2 rcr2, dskI dcp1 rcr1, dskI dp1 rp1, boxI pb1 69 [.slice sa sl.length sc, .slice na nl.length nc, .slice pa pl.length pc, .int .i64 lf, .bool gn, .int .i64 mn]] [bysI Ecr2 rcr2.fs, rdI (blkC (sv (some ⟨pb2, 0, none⟩, al.length, al.length))) none_ (some ⟨pb2, 0, none⟩, al.length, al.length) al, bysI Ecr1 rcr1.fs, rdI none_ none_ (none, 0, 0) ([] : List UInt8), bysI Ep1 rp1.fs, flwI Wp1 (sa, sl.length, sc) sl, flwI Wp1 (na, nl.length, nc) nl, docI Wp1 ⟨sa, sc, sl, na, nc, nl, pa, pc, pl, lf, gn, mn⟩, opwI (fun j => EO j ∧ j < h.size) (a, l.length, c) l] hh) mixed ?_
        have hS := ok
        refine .o1 0 <| .c' false rfl 170 .func live_any ?_
        rintro _ η15 ⟨rfl, hx⟩
        have ok := ok.ext hx
        refine ⟨ok, ?_⟩
        have hS := ok
        refine .g 1 false rfl 171 hS (fun _ => .mvB) <| .g 2 false rfl 172 hS (fun _ => .mvP) <| .g 4 false rfl 174 hS (fun _ => .fa T.fd69_4) <| .lw 5 false rfl 175 hS (fun _ _ hS => .ldx T.ag4 hS.m5) <| .o1 3 <| .k false rfl 173 .func (dark_any (d := dp1) (r := rp1) (dsk_parts (ok.m4)).1) hS <| .g 6 false rfl 176 hS (fun _ => .bEq T.bo4) <| .g 7 false rfl 177 hS (fun _ => .pkt) <| .g 8 false rfl 2 hS (fun _ => .asB) <| .e ?_
        refine .ret ⟨.bool (rp1.dark == gn), Res.one rfl rfl, ⟨by rw [show rp1.dark = gn from hrelp1.dark]; simp, ok.chg⟩⟩
      have hil : i < (filesN rcr2.abs S2).length := by omega
      obtain ⟨hi2, hfi, hri⟩ := hse1.get hKS2 hil
      have hin : i < nl.length := by simpa using hi2
      have hwi : (nl.map RWF.abs)[i] = nl[i].abs := List.getElem_map _
      rw [hwi] at hfi hri
      have ok := ok.d6 (rdI Wp1 Wp1 (nl[i].ba, nl[i].bl.length, nl[i].bc) nl[i].bl) ((ok.r6).by' _ (List.getElem_mem hin)) (fun _ h => h.elim id id)
      refine .skip <| .seq <| .block fun K5 hK5 => .seq <| .r <| .w 136 .mvP <| .w 137 .mvS <| .w 138 .mvI <| ?_
      obtain ⟨bb1, oo1, rfl, fb1⟩ := ok.m0.pos (n := (filesN rcr2.abs S2).length) (by omega)
      refine .w 139 (.ix1 i T.el82 T.sz9) <| .w 140 (.ld T.ag9 (Cap.nm ok.m0 (i := i) (by omega))) <| .c' 141 .func (read_anyD (d := dcp2) (r := rcr2) (E := Ecr2) (n := (filesN rcr2.abs S2)[i]) (y := 0) (z := 1048576) ((ok.n2.f1).rdo) hkcr2 ⟨by omega, by omega⟩ ⟨by omega, by omega⟩) ?_
      rintro _ η16 ⟨w, rfl, own⟩
      obtain ⟨ya3, yc3, rfl⟩ := own.formB
      have ok := ok.own own
      refine .w 135 .mvU <| .w 142 .ex <| .w 143 .ex <| .w 15 .asS <| .w 16 .asI <| .nil ?_
      refine .seq <| .q (hm := mixed) <| .w 144 .mvS <| .w 145 .mvI <| .w 146 (.ix1 i T.el82 T.sz9) <| .w 147 (.ld T.ag9 (Cap.nm ok.m1 (i := i) (by omega))) <| .w 148 (.fa T.fd69_1) <| .w 149 (.ldx T.ag66 ok.m6) <| .w 150 .mvI <| ?_
      obtain ⟨bb2, oo2, rfl, fb2⟩ := ok.r7.pos (by omega)
      refine .w 151 (.ix i T.el66 T.sz86) <| .w 152 (.fa T.fd86_0) <| .w 153 (.ld T.ag9 (sl_at RWF.cells_len (ok.r7).sl (i := i) (j := 0) (by omega) rfl)) <| .w 154 .tNeB <| .w 155 .mvB <| .sd (fun G155 => ?_) (fun G155 => ?_)
      ·
        exact absurd hfi G155
      refine .w 156 .mvI <| .w 157 .neq <| .w 158 .pkf <| .w 159 .mvB <| .sd (fun G159 => ?_) (fun G159 => ?_)
      ·
        exact absurd (by rw [hfi, hri]; rfl) G159
      refine .w 160 .mvS <| .w 161 (.fa T.fd69_1) <| .w 162 (.ldx T.ag66 ok.m6) <| .w 163 .mvI <| .w 164 (.ix i T.el66 T.sz86) <| .w 165 (.fa T.fd86_1) <| .w 166 (.ld T.ag22 (sl_at RWF.cells_len (ok.r7).sl (i := i) (j := 1) (by omega) rfl)) <| .k 167 .func (same_any (a := ya3) (c := yc3) (l := ((readN rcr2.abs ((filesN rcr2.abs S2)[i]) 0 1048576).1)) (b := nl[i].ba) (d := nl[i].bc) (l2 := nl[i].bl) (RdL.ofCapB (v := (ya3, ((readN rcr2.abs ((filesN rcr2.abs S2)[i]) 0 1048576).1).length, yc3)) (l := ((readN rcr2.abs ((filesN rcr2.abs S2)[i]) 0 1048576).1)) ok.m0) ok.r0) <| .w 168 .notd <| .w 169 .pkf <| .nil ?_
      refine .cd (fun C8 => ?_) (fun C8 => ?_)
      · --
        first | exact absurd (by rw [hfi, hri]; rfl) C8 | (rw [hfi, hri] at C8; simp [RWF.abs] at C8)
      refine .skip <| .end <| hK5 _ _ <| .r <| .w 133 .mvI <| .w 134 (.addI (b := 1)) <| .w 14 .asI <| .nil ?_
      refine .end <| hJ2 _ _ _ ⟨i + 1, ⟨rfl, rfl, rfl, rfl, rfl, trivial⟩, (ok.n6.n6.n6.n6.n6.n6).k6.f9.f9.f9.f9.f9.f9.f9.f9.f9.e9, by omega, rfl⟩ (by omega)
    have hil : i < (filesN rcr1.abs S1).length := by omega
    obtain ⟨hi2, hfi, hri⟩ := hse0.get hKS1 hil
    have hin : i < sl.length := by simpa using hi2
    have hwi : (sl.map RWF.abs)[i] = sl[i].abs := List.getElem_map _
    rw [hwi] at hfi hri
    have ok := ok.d5 (rdI Wp1 Wp1 (sl[i].ba, sl[i].bl.length, sl[i].bc) sl[i].bl) ((ok.r5).by' _ (List.getElem_mem hin)) (fun _ h => h.elim id id)
    refine .skip <| .seq <| .block fun K3 hK3 => .seq <| .r <| .w 95 .mvP <| .w 96 .mvS <| .w 97 .mvI <| ?_
    obtain ⟨bb3, oo3, rfl, fb3⟩ := ok.m1.pos (n := (filesN rcr1.abs S1).length) (by omega)
    refine .w 98 (.ix1 i T.el82 T.sz9) <| .w 99 (.ld T.ag9 (Cap.nm ok.m1 (i := i) (by omega))) <| .c' 100 .func (read_anyD (d := dcp1) (r := rcr1) (E := Ecr1) (n := (filesN rcr1.abs S1)[i]) (y := 0) (z := 1048576) ((ok.n3.f3).rdo) hkcr1 ⟨by omega, by omega⟩ ⟨by omega, by omega⟩) ?_
    rintro _ η17 ⟨w, rfl, own⟩
    obtain ⟨ya4, yc4, rfl⟩ := own.formB
    have ok := ok.own own
    refine .w 94 .mvU <| .w 101 .ex <| .w 102 .ex <| .w 12 .asS <| .w 13 .asI <| .nil ?_
    refine .seq <| .q (hm := mixed) <| .w 103 .mvS <| .w 104 .mvI <| .w 105 (.ix1 i T.el82 T.sz9) <| .w 106 (.ld T.ag9 (Cap.nm ok.m2 (i := i) (by omega))) <| .w 107 (.fa T.fd69_0) <| .w 108 (.ldx T.ag66 ok.m6) <| .w 109 .mvI <| ?_
    obtain ⟨bb4, oo4, rfl, fb4⟩ := ok.r6.pos (by omega)
    refine .w 110 (.ix i T.el66 T.sz86) <| .w 111 (.fa T.fd86_0) <| .w 112 (.ld T.ag9 (sl_at RWF.cells_len (ok.r6).sl (i := i) (j := 0) (by omega) rfl)) <| .w 113 .tNeB <| .w 114 .mvB <| .sd (fun G114 => ?_) (fun G114 => ?_)
    ·
      exact absurd hfi G114
    refine .w 115 .mvI <| .w 116 .neq <| .w 117 .pkf <| .w 118 .mvB <| .sd (fun G118 => ?_) (fun G118 => ?_)
    ·
      exact absurd (by rw [hfi, hri]; rfl) G118
    refine .w 119 .mvS <| .w 120 (.fa T.fd69_0) <| .w 121 (.ldx T.ag66 ok.m6) <| .w 122 .mvI <| .w 123 (.ix i T.el66 T.sz86) <| .w 124 (.fa T.fd86_1) <| .w 125 (.ld T.ag22 (sl_at RWF.cells_len (ok.r6).sl (i := i) (j := 1) (by omega) rfl)) <| .k 126 .func (same_any (a := ya4) (c := yc4) (l := ((readN rcr1.abs ((filesN rcr1.abs S1)[i]) 0 1048576).1)) (b := sl[i].ba) (d := sl[i].bc) (l2 := sl[i].bl) (RdL.ofCapB (v := (ya4, ((readN rcr1.abs ((filesN rcr1.abs S1)[i]) 0 1048576).1).length, yc4)) (l := ((readN rcr1.abs ((filesN rcr1.abs S1)[i]) 0 1048576).1)) ok.m0) ok.r0) <| .w 127 .notd <| .w 128 .pkf <| .nil ?_
    refine .cd (fun C6 => ?_) (fun C6 => ?_)
    · --
      first | exact absurd (by rw [hfi, hri]; rfl) C6 | (rw [hfi, hri] at C6; simp [RWF.abs] at C6)
    refine .skip <| .end <| hK3 _ _ <| .r <| .w 92 .mvI <| .w 93 (.addI (b := 1)) <| .w 11 .asI <| .nil ?_
    refine .end <| hJ1 _ _ _ ⟨i + 1, ⟨rfl, rfl, rfl, rfl, rfl, rfl, rfl, trivial⟩, (ok.n6.n6.n6.n6.n6.n6).k6.f9.f9.f9.f9.f9.f9.f9.f9.f9.e9, by omega, rfl⟩ (by omega)
  have hil : i < l.length := by omega
  refine .skip <| .seq <| .block fun K1 hK1 => .r <| .w 37 .mvS <| .w 38 .mvI <| .w 39 (.ix1 i T.el22 T.sz5) <| .ur' (.sxI (q := i) T.sz5 ok) ?_
  rintro η18 ⟨ok, cg⟩
  refine .nil ?_
  refine .end <| hK1 _ _ <| .r <| .w 35 .mvI <| .w 36 (.addI (b := 1)) <| .w 6 .asI <| .nil ?_
  refine .end <| hJ0 _ _ _ ⟨i + 1, ⟨rfl, rfl, rfl, rfl, trivial⟩, (((ok).cx (ys := (List.replicate (i + 1) (255 : UInt8) ++ List.replicate (l.length - (i + 1)) (0 : UInt8)).map bv) (by exact set_255 hil)).n2.n2.n2).k3.f4.f4.f4.f4.f4, by omega, rfl⟩ (by omega)

end Go.Proofs.Ytpebbkhainpfaaa

namespace Go.HL
open Go Go.RowKit Go.ChangeShapes Go.WideShapes Go.ChangeAt

theorem Below.of {w w' : World} {h' : Heap} (a : At (Env.of w) h' w') (x : Ext w.heap h') : Below w.heap.size w w' :=
  ⟨a.os, a.tape, a.output, by rw [a.heap]; exact x.size, fun k hk => by rw [a.heap]; exact x.same k hk fun f => f⟩

/-- Each argument reads as it did, where nothing old has turned. -/
theorem trodAll_below {H : Type} {enc : TypeId × Value → H} {P : Program} (hl : laidOutB P = true) {W W' : World} (hb : Below W.heap.size W W') : ∀ {ts : List TypeId} {vs : List Value} {ds : List (DataW H)} {ps : List MemPlace},
    (ts.all fun t => P.readableRec t && decide (t < P.types.size)) = true → (∀ x ∈ ps, x.block < W.heap.size) → DataW.TrodAll enc P W 0 (fun _ => true) true ts vs ds ps → DataW.TrodAll enc P W' 0 (fun b => decide (b < W.heap.size)) true ts vs ds ps
  | [], [], [], _, _, _, h => h
  | t :: ts, v :: vs, d :: ds, ps, ht, hp, h => by
    obtain ⟨p, q, h1, h2, rfl⟩ := h
    simp only [List.all_cons, Bool.and_eq_true, decide_eq_true_eq] at ht
    exact ⟨p, q, RowKit.Below.trod hl ht.1.1 ht.1.2 h1 hb (fun x hx => hp x (List.mem_append_left _ hx)), trodAll_below hl hb (by simpa using ht.2) (fun x hx => hp x (List.mem_append_right _ hx)) h2, rfl⟩
  | [], [], _ :: _, _, _, _, h => h.elim
  | [], _ :: _, _, _, _, _, h => h.elim
  | _ :: _, [], _, _, _, _, h => h.elim
  | _ :: _, _ :: _, [], _, _, _, h => h.elim

/-- A law's row: it returns true, and nothing old has turned. -/
theorem law_post {H : Type} {enc : TypeId × Value → H} {P : Program} {f : Func} {s : ChangeSpec} {fresh handsOn : Bool} {W W' : World} {args : Array Value} {ds gs : List (DataW H)} {before : List MemPlace} {tb : TypeId}
    (hl : laidOutB P = true) (hW : DataW.Whole enc P f.params.toList s.vars false W args.toList ds gs before) (hv : s.vars = []) (ht : (f.params.toList.all fun t => P.readableRec t && decide (t < P.types.size)) = true)
    (hr : f.resultTypes = #[tb]) (hb : P.underlying tb = some .bool) (hs : s.fn H ds = { results := [.lit (.bool true)], args := ds }) {h' : Heap} (a : At (Env.of W) h' W') (x : Ext W.heap h') :
    s.post enc P f false fresh handsOn false W args (.bool true) W' := by
  have bel := Below.of a x
  have hlt := hW.lt
  obtain ⟨p, q, hA, hV, rfl, hfz, hnd⟩ := hW
  rw [hv] at hV
  cases gs with
  | cons g gs => exact hV.elim
  | nil =>
    have hq : q = [] := hV
    subst hq
    rw [List.append_nil] at *
    refine ⟨ds, [], p, [], p, [], ⟨p, [], hA, by rw [hv]; rfl, by simp, hfz, hnd⟩, ?_, ?_, ?_, bel.frame _, fun h => by cases h⟩
    · rw [List.append_nil, hs, hr]
      exact trodAll_mk1 (shut_bool hb _)
    · rw [List.append_nil, hs]
      exact trodAll_below hl bel ht (fun x hx => hlt x (by simpa using hx)) hA
    · rw [List.append_nil, hs, hv]; rfl

theorem addr_add (b o j : Nat) : (⟨b, o, none⟩ : Addr).add j = ⟨b, o + j, none⟩ := by unfold Addr.add; split <;> simp_all
theorem byte_val {z : Int} (w : (Lit.int .u8 z).wf = true) : ∃ x : UInt8, z = (x.toNat : Int) := by
  have hr : 0 ≤ z ∧ z ≤ 255 := by simpa [Lit.wf, IntKind.min, IntKind.max, IntKind.signed, IntKind.bits] using w
  refine ⟨UInt8.ofNat z.toNat, ?_⟩
  simp
  omega
/-- Bytes that came in. -/
theorem open_bytes {H : Type} {enc : TypeId × Value → H} {P : Program} {w : World} {sp : Nat → Bool} {held : Bool} {t e : TypeId} {v : Value} {d : DataW H} {ps : List MemPlace} (ht : P.underlying t = some (.slice e)) (he : P.underlying e = some (.int .u8)) (hc : P.cellsOf e = 1)
    (hv : ∃ a n c, v = .slice a n c) (h : DataW.Trod enc P w 0 sp held t v d ps) : ∃ l : List UInt8, Bytes w.heap v l := by
  obtain ⟨a, n, c, rfl⟩ := hv
  obtain ⟨fuel, hf⟩ := h
  rcases open_ints ht he hc hf with ⟨hcs, _⟩ | ⟨x, len, cap, zs, hcs, _, hlc, hm, hz, _, hcell, hwz⟩
  · simp [Value.cells] at hcs
    obtain ⟨rfl, rfl, rfl⟩ := hcs
    exact ⟨[], Sl.nil _ _⟩
  · simp [Value.cells] at hcs
    obtain ⟨rfl, rfl, rfl⟩ := hcs
    unfold maxLen at hm
    have hzl : n ≤ zs.length := by rw [hz]; split <;> omega
    refine ⟨(zs.take n).map fun z => UInt8.ofNat z.toNat, some x, n, c, rfl, hlc, by omega, by simp; omega, fun hn => ?_⟩
    obtain ⟨b, o, spot⟩ := x
    have h0 := hcell 0 (by omega)
    have hspot : spot = none := by simpa [Addr.add] using World.cell?_spot h0
    subst hspot
    refine ⟨b, o, rfl, fun i y hy => ?_⟩
    simp only [List.getElem?_map, Option.map_eq_some_iff] at hy
    obtain ⟨u, ⟨z, hz1, rfl⟩, rfl⟩ := hy
    rw [List.getElem?_take] at hz1
    split at hz1
    · rename_i hi
      have hi2 : i < zs.length := by omega
      have h1 := hcell i hi2
      have hzz : zs.getD i 0 = z := by simp [List.getD, hz1]
      rw [hzz] at h1
      have hwf := hwz z (List.mem_of_getElem? hz1)
      have hr : 0 ≤ z ∧ z ≤ 255 := by simpa [Lit.wf, IntKind.min, IntKind.max, IntKind.signed, IntKind.bits] using hwf
      have e : bv (UInt8.ofNat z.toNat) = .int .u8 z := by
        unfold bv
        congr 1
        simp
        omega
      rw [e, ← cell?_eq]
      rw [addr_add] at h1
      exact h1
    · cases hz1
end Go.HL

namespace Go.HL
open Go Go.RowKit Go.ChangeShapes Go.WideShapes Go.ChangeAt

/-- Whatever reads as the type t, reads so. -/
structure Opn (P : Program) (t : TypeId) {α : Type} (R : Heap → List Value → α → Prop) : Prop where
  run : ∀ {H : Type} {enc : TypeId × Value → H} {w : World} {sp : Nat → Bool} {held : Bool} {fuel : Nat} {cs : List Value} {x : DataW H × List MemPlace}, DataW.trod enc P w 0 sp held fuel t cs = some x → ∃ a, R w.heap cs a

section
variable {P : Program} {t e : TypeId}
theorem Opn.mono {α β : Type} {R : Heap → List Value → α → Prop} {R' : Heap → List Value → β → Prop} (o : Opn P t R) (h : ∀ hp cs a, R hp cs a → ∃ b, R' hp cs b) : Opn P t R' := ⟨fun hx => let ⟨a, ha⟩ := o.run hx; h _ _ a ha⟩
theorem Opn.int {k : IntKind} (ht : P.underlying t = some (.int k)) : Opn P t (fun _ cs (z : Int) => cs = [.int k z] ∧ k.min ≤ z ∧ z ≤ k.max) := ⟨fun hx => by
  obtain ⟨n, rfl, _, hw⟩ := DataW.trod_int ht hx
  exact ⟨n, rfl, by simpa [Lit.wf] using hw⟩⟩
theorem Opn.i64 (ht : P.underlying t = some (.int .i64)) : Opn P t (fun _ cs (z : Int) => cs = [.int .i64 z] ∧ -9223372036854775808 ≤ z ∧ z ≤ 9223372036854775807) := ⟨fun hx => by
  obtain ⟨n, rfl, _, hw⟩ := DataW.trod_int ht hx
  exact ⟨n, rfl, by simpa [Lit.wf, IntKind.min, IntKind.max, IntKind.signed, IntKind.bits] using hw⟩⟩
theorem Opn.u8 (ht : P.underlying t = some (.int .u8)) : Opn P t (fun _ cs (x : UInt8) => cs = [bv x]) := ⟨fun hx => by
  obtain ⟨n, rfl, _, hw⟩ := DataW.trod_int ht hx
  obtain ⟨x, rfl⟩ := byte_val hw
  exact ⟨x, rfl⟩⟩
theorem Opn.bool (ht : P.underlying t = some .bool) : Opn P t (fun _ cs (b : Bool) => cs = [.bool b]) := ⟨fun hx => by
  obtain ⟨b, rfl, _⟩ := DataW.trod_bool ht hx
  exact ⟨b, rfl⟩⟩
theorem Opn.string (ht : P.underlying t = some .string) : Opn P t (fun _ cs (s : ByteArray) => cs = [.string s] ∧ s.size ≤ maxLen) := ⟨fun hx => by
  obtain ⟨s, rfl, _, hs⟩ := DataW.trod_string ht hx
  exact ⟨s, rfl, hs⟩⟩
theorem cells_spot {w : World} {base k : Nat} {b o : Nat} {spot : _} {cs : List Value} (h : w.cells? base ((⟨b, o, spot⟩ : Addr).add (0 * k)) k = some cs) (hk : 0 < k) : spot = none := by
  obtain ⟨_, h1, h2⟩ := World.cells?_some h
  obtain ⟨c, hc⟩ : ∃ c, cs[0]? = some c := ⟨cs[0], by simp [h1, hk]⟩
  have h3 := h2 0 hk
  rw [hc] at h3
  have h4 := World.cell?_spot h3
  simpa [Addr.add] using h4
theorem cells_at {w : World} {base k : Nat} {b o i : Nat} {cs : List Value} (h : w.cells? base ((⟨b, o, none⟩ : Addr).add (i * k)) k = some cs) : cs.length = k ∧ ∀ j v, cs[j]? = some v → cell w.heap b (o + i * k + j) = some v := by
  obtain ⟨_, h1, h2⟩ := World.cells?_some h
  refine ⟨h1, fun j v hv => ?_⟩
  have hj : j < k := by have := (List.getElem?_eq_some_iff.1 hv).1; omega
  have h3 := h2 j hj
  rw [hv, addr_add, addr_add, cell?_eq] at h3
  exact h3
theorem choose_lists {α β : Type} {R : Nat → β → α → Prop} : ∀ (n : Nat), (∀ i, i < n → ∃ y z, R i y z) → ∃ (os : List β) (l : List α), os.length = n ∧ l.length = n ∧ ∀ i (h1 : i < os.length) (h2 : i < l.length), R i os[i] l[i]
  | 0, _ => ⟨[], [], rfl, rfl, fun i h => absurd h (by simp)⟩
  | n + 1, each => by
    obtain ⟨os, l, g1, g2, g3⟩ := choose_lists n (fun i hi => each i (by omega))
    obtain ⟨y, z, g4⟩ := each n (by omega)
    refine ⟨os ++ [y], l ++ [z], by simp [g1], by simp [g2], fun i h1 h2 => ?_⟩
    by_cases hi : i < n
    · have e1 : (os ++ [y])[i] = os[i]'(by omega) := List.getElem_append_left (by omega)
      have e2 : (l ++ [z])[i] = l[i]'(by omega) := List.getElem_append_left (by omega)
      rw [e1, e2]; exact g3 i _ _
    · have hi' : i = n := by simp [g1] at h1; omega
      subst hi'
      have e1 : (os ++ [y])[i] = y := by simp [g1]
      have e2 : (l ++ [z])[i] = z := by simp [g2]
      rw [e1, e2]; exact g4
theorem map_one {α β : Type} (f : α → β) : ∀ l : List α, l.map f = l.flatMap fun x => [f x]
  | [] => rfl
  | x :: l => by simp only [List.map_cons, List.flatMap_cons, ← map_one f l]; rfl
/-- A slice of elements of k cells each. -/
theorem Opn.slice {α β : Type} {f : β → List Value} {Q : Heap → β → α → Prop} {k : Nat} (ht : P.underlying t = some (.slice e)) (hk : P.cellsOf e = k) (hk0 : 0 < k) (hf : ∀ o, (f o).length = k) (he : Opn P e (fun h cs a => ∃ o, cs = f o ∧ Q h o a)) :
    Opn P t (fun h cs (l : List α) => ∃ (x : SV) (os : List β), cs = [sv x] ∧ Sl h k (sv x) (os.flatMap f) ∧ All2 (Q h) os l) := by
  refine ⟨?_⟩
  intro H enc w sp held fuel cs x hx
  rcases DataW.trod_slice ht hx with ⟨rfl, _⟩ | ⟨a, len, cap, elems, rest, n, _, rfl, _, _, hl, hm, hlen, hel, _, _⟩
  · exact ⟨[], (none, 0, 0), [], rfl, Sl.nil _ _, All2.nil⟩
  obtain ⟨b, o, spot⟩ := a
  have get : ∀ i, i < len → ∃ cs, w.cells? 0 ((⟨b, o, spot⟩ : Addr).add (i * k)) k = some cs ∧ ∃ z y, cs = f y ∧ Q w.heap y z := fun i hi => by
    have h1 := hel i hi
    have h2 : elems[i]? = some (elems[i]'(by omega)) := by simp
    rw [h2, hk, Option.bind_eq_some_iff] at h1
    obtain ⟨cs, h3, h4⟩ := h1
    obtain ⟨z, y, hq⟩ := he.run h4
    exact ⟨cs, h3, z, y, hq⟩
  have hspot : 0 < len → spot = none := fun hp => let ⟨_, h, _⟩ := get 0 hp; cells_spot h hk0
  obtain ⟨os, l, ho1, hl1, hall⟩ := choose_lists (R := fun i y z => Q w.heap y z ∧ ∀ j v, (f y)[j]? = some v → cell w.heap b (o + i * k + j) = some v) len (fun i hi => by
    obtain ⟨cs, h3, z, y, rfl, hq⟩ := get i hi
    have := hspot (by omega)
    subst this
    exact ⟨y, z, hq, (cells_at h3).2⟩)
  unfold maxLen at hm
  refine ⟨l, (some ⟨b, o, spot⟩, len, cap), os, rfl, ⟨_, _, _, rfl, hl, by omega, ?_, fun hp => ?_⟩, by omega, fun i h1 h2 => (hall i h1 h2).1⟩
  · rw [flat_len hf, ho1]
  · have hs := hspot hp
    subst hs
    refine ⟨b, o, rfl, fun i x hi => ?_⟩
    have hlt := (List.getElem?_eq_some_iff.1 hi).1
    rw [flat_len hf, ho1] at hlt
    have hdm : i = i / k * k + i % k := by rw [Nat.mul_comm]; exact (Nat.div_add_mod i k).symm
    have h1 : i / k < len := Nat.div_lt_of_lt_mul (by rw [Nat.mul_comm]; exact hlt)
    have h2 : i % k < k := Nat.mod_lt _ hk0
    rw [hdm, flat_at hf os (i / k) (i % k) (by omega) h2] at hi
    rw [hdm, ← Nat.add_assoc]
    exact (hall (i / k) (by omega) (by omega)).2 _ _ hi
/-- Slices of bytes, of ints. -/
theorem Opn.bytes (ht : P.underlying t = some (.slice e)) (he : P.underlying e = some (.int .u8)) (hc : P.cellsOf e = 1) : Opn P t (fun h cs (l : List UInt8) => ∃ x : SV, cs = [sv x] ∧ Bytes h (sv x) l) :=
  (Opn.slice (f := fun x : UInt8 => [bv x]) (Q := fun _ o a => o = a) ht hc (by omega) (fun _ => rfl) ((Opn.u8 he).mono fun _ _ a h => ⟨a, a, h, rfl⟩)).mono fun h cs l ⟨x, os, h1, h2, h3⟩ => by
    have : os = l := List.ext_getElem h3.1 fun i h4 h5 => h3.2 i h4 h5
    subst this
    refine ⟨os, x, h1, ?_⟩
    have e := map_one bv os
    unfold Bytes; rw [e]; exact h2
theorem Opn.ints (ht : P.underlying t = some (.slice e)) (he : P.underlying e = some (.int .i64)) (hc : P.cellsOf e = 1) : Opn P t (fun h cs (l : List Int) => ∃ x : SV, cs = [sv x] ∧ Ints h (sv x) l ∧ ∀ z ∈ l, -9223372036854775808 ≤ z ∧ z ≤ 9223372036854775807) :=
  (Opn.slice (f := fun x : Int => [iv x]) (Q := fun _ o a => o = a ∧ -9223372036854775808 ≤ a ∧ a ≤ 9223372036854775807) ht hc (by omega) (fun _ => rfl) ((Opn.i64 he).mono fun _ _ a h => ⟨a, a, h.1, rfl, h.2⟩)).mono fun h cs l ⟨x, os, h1, h2, h3⟩ => by
    have : os = l := List.ext_getElem h3.1 fun i h4 h5 => (h3.2 i h4 h5).1
    subst this
    refine ⟨os, x, h1, ?_, fun z hz => ?_⟩
    · have e := map_one iv os
      unfold Ints; rw [e]; exact h2
    · obtain ⟨i, hi, rfl⟩ := List.mem_iff_getElem.1 hz
      exact (h3.2 i hi hi).2
/-- A struct: its cells, and each field's. -/
theorem opn_struct {fs : Array Field} (ht : P.underlying t = some (.struct fs)) {H : Type} {enc : TypeId × Value → H} {w : World} {sp : Nat → Bool} {held : Bool} {fuel : Nat} {cs : List Value} {x : DataW H × List MemPlace} (hx : DataW.trod enc P w 0 sp held fuel t cs = some x) :
    cs.length = P.cellsOf t ∧ ∀ (i : Nat) (f : Field), fs[i]? = some f → ∃ n y, DataW.trod enc P w 0 sp held n f.type ((cs.drop f.offset).take (P.cellsOf f.type)) = some y := by
  obtain ⟨xs, n, _, _, h1, h2, h3⟩ := DataW.trod_struct ht hx
  refine ⟨h1, fun i f hf => ?_⟩
  have hi : i < xs.length := by have := (Array.getElem?_eq_some_iff.1 hf).1; omega
  exact ⟨n, xs[i], by rw [h3 i f hf]; simp⟩
/-- A field that is known by its place. -/
theorem opn_field {i off ft k : Nat} (hf : fdB P t i = some (off, ft, k)) {H : Type} {enc : TypeId × Value → H} {w : World} {sp : Nat → Bool} {held : Bool} {fuel : Nat} {cs : List Value} {x : DataW H × List MemPlace} (hx : DataW.trod enc P w 0 sp held fuel t cs = some x)
    {α : Type} {R : Heap → List Value → α → Prop} (o : Opn P ft R) : ∃ a, R w.heap ((cs.drop off).take k) a := by
  obtain ⟨fs, fd, inf, ht, hfi, rfl, rfl, h3, h4⟩ := fdB_iff hf
  obtain ⟨n, y, h2⟩ := (opn_struct ht hx).2 i fd hfi
  have : P.cellsOf fd.type = k := by simp [Program.cellsOf, h3, h4]
  rw [this] at h2
  exact o.run h2
/-- An argument. -/
theorem Opn.arg {α : Type} {R : Heap → List Value → α → Prop} (o : Opn P t R) {H : Type} {enc : TypeId × Value → H} {w : World} {sp : Nat → Bool} {held : Bool} {v : Value} {d : DataW H} {ps : List MemPlace} (h : DataW.Trod enc P w 0 sp held t v d ps) : ∃ a, R w.heap v.cells.toList a :=
  let ⟨_, hf⟩ := h; o.run hf
end
theorem len5 {cs : List Value} (h : cs.length = 5) : ∃ a b c d e, cs = [a, b, c, d, e] := by
  match cs, h with
  | [a, b, c, d, e], _ => exact ⟨a, b, c, d, e, rfl⟩
theorem len4 {cs : List Value} (h : cs.length = 4) : ∃ a b c d, cs = [a, b, c, d] := by
  match cs, h with
  | [a, b, c, d], _ => exact ⟨a, b, c, d, rfl⟩
theorem len3 {cs : List Value} (h : cs.length = 3) : ∃ a b c, cs = [a, b, c] := by
  match cs, h with
  | [a, b, c], _ => exact ⟨a, b, c, rfl⟩
theorem len2 {cs : List Value} (h : cs.length = 2) : ∃ a b, cs = [a, b] := by
  match cs, h with
  | [a, b], _ => exact ⟨a, b, rfl⟩
end Go.HL
namespace Go.HL
open Go
theorem sv_cells {a : Option Addr} {n c : Nat} {x : SV} (h : (Value.slice a n c).cells.toList = [sv x]) : x = (a, n, c) := by
  simp [Value.cells] at h
  obtain ⟨h1, h2, h3⟩ := h
  obtain ⟨x1, x2, x3⟩ := x
  simp_all
end Go.HL

namespace Go.Proofs.Ytpebbkhainpfaaa
open Go Go.HL
def InK (x : ROp) : Prop := x.k < 256 ∧ (-9223372036854775808 ≤ x.y ∧ x.y ≤ 9223372036854775807) ∧ (-9223372036854775808 ≤ x.z ∧ x.z ≤ 9223372036854775807)
theorem opn_op : Opn Try.prog 73 (fun h cs (x : ROp) => cs = x.cells ∧ RdL h any_ any_ (x.ba, x.bl.length, x.bc) x.bl ∧ InK x) := ⟨fun hx => by
  have hl := (opn_struct Try.underlying73 hx).1
  have f0 := opn_field T.fd73_0 hx (Opn.u8 Try.underlying5)
  have f1 := opn_field T.fd73_1 hx (Opn.string Try.underlying9)
  have f2 := opn_field T.fd73_2 hx (Opn.i64 Try.underlying3)
  have f3 := opn_field T.fd73_3 hx (Opn.i64 Try.underlying3)
  have f4 := opn_field T.fd73_4 hx (Opn.bytes Try.underlying22 Try.underlying5 (by kernel_rfl))
  obtain ⟨c0, c1, c2, c3, c4, rfl⟩ := len5 (hl.trans (by kernel_rfl : _ = 5))
  obtain ⟨k, h0⟩ := f0
  obtain ⟨s, h1, _⟩ := f1
  obtain ⟨y, h2, hy⟩ := f2
  obtain ⟨z, h3, hz⟩ := f3
  obtain ⟨b, ⟨a, n, c⟩, h4, hb⟩ := f4
  simp at h0 h1 h2 h3 h4
  subst h0 h1 h2 h3 h4
  have r := RdL.ofBytes (E := any_) hb
  obtain rfl : n = b.length := r.n
  exact ⟨⟨k.toNat, s.data.toList, y, z, a, c, b⟩, by simp only [ROp.cells, ← BA_of]; rfl, r.mono (fun _ _ => trivial) (fun _ _ => trivial), k.toNat_lt, hy, hz⟩⟩
theorem opn_ops : Opn Try.prog 65 (fun h cs (l : List ROp) => ∃ x : SV, cs = [sv x] ∧ RwB 5 ROp.cells ROp.sb h any_ x l ∧ OpsOk l) :=
  (Opn.slice (f := ROp.cells) (Q := fun h o (x : ROp) => o = x ∧ RdL h any_ any_ (x.ba, x.bl.length, x.bc) x.bl ∧ InK x) Try.underlying65 (by kernel_rfl : _ = 5) (by omega) ROp.cells_len (opn_op.mono fun h cs x ⟨e, h1, h2⟩ => ⟨x, x, e, rfl, h1, h2⟩)).mono fun h cs l ⟨x, os, h1, h2, h3⟩ => by
    have : os = l := List.ext_getElem h3.1 fun i h4 h5 => (h3.2 i h4 h5).1
    subst this
    have hall : ∀ y ∈ os, RdL h any_ any_ (y.ba, y.bl.length, y.bc) y.bl ∧ InK y := fun y hy => by
      obtain ⟨i, hi, rfl⟩ := List.mem_iff_getElem.1 hy
      exact (h3.2 i hi hi).2
    obtain ⟨a, n, c⟩ := x
    exact ⟨os, (a, n, c), h1, ⟨h2, (Sl.sz h2 ROp.cells_len (by decide)).1.symm, fun _ _ => trivial, fun y hy => (hall y hy).1⟩, fun y hy => (hall y hy).2⟩
theorem cuts_row {h : Heap} {a : Option Addr} {n c : Nat} {l : List ROp} {x : UInt8} (hl : RwB 5 ROp.cells ROp.sb h any_ (a, n, c) l ∧ OpsOk l) : HC Try.prog 12 #[.slice a n c, .int .u8 (x.toNat : Int)] h (fun v h' => v = .bool true ∧ Ext h h') := by
  obtain ⟨hl, ho⟩ := hl
  obtain rfl : n = l.length := hl.n
  exact cuts_walk hl ho x.toNat_lt
end Go.Proofs.Ytpebbkhainpfaaa

namespace Go.Proofs.Ytpebbkhainpfaaa
open Go Go.HL
theorem ends_row {h : Heap} {a : Option Addr} {n c : Nat} {l : List ROp} (hl : RwB 5 ROp.cells ROp.sb h any_ (a, n, c) l ∧ OpsOk l) : HC Try.prog 10 #[.slice a n c] h (fun v h' => v = .bool true ∧ Ext h h') := by
  obtain ⟨hl, ho⟩ := hl
  obtain rfl : n = l.length := hl.n
  exact ends_walk hl ho
end Go.Proofs.Ytpebbkhainpfaaa

namespace Go.Proofs.Ytpebbkhainpfaaa
open Go Go.HL Go.ChangeShapes Go.WideShapes Go.ChangeAt Go.RowKit

theorem own_knob : ownKnob Try.prog.godebug = none := by kernel_rfl
theorem laid_out : laidOutB Try.prog = true := by kernel_rfl

set_option maxRecDepth 100000 in
theorem diskEnds_lifted (os : Os) (started : os.Started) (H : Type) (enc : TypeId × Value → H) :
    ReturnsInHanded {} Try.checked os 10 .any (Rows.diskEndsSpec.pre6 enc Try.prog Try.f10 Rows.diskEndsRow.domain false) (Rows.diskEndsSpec.post enc Try.prog Try.f10 false true false false) := by
  refine returnsInHanded_of_change (C := Try.checked) own_knob started (by kernel_rfl) Try.func10
    (ChangeSpec.witness6 (enc := enc) (C := Try.checked) false ⟨#[], #[.slice none 0 0], []⟩ 8 (by kernel_rfl) (by kernel_rfl) (by kernel_rfl) (by kernel_rfl)) ?_
  intro W base args ds gs before hval0 hW hcnd _
  have hval : ∀ (j : Nat) t v, Try.f10.params[j]? = some t → args[j]? = some v → Value.okWide Try.prog W .any base t v := hval0
  have hW' := hW
  obtain ⟨p, q, hA0, hV, rfl, hfz, hnd⟩ := hW
  have hA : DataW.TrodAll enc Try.prog W 0 (fun _ => true) true Try.f10.params.toList args.toList ds p := hA0
  rw [Try.params10] at hA hval
  obtain ⟨v0, vs0, d0, ds0, p0, q0, hargs, rfl, rfl, h0, r0⟩ := trodAll_cons hA
  obtain ⟨rfl, rfl, rfl⟩ := trodAll_nil r0
  obtain rfl : args = #[v0] := by cases args; simp_all
  obtain ⟨a0, n0, c0, rfl⟩ := okWide_slice Try.underlying65 (hval 0 65 v0 rfl rfl)
  obtain ⟨l0, y0, hy0, hl0⟩ := opn_ops.arg h0
  obtain rfl := sv_cells hy0
  refine ((ends_row hl0).2 _ W (At.self W)).mono fun e W' ⟨v, h', he, at', hv, hx⟩ => ?_
  subst he; subst hv
  exact ⟨_, rfl, law_post laid_out hW' rfl (by kernel_rfl) rfl Try.underlying4 rfl at' hx⟩

theorem diskEnds_holds : Rows.DiskEndsSaid :=
  OpenClaim.holds_of_wide 10 Try.f10 rfl rfl rfl rfl rfl rfl rfl ⟨rfl, rfl, rfl, rfl, rfl⟩ rfl rfl rfl rfl rfl (by kernel_rfl) Try.func10 (by kernel_rfl)
    (of_decide_eq_true (by kernel_rfl)) (by unfold Func.isWrapper; first | (rw [if_pos (by decide +kernel)]; kernel_rfl) | (rw [if_neg (by decide +kernel)]; exact ⟨rfl, rfl⟩))
    (fun os started H enc _ => diskEnds_lifted os started H enc)
end Go.Proofs.Ytpebbkhainpfaaa
