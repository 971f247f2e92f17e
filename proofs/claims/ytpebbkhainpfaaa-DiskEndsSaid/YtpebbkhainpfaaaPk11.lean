/- The document's disk: Read, Size, Files, Cut, New, Sync. Conditions: the state is readable and in order. The document's disk: Cut, New, Sync. Conditions: the state is readable and in order. The document's disk: Crash. Conditions: the state is readable and in order. -/
import Derived.Test.YtpebbkhainpfaaaPk10
namespace Go.Proofs.Ytpebbkhainpfaaa
open Go Go.HL
def syncW (w : WD) (n : List UInt8) : WD × Nat :=
  if wrongW w.gone n 0 0 ≠ 0 then (w, wrongW w.gone n 0 0) else if hasW w.now n = false ∧ (withoutL WC.n w.pend n).length = w.pend.length then (w, 4) else if w.left = 0 then (countW w, 13)
  else (⟨match w.now.find? fun f => decide (f.n = n) with | none => withoutL WF.n w.safe n | some f => withL WF.n f w.safe, w.now, withoutL WC.n w.pend n, if 0 < w.left then w.left - 1 else w.left, w.gone, w.many + 1⟩, 0)
section
variable {w : WD} {n b : List UInt8} {y z : Int} {p q : Nat} {f : WF}
theorem readW_w (h : ¬ (wrongW w.gone n y z : Int) = 0) : readW w n y z = ([], wrongW w.gone n y z) := by unfold readW; rw [if_pos (by omega)]
theorem readW_n (h : wrongW w.gone n y z = 0) (h1 : w.now.find? (fun f => decide (f.n = n)) = none) : readW w n y z = ([], 4) := by unfold readW; rw [if_neg (by omega), h1]
theorem readW_f (h : wrongW w.gone n (p : Int) (q : Int) = 0) (h1 : w.now.find? (fun f => decide (f.n = n)) = some f) : readW w n (p : Int) (q : Int) = ((f.b.drop p).take q, 0) := by unfold readW; rw [if_neg (by omega), h1]; rfl
theorem sizeW_n (h1 : w.now.find? (fun f => decide (f.n = n)) = none) : sizeW w n = (0, false) := by unfold sizeW; rw [h1]
theorem sizeW_g (h1 : w.gone = true) : sizeW w n = (0, false) := by unfold sizeW; cases w.now.find? (fun f => decide (f.n = n)) with | none => rfl | some f => simp only; rw [if_pos h1]
theorem sizeW_f (h1 : w.now.find? (fun f => decide (f.n = n)) = some f) (h2 : w.gone = false) : sizeW w n = (f.b.length, true) := by unfold sizeW; rw [h1]; simp only; rw [if_neg (by rw [h2]; decide)]
theorem syncW_w (h : ¬ (wrongW w.gone n 0 0 : Int) = 0) : syncW w n = (w, wrongW w.gone n 0 0) := by unfold syncW; rw [if_pos (by omega)]
theorem syncW_n (h : wrongW w.gone n 0 0 = 0) (h1 : hasW w.now n = false) (h2 : (withoutL WC.n w.pend n).length = w.pend.length) : syncW w n = (w, 4) := by unfold syncW; rw [if_neg (by omega), if_pos ⟨h1, h2⟩]
theorem syncW_p (h : wrongW w.gone n 0 0 = 0) (h1 : ¬ (hasW w.now n = false ∧ (withoutL WC.n w.pend n).length = w.pend.length)) (h2 : w.left = 0) : syncW w n = (countW w, 13) := by unfold syncW; rw [if_neg (by omega), if_neg h1, if_pos h2]
theorem syncW_d (h : wrongW w.gone n 0 0 = 0) (h1 : ¬ (hasW w.now n = false ∧ (withoutL WC.n w.pend n).length = w.pend.length)) (h2 : ¬ w.left = 0) {s : List WF} (hs : (match w.now.find? fun f => decide (f.n = n) with | none => withoutL WF.n w.safe n | some f => withL WF.n f w.safe) = s) : syncW w n = (⟨s, w.now, withoutL WC.n w.pend n, if 0 < w.left then w.left - 1 else w.left, w.gone, w.many + 1⟩, 0) := by unfold syncW; rw [if_neg (by omega), if_neg h1, if_neg h2, hs]
end
theorem wog {α : Type} {nm : α → List UInt8} {x : α} {l : List α} {n : List UInt8} (h : nm x ≠ n) : withoutL nm (x :: l) n = x :: withoutL nm l n := by simp [withoutL, h]
theorem wos {α : Type} {nm : α → List UInt8} {x : α} {l : List α} {n : List UInt8} (h : nm x = n) : withoutL nm (x :: l) n = withoutL nm l n := by simp [withoutL, h]
theorem pend_len {pl : List RWC} {n : List UInt8} : (withoutL WC.n (pl.map RWC.abs) n).length = (withoutL RWC.n pl n).length := by rw [← withoutL_map RWC.n WC.n RWC.abs (fun _ => rfl), List.length_map]

theorem take_snoc {l : List UInt8} {p i : Nat} (h : p + i < l.length) : (l.drop p).take i ++ [l[p + i]] = (l.drop p).take (i + 1) := by
  rw [List.take_succ_eq_append_getElem (by simp; omega), List.getElem_drop]
theorem files_own {h h' : Heap} {e : TypeId} {v : Value} {w : WD} {gn : Bool} {nl : List RWF} {o : List (List UInt8)} {i : Nat} (hg : w.gone = gn) (hn : w.now = nl.map RWF.abs) (ho : o = (nl.take i).map RWF.n) (hi : i ≤ nl.length) (hig : i = 0 ∨ gn = false) (he : i = nl.length ∨ gn = true) (q : Own h h' 1 e v (o.map kvB)) : Own h h' 1 e v ((filesW w).map kvB) := by
  have : filesW w = o := by
    unfold filesW
    rw [hg, hn]
    cases gn
    · have : i = nl.length := by simpa using he
      subst this
      rw [ho, List.take_length, if_neg (by decide), List.map_map]; rfl
    · have : i = 0 := by simpa using hig
      subst this
      rw [ho]; rfl
  rw [this]; exact q
theorem take_end {l : List UInt8} {p i q : Nat} (h1 : i ≤ q) (h2 : i = 0 ∨ p + i ≤ l.length) (h : ¬ (p + i < l.length ∧ i < q)) : (l.drop p).take i = (l.drop p).take q := by
  rcases Nat.lt_or_ge i q with h3 | h3
  · rw [List.take_of_length_le (by simp; omega), List.take_of_length_le (by simp; omega)]
  · rw [Nat.le_antisymm h1 h3]

set_option maxRecDepth 100000 in
set_option maxHeartbeats 2000000 in
theorem dread_any {h : Heap} {E : Nat → Prop} {sa na pa : Option Addr} {sc nc pc : Nat} {sl nl : List RWF} {pl : List RWC} {lf : Int} {gn : Bool} {mn : Int} {n : List UInt8} {y z : Int} (hw : DocW h E ⟨sa, sc, sl, na, nc, nl, pa, pc, pl, lf, gn, mn⟩) (hs : WS (RW.abs ⟨sa, sc, sl, na, nc, nl, pa, pc, pl, lf, gn, mn⟩)) (hy : -9223372036854775808 ≤ y ∧ y ≤ 9223372036854775807) (hz : -9223372036854775808 ≤ z ∧ z ≤ 9223372036854775807) : HC Try.prog 73 #[.agg #[.slice sa sl.length sc, .slice na nl.length nc, .slice pa pl.length pc, .int .i64 lf, .bool gn, .int .i64 mn], .string (BA n), .int .i64 y, .int .i64 z] h (fun v h' => ∃ w, v = .tuple #[w, .int .i64 ((readW (RW.abs ⟨sa, sc, sl, na, nc, nl, pa, pc, pl, lf, gn, mn⟩) n y z).2 : Int)] ∧ Own h h' 1 5 w ((readW (RW.abs ⟨sa, sc, sl, na, nc, nl, pa, pc, pl, lf, gn, mn⟩) n y z).1.map bv)) := by
  have hsm := hs.many
  have hsl1 := hs.nowl
  have hsl2 := hs.pendl
  have hsl3 := hs.safel
  simp only [RW.abs, List.length_map] at hsm hsl1 hsl2 hsl3
  have hnb := nowb_of hs.nowb
  have ok := (Hp.nil h none_).old (chwI (fun j => E j ∧ j < h.size) (pa, pl.length, pc) pl) (hw.p.lt (by decide)) (fun j hj => hj.2)
  have ok := ok.old (flwI (fun j => E j ∧ j < h.size) (na, nl.length, nc) nl) (hw.n.lt (by decide)) (fun j hj => hj.2)
  have ok := ok.old (flwI (fun j => E j ∧ j < h.size) (sa, sl.length, sc) sl) (hw.s.lt (by decide)) (fun j hj => hj.2)
  have hcn := hw.n.m
  have hcs := hw.s.m
  have hcp := hw.p.m
  simp only at hcn hcs hcp
  refine HC.go Try.func73 60 ?_
  refine .seq <| .r <| .a' 4 (.bxA (cs := [.slice sa sl.length sc, .slice na nl.length nc, .slice pa pl.length pc, .int .i64 lf, .bool gn, .int .i64 mn]) ok) ?_
  rintro _ η1 ⟨pb1, rfl, ok, xe⟩
  refine .w 8 .asS <| .w 9 .asI <| .nil ?_
  refine .seq <| .seq <| .r <| .w 14 (.ldb T.ag69 ok.m0 T.sz69) <| .w 15 .mvT <| .w 16 .mvI <| .w 17 .mvI <| .c' 18 .func (rwrong_any (n := n) (y := y) (z := z)) ?_
  rintro _ η2 ⟨rfl, hx⟩
  have ok := ok.ext hx
  refine .w 10 .asI <| .nil ?_
  refine .seq <| .r <| .w 19 .mvI <| .w 20 .neq <| .nil ?_
  refine .cd (fun C0 => ?_) (fun C0 => ?_)
  · --
    refine .seq <| .r <| .w 21 .mvI <| .w 8 .asS <| .w 9 .asI <| .nil ?_
    refine .ret ⟨.tuple #[.slice none 0 0, .int .i64 (wrongW gn n y z : Int)], Res.two rfl rfl rfl, ⟨_, by rw [readW_w (by exact C0)] <;> rfl, by rw [readW_w (by exact C0)]; exact Own.nil ok.chg _ _⟩⟩
  refine .skip <| .seq <| .r <| .w 22 (.fa T.fd69_1) <| .w 23 (.ldx T.ag66 ok.m0) <| .w 24 .mvT <| .c' 25 .func (find_any (a := na) (c := nc) (l := nl) (n := n) ok.r1) ?_
  rintro _ _ ⟨_, rfl, (⟨k1, hkk1, rfl, hnk1, hmk1⟩ | ⟨rfl, hmk1⟩), heq⟩
  · --
    obtain rfl := heq.symm
    have hfd := fd_some hkk1 hnk1 hmk1
    refine .w 11 .asI <| .nil ?_
    refine .seq <| .seq <| .r <| .w 26 .mvI <| .w 27 .lss <| .nil ?_
    refine .cd (fun C1 => ?_) (fun C1 => ?_)
    · --
      omega
    refine .skip <| .seq <| ?_
    obtain ⟨⟨fn, fa, fc, fl⟩, hf⟩ : ∃ f, nl[k1] = f := ⟨_, rfl⟩
    rw [hf] at hfd
    have hw0 : wrongW gn n y z = 0 := by omega
    obtain ⟨p, rfl⟩ : ∃ p : Nat, y = (p : Int) := ⟨y.toNat, by have := wrongW_pos hw0; omega⟩
    obtain ⟨q, rfl⟩ : ∃ q : Nat, z = (q : Int) := ⟨z.toNat, by have := wrongW_pos hw0; omega⟩
    have ok := ok.d1 (rdI (fun j => E j ∧ j < h.size) (fun j => E j ∧ j < h.size) (fa, fl.length, fc) fl) (by have h9 := (ok.r1).by' _ (List.getElem_mem hkk1); rw [hf] at h9; exact h9) (fun _ h => h.elim id id)
    have hfb := hnb _ (List.getElem_mem hkk1)
    rw [hf] at hfb
    simp only at hfb
    have hfc := ok.r0.c
    have hfm := ok.r0.m
    simp only at hfc hfm
    refine .r <| .w 12 .asS <| ?_
    have ok := ok.nilC (k := 1) (e := 5)
    refine .nil ?_
    refine .seq <| .seq <| .r <| .w 28 .mvI <| .w 13 .asI <| .nil ?_
    refine .block fun K0 hK0 => .loop (fun m s hh => ∃ (i : Nat) (a12 : Option Addr) (c12 : Nat), Has s [(2, .int .i64 (p : Int)), (3, .int .i64 (q : Int)), (4, .pointer (some ⟨pb1, 0, none⟩)), (11, .int .i64 (k1 : Int)), (12, .slice a12 (((fl.drop p).take i).length) c12), (13, .int .i64 ((p + i : Nat) : Int))] ∧ Hp h none_ [capI 1 5 (a12, ((fl.drop p).take i).length, c12) (((fl.drop p).take i).map bv), boxI pb1 69 [.slice sa sl.length sc, .slice na nl.length nc, .slice pa pl.length pc, .int .i64 lf, .bool gn, .int .i64 mn]] [rdI (fun j => E j ∧ j < h.size) (fun j => E j ∧ j < h.size) (fa, fl.length, fc) fl, flwI (fun j => E j ∧ j < h.size) (sa, sl.length, sc) sl, flwI (fun j => E j ∧ j < h.size) (na, nl.length, nc) nl, chwI (fun j => E j ∧ j < h.size) (pa, pl.length, pc) pl] hh ∧ i ≤ q ∧ (i = 0 ∨ p + i ≤ fl.length) ∧ m = q - i) ?_ ?_
    · exact ⟨_, 0, none, 0, ⟨rfl, rfl, rfl, rfl, rfl, rfl, trivial⟩, (ok.n1.n1).k2, Nat.zero_le _, .inl rfl, rfl⟩
    rintro _ _ η3 ⟨i, a12, c12, hs, ok, hi, hip, rfl⟩ J0 hJ0
    refine .frame hs fun τ => ?_
    refine .seq <| .seq <| .r <| .w 29 .mvI <| .w 30 (.fa T.fd69_1) <| .w 31 (.ldx T.ag66 ok.m1) <| .w 32 .mvI <| ?_
    obtain ⟨bb1, oo1, rfl, fb1⟩ := ok.r2.pos (by omega)
    refine .w 33 (.ix k1 T.el66 T.sz86) <| .w 34 (.fa T.fd86_1) <| .w 35 (.ld T.ag22 (sl_at (v := .slice fa fl.length fc) RWF.cells_len (ok.r2).sl (i := k1) (j := 1) (by omega) (by rw [hf]; rfl))) <| .w 36 (.len T.el22) <| .w 37 .lss <| .w 38 .mvB <| .sd (fun G38 => ?_) (fun G38 => ?_)
    ·
      refine .w 39 .mvI <| .w 40 .mvI <| .w 41 .sub <| .w 42 .mvI <| .w 43 .lss <| .w 44 .pkt <| .nil ?_
      refine .cdr (fun C2 => ?_) (fun C2 => ?_)
      · --
        refine .exit <| hK0 _ _ <| .seq <| .r <| .w 59 .mvS <| .w 8 .asS <| .w 9 .asI <| .nil ?_
        refine .ret ⟨.tuple #[.slice a12 (((fl.drop p).take i).length) c12, .int .i64 0], Res.two rfl rfl rfl, ⟨_, by rw [readW_f (by exact hw0) (by exact hfd)] <;> rfl, by rw [readW_f (by exact hw0) (by exact hfd)]; show Own _ _ 1 _ _ (((fl.drop p).take q).map bv); rw [← take_end hi hip (by omega)]; exact (ok).toOwn⟩⟩
      refine .skip <| .seq <| .block fun K1 hK1 => .r <| .w 47 .mvS <| .w 48 (.fa T.fd69_1) <| .w 49 (.ldx T.ag66 ok.m1) <| .w 50 .mvI <| .w 51 (.ix k1 T.el66 T.sz86) <| .w 52 (.fa T.fd86_1) <| .w 53 (.ld T.ag22 (sl_at (v := .slice fa fl.length fc) RWF.cells_len (ok.r2).sl (i := k1) (j := 1) (by omega) (by rw [hf]; rfl))) <| .w 54 .mvI <| ?_
      obtain ⟨bb2, oo2, rfl, fb2⟩ := ok.r0.pos (by omega)
      refine .w 55 (.ix1 (p + i) T.el22 T.sz5) <| .w 56 (.ld T.ag5 (ok.r0.u8 (i := (p + i)) (by omega))) <| .a' 57 (.lit [.tmp 56] (cs := [.int .u8 (fl[(p + i)].toNat : Int)]) T.el22 T.sz5 T.zr5 ok ⟨rfl, trivial⟩) ?_
      rintro _ η4 ⟨pb2, rfl, ok, xe⟩
      have ok := ok.cx (ys := ([fl[(p + i)]] : List UInt8).map bv) rfl
      refine .a' 58 (.app (news := ([fl[(p + i)]] : List UInt8).map bv) T.el22 T.sz5 T.by5 T.zr5 ok.n1 (ok.n1.m1).sl bv_all (by simp only [List.length_map, List.length_append, List.length_take, List.length_cons, List.length_nil, List.length_replicate, List.length_range, fixedN_len, sealN_len]; omega)) ?_
      rintro _ η5 ⟨ya1, yn1, yc1, rfl, ok, ap⟩
      have ok := ok.cx (ys := (((fl.drop p).take i) ++ ([fl[(p + i)]] : List UInt8)).map bv) (by simp [bv])
      obtain rfl : yn1 = (((fl.drop p).take i) ++ ([fl[(p + i)]] : List UInt8)).length := ok.lenB
      have hpi : p + i < fl.length := by omega
      have hle : (((fl.drop p).take i) ++ ([fl[(p + i)]] : List UInt8)) = ((fl.drop p).take (i + 1)) := by rw [take_snoc hpi]
      rw [hle] at ok
      rw [hle]
      refine .w 12 .asS <| .nil ?_
      refine .end <| hK1 _ _ <| .r <| .w 45 .mvI <| .w 46 (.addI (b := 1)) <| .w 13 .asI <| .nil ?_
      refine .end <| hJ0 _ _ _ ⟨i + 1, ya1, yc1, ⟨rfl, rfl, rfl, rfl, rfl, rfl, trivial⟩, (ok.n2.n1).k2, by omega, .inr (by omega), rfl⟩ (by omega)
    refine .x 39 <| .x 40 <| .x 41 <| .x 42 <| .x 43 <| .w 44 .pkf <| .nil ?_
    refine .cf <| .exit <| hK0 _ _ <| .seq <| .r <| .w 59 .mvS <| .w 8 .asS <| .w 9 .asI <| .nil ?_
    refine .ret ⟨.tuple #[.slice a12 (((fl.drop p).take i).length) c12, .int .i64 0], Res.two rfl rfl rfl, ⟨_, by rw [readW_f (by exact hw0) (by exact hfd)] <;> rfl, by rw [readW_f (by exact hw0) (by exact hfd)]; show Own _ _ 1 _ _ (((fl.drop p).take q).map bv); rw [← take_end hi hip (by omega)]; exact (ok).toOwn⟩⟩
  obtain rfl := heq.symm
  have hfd := fd_none hmk1
  refine .w 11 .asI <| .nil ?_
  refine .seq <| .seq <| .r <| .w 26 .mvI <| .w 27 .lss <| .nil ?_
  refine .ct <| .seq <| .r <| .w 8 .asS <| .w 9 .asI <| .nil ?_
  refine .ret ⟨.tuple #[.slice none 0 0, .int .i64 4], Res.two rfl rfl rfl, ⟨_, by rw [readW_n (by exact (show wrongW gn n y z = 0 by omega)) (by exact hfd)] <;> rfl, by rw [readW_n (by exact (show wrongW gn n y z = 0 by omega)) (by exact hfd)]; exact Own.nil ok.chg _ _⟩⟩

set_option maxRecDepth 100000 in
set_option maxHeartbeats 2000000 in
theorem dsize_any {h : Heap} {E : Nat → Prop} {sa na pa : Option Addr} {sc nc pc : Nat} {sl nl : List RWF} {pl : List RWC} {lf : Int} {gn : Bool} {mn : Int} {n : List UInt8} (hw : DocW h E ⟨sa, sc, sl, na, nc, nl, pa, pc, pl, lf, gn, mn⟩) (hs : WS (RW.abs ⟨sa, sc, sl, na, nc, nl, pa, pc, pl, lf, gn, mn⟩)) : HC Try.prog 74 #[.agg #[.slice sa sl.length sc, .slice na nl.length nc, .slice pa pl.length pc, .int .i64 lf, .bool gn, .int .i64 mn], .string (BA n)] h (fun v h' => v = .tuple #[.int .i64 ((sizeW (RW.abs ⟨sa, sc, sl, na, nc, nl, pa, pc, pl, lf, gn, mn⟩) n).1 : Int), .bool (sizeW (RW.abs ⟨sa, sc, sl, na, nc, nl, pa, pc, pl, lf, gn, mn⟩) n).2] ∧ Ext h h') := by
  have hsm := hs.many
  have hsl1 := hs.nowl
  have hsl2 := hs.pendl
  have hsl3 := hs.safel
  simp only [RW.abs, List.length_map] at hsm hsl1 hsl2 hsl3
  have hnb := nowb_of hs.nowb
  have ok := (Hp.nil h none_).old (chwI (fun j => E j ∧ j < h.size) (pa, pl.length, pc) pl) (hw.p.lt (by decide)) (fun j hj => hj.2)
  have ok := ok.old (flwI (fun j => E j ∧ j < h.size) (na, nl.length, nc) nl) (hw.n.lt (by decide)) (fun j hj => hj.2)
  have ok := ok.old (flwI (fun j => E j ∧ j < h.size) (sa, sl.length, sc) sl) (hw.s.lt (by decide)) (fun j hj => hj.2)
  have hcn := hw.n.m
  have hcs := hw.s.m
  have hcp := hw.p.m
  simp only at hcn hcs hcp
  refine HC.go Try.func74 24 ?_
  refine .seq <| .r <| .a' 2 (.bxA (cs := [.slice sa sl.length sc, .slice na nl.length nc, .slice pa pl.length pc, .int .i64 lf, .bool gn, .int .i64 mn]) ok) ?_
  rintro _ η1 ⟨pb1, rfl, ok, xe⟩
  refine .w 4 .asI <| .w 5 .asB <| .nil ?_
  refine .seq <| .r <| .w 7 (.fa T.fd69_1) <| .w 8 (.ldx T.ag66 ok.m0) <| .w 9 .mvT <| .c' 10 .func (find_any (a := na) (c := nc) (l := nl) (n := n) ok.r1) ?_
  rintro _ _ ⟨_, rfl, (⟨k1, hkk1, rfl, hnk1, hmk1⟩ | ⟨rfl, hmk1⟩), heq⟩
  · --
    obtain rfl := heq.symm
    have hfd := fd_some hkk1 hnk1 hmk1
    refine .w 6 .asI <| .nil ?_
    refine .seq <| .seq <| .r <| .w 11 .mvI <| .w 12 .lss <| .w 13 .mvB <| .sd (fun G13 => ?_) (fun G13 => ?_)
    ·
      omega
    refine .w 14 (.fa T.fd69_4) <| .w 15 (.ldx T.ag4 ok.m0) <| .w 16 .pkf <| .nil ?_
    refine .cond (fun C0 => ?_) (fun C0 => ?_)
    · --
      refine .seq <| .r <| .w 4 .asI <| .w 5 .asB <| .nil ?_
      refine .ret ⟨.tuple #[.int .i64 0, .bool false], Res.two rfl rfl rfl, ⟨by rw [sizeW_g (by exact C0)] <;> rfl, ok.chg⟩⟩
    refine .skip <| .seq <| .r <| .w 17 (.fa T.fd69_1) <| .w 18 (.ldx T.ag66 ok.m0) <| .w 19 .mvI <| ?_
    obtain ⟨bb1, oo1, rfl, fb1⟩ := ok.r1.pos (by omega)
    refine .w 20 (.ix k1 T.el66 T.sz86) <| .w 21 (.fa T.fd86_1) <| .w 22 (.ld T.ag22 (sl_at RWF.cells_len (ok.r1).sl (i := k1) (j := 1) (by omega) rfl)) <| .w 23 (.len T.el22) <| .w 4 .asI <| .w 5 .asB <| .nil ?_
    refine .ret ⟨.tuple #[.int .i64 ((nl[k1].bl.length : Nat) : Int), .bool true], Res.two rfl rfl rfl, ⟨by rw [sizeW_f (by exact hfd) (by exact C0)] <;> rfl, ok.chg⟩⟩
  obtain rfl := heq.symm
  have hfd := fd_none hmk1
  refine .w 6 .asI <| .nil ?_
  refine .seq <| .seq <| .r <| .w 11 .mvI <| .w 12 .lss <| .w 13 .mvB <| .x 14 <| .x 15 <| .w 16 .pkt <| .nil ?_
  refine .ct <| .seq <| .r <| .w 4 .asI <| .w 5 .asB <| .nil ?_
  refine .ret ⟨.tuple #[.int .i64 0, .bool false], Res.two rfl rfl rfl, ⟨by rw [sizeW_n (by exact hfd)] <;> rfl, ok.chg⟩⟩

set_option maxRecDepth 100000 in
set_option maxHeartbeats 2000000 in
theorem dfiles_any {h : Heap} {E : Nat → Prop} {sa na pa : Option Addr} {sc nc pc : Nat} {sl nl : List RWF} {pl : List RWC} {lf : Int} {gn : Bool} {mn : Int} (hw : DocW h E ⟨sa, sc, sl, na, nc, nl, pa, pc, pl, lf, gn, mn⟩) (hs : WS (RW.abs ⟨sa, sc, sl, na, nc, nl, pa, pc, pl, lf, gn, mn⟩)) : HC Try.prog 81 #[.agg #[.slice sa sl.length sc, .slice na nl.length nc, .slice pa pl.length pc, .int .i64 lf, .bool gn, .int .i64 mn]] h (fun v h' => Own h h' 1 9 v ((filesW (RW.abs ⟨sa, sc, sl, na, nc, nl, pa, pc, pl, lf, gn, mn⟩)).map kvB)) := by
  have hsm := hs.many
  have hsl1 := hs.nowl
  have hsl2 := hs.pendl
  have hsl3 := hs.safel
  simp only [RW.abs, List.length_map] at hsm hsl1 hsl2 hsl3
  have hnb := nowb_of hs.nowb
  have ok := (Hp.nil h none_).old (chwI (fun j => E j ∧ j < h.size) (pa, pl.length, pc) pl) (hw.p.lt (by decide)) (fun j hj => hj.2)
  have ok := ok.old (flwI (fun j => E j ∧ j < h.size) (na, nl.length, nc) nl) (hw.n.lt (by decide)) (fun j hj => hj.2)
  have ok := ok.old (flwI (fun j => E j ∧ j < h.size) (sa, sl.length, sc) sl) (hw.s.lt (by decide)) (fun j hj => hj.2)
  have hcn := hw.n.m
  have hcs := hw.s.m
  have hcp := hw.p.m
  simp only at hcn hcs hcp
  refine HC.go Try.func81 27 ?_
  refine .seq <| .r <| .a' 1 (.bxA (cs := [.slice sa sl.length sc, .slice na nl.length nc, .slice pa pl.length pc, .int .i64 lf, .bool gn, .int .i64 mn]) ok) ?_
  rintro _ η1 ⟨pb1, rfl, ok, xe⟩
  refine .w 2 .asS <| .nil ?_
  refine .seq <| .r <| .w 3 .asS <| ?_
  have ok := ok.nilC (k := 1) (e := 9)
  refine .nil ?_
  refine .seq <| .seq <| .r <| .w 4 .asI <| .nil ?_
  refine .block fun K0 hK0 => .loop (fun m s hh => ∃ (i : Nat) (o : List (List UInt8)) (a3 : Option Addr) (c3 : Nat), Has s [(1, .pointer (some ⟨pb1, 0, none⟩)), (3, .slice a3 o.length c3), (4, .int .i64 (i : Int))] ∧ Hp h none_ [capI 1 9 (a3, o.length, c3) (o.map kvB), boxI pb1 69 [.slice sa sl.length sc, .slice na nl.length nc, .slice pa pl.length pc, .int .i64 lf, .bool gn, .int .i64 mn]] [flwI (fun j => E j ∧ j < h.size) (sa, sl.length, sc) sl, flwI (fun j => E j ∧ j < h.size) (na, nl.length, nc) nl, chwI (fun j => E j ∧ j < h.size) (pa, pl.length, pc) pl] hh ∧ i ≤ nl.length ∧ o = (nl.take i).map RWF.n ∧ o.length ≤ i ∧ (i = 0 ∨ gn = false) ∧ m = nl.length - i) ?_ ?_
  · exact ⟨_, 0, [], none, 0, ⟨rfl, rfl, rfl, trivial⟩, (ok.n1.n1).k2, Nat.zero_le _, rfl, Nat.le_refl _, .inl rfl, rfl⟩
  rintro _ _ η2 ⟨i, o, a3, c3, hs, ok, hi, ho, hol, hig, rfl⟩ J0 hJ0
  refine .frame hs fun τ => ?_
  refine .seq <| .seq <| .r <| .w 5 .mvI <| .w 6 (.fa T.fd69_1) <| .w 7 (.ldx T.ag66 ok.m1) <| .w 8 (.len T.el66) <| .w 9 .lss <| .w 10 .mvB <| .sd (fun G10 => ?_) (fun G10 => ?_)
  ·
    refine .w 11 (.fa T.fd69_4) <| .w 12 (.ldx T.ag4 ok.m1) <| .w 13 .not <| .w 14 .pkt <| .nil ?_
    refine .condr (fun C0 => ?_) (fun C0 => ?_)
    · --
      refine .exit <| hK0 _ _ <| .seq <| .r <| .w 26 .mvS <| .w 2 .asS <| .nil ?_
      refine .ret ⟨.slice a3 o.length c3, Res.one rfl rfl, (files_own (gn := gn) (nl := nl) rfl rfl ho hi hig (by first | exact .inl (by omega) | exact .inr (by simpa using C0)) (ok).toOwn)⟩
    have hil : i < nl.length := by omega
    refine .skip <| .seq <| .block fun K1 hK1 => .r <| .w 17 .mvS <| .w 18 (.fa T.fd69_1) <| .w 19 (.ldx T.ag66 ok.m1) <| .w 20 .mvI <| ?_
    obtain ⟨bb1, oo1, rfl, fb1⟩ := ok.r1.pos (by omega)
    refine .w 21 (.ix i T.el66 T.sz86) <| .w 22 (.fa T.fd86_0) <| .w 23 (.ld T.ag9 (sl_at RWF.cells_len (ok.r1).sl (i := i) (j := 0) (by omega) rfl)) <| .a' 24 (.lit [.tmp 23] (cs := [.string (BA (nl[i].n))]) T.el82 T.sz9 T.zr9 ok ⟨rfl, trivial⟩) ?_
    rintro _ η3 ⟨pb2, rfl, ok, xe⟩
    refine .a' 25 (.app (news := [.string (BA (nl[i].n))]) T.el82 T.sz9 T.by9 T.zr9 ok.n1 (ok.n1.m1).sl (oneL rfl) (by simp only [List.length_map, List.length_cons, List.length_nil]; omega)) ?_
    rintro _ η4 ⟨ya1, yn1, yc1, rfl, ok, ap⟩
    have ok := ok.cx (ys := (o ++ [nl[i].n]).map kvB) (by simp [kvB])
    obtain rfl : yn1 = (o ++ [nl[i].n]).length := Cap.lenN ok.m0
    refine .w 3 .asS <| .nil ?_
    refine .end <| hK1 _ _ <| .r <| .w 15 .mvI <| .w 16 (.addI (b := 1)) <| .w 4 .asI <| .nil ?_
    refine .end <| hJ0 _ _ _ ⟨i + 1, o ++ [nl[i].n], ya1, yc1, ⟨rfl, rfl, rfl, trivial⟩, (ok.n2.n1).k2, by omega, by rw [List.take_succ_eq_append_getElem hil, List.map_append, ← ho]; rfl, by simp only [List.length_append, List.length_singleton]; omega, .inr (by simpa using C0), rfl⟩ (by omega)
  refine .x 11 <| .x 12 <| .x 13 <| .w 14 .pkf <| .nil ?_
  refine .cf <| .exit <| hK0 _ _ <| .seq <| .r <| .w 26 .mvS <| .w 2 .asS <| .nil ?_
  refine .ret ⟨.slice a3 o.length c3, Res.one rfl rfl, (files_own (gn := gn) (nl := nl) rfl rfl ho hi hig (by first | exact .inl (by omega) | exact .inr (by simpa using C0)) (ok).toOwn)⟩

end Go.Proofs.Ytpebbkhainpfaaa

namespace Go.Proofs.Ytpebbkhainpfaaa
open Go Go.HL
theorem RwB.filt {α : Type} {k : Nat} {f : α → List Value} {g : α → SB} {h' : Heap} {E E' : Nat → Prop} {x x' : SV} {l l' : List α} {e : TypeId} (r : RwB k f g h' E x l) (hk : 0 < k) (hf : ∀ y, (f y).length = k) (c : Cap h' k e (sv x') (l'.flatMap f)) (hb : ∀ j, blkC (sv x') j → E' j) (hE : ∀ j, E j → E' j) (hl : ∀ y ∈ l', y ∈ l) : RwB k f g h' E' x' l' := RwB.ofCap hk hf c hb fun y hy => (r.by' y (hl y hy)).mono hE hE

set_option maxRecDepth 100000 in
set_option maxHeartbeats 2000000 in
theorem dnew_any {h : Heap} : HC Try.prog 34 #[] h (fun v h' => v = .agg #[.slice none 0 0, .slice none 0 0, .slice none 0 0, .int .i64 (-1), .bool false, .int .i64 0] ∧ Ext h h') := by
  have ok := Hp.nil h none_
  refine HC.go Try.func34 2 ?_
  refine .seq <| .r <| .a' 0 (.alA T.zr69 ok) ?_
  rintro _ η1 ⟨pb1, rfl, ok, xe⟩
  refine .nil ?_
  refine .seq <| .r <| .w 1 (.bd #[.slice none 0 0, .slice none 0 0, .slice none 0 0, .int .i64 (-1), .bool false, .int .i64 0] T.zr69 T.pl69 rfl) <| .ur' (.stW (vs := [.slice none 0 0, .slice none 0 0, .slice none 0 0, .int .i64 (-1), .bool false, .int .i64 0]) T.sz69 ok (oneL rfl)) ?_
  rintro η2 ⟨ok, cg⟩
  refine .nil ?_
  refine .ret ⟨.agg #[.slice none 0 0, .slice none 0 0, .slice none 0 0, .int .i64 (-1), .bool false, .int .i64 0], Res.many (vs := [.agg #[.slice none 0 0, .slice none 0 0, .slice none 0 0, .int .i64 (-1), .bool false, .int .i64 0]]) rfl ⟨⟨_, rfl, load_ag T.ag69 ok.m0 T.sz69⟩, trivial⟩ rfl, ⟨rfl, ok.chg⟩⟩

set_option maxRecDepth 100000 in
set_option maxHeartbeats 2000000 in
theorem dcut_any {h : Heap} {sa na pa : Option Addr} {sc nc pc : Nat} {sl nl : List RWF} {pl : List RWC} {lf : Int} {gn : Bool} {mn : Int} {z : Int} : HC Try.prog 79 #[.agg #[.slice sa sl.length sc, .slice na nl.length nc, .slice pa pl.length pc, .int .i64 lf, .bool gn, .int .i64 mn], .int .i64 z] h (fun v h' => v = .agg #[.slice sa sl.length sc, .slice na nl.length nc, .slice pa pl.length pc, .int .i64 (if gn = true then lf else max z (-1)), .bool gn, .int .i64 mn] ∧ Ext h h') := by
  have ok := Hp.nil h none_
  refine HC.go Try.func79 12 ?_
  refine .seq <| .r <| .a' 2 (.bxA (cs := [.slice sa sl.length sc, .slice na nl.length nc, .slice pa pl.length pc, .int .i64 lf, .bool gn, .int .i64 mn]) ok) ?_
  rintro _ η1 ⟨pb1, rfl, ok, xe⟩
  refine .a' 4 (.alA T.zr69 ok) ?_
  rintro _ η2 ⟨pb2, rfl, ok, xe⟩
  refine .nil ?_
  refine .seq <| .seq <| .r <| .w 5 (.fa T.fd69_4) <| .w 6 (.ldx T.ag4 ok.m1) <| .w 7 .not <| .nil ?_
  refine .cond (fun C0 => ?_) (fun C0 => ?_)
  · --
    refine .r <| .w 8 .mvI <| .w 9 .max2 <| .w 10 (.fa T.fd69_3) <| .ur' (.stI T.sz3 ok.n1) ?_
    rintro η3 ⟨ok, cg⟩
    refine .nil ?_
    refine .seq <| .r <| .w 11 (.ldb T.ag69 ok.m0 T.sz69) <| .ur' (.stW (vs := [.slice sa sl.length sc, .slice na nl.length nc, .slice pa pl.length pc, .int .i64 (max z (-1)), .bool gn, .int .i64 mn]) T.sz69 ok.n1 (oneL rfl)) ?_
    rintro η4 ⟨ok, cg⟩
    refine .nil ?_
    refine .ret ⟨.agg #[.slice sa sl.length sc, .slice na nl.length nc, .slice pa pl.length pc, .int .i64 (max z (-1)), .bool gn, .int .i64 mn], Res.many (vs := [.agg #[.slice sa sl.length sc, .slice na nl.length nc, .slice pa pl.length pc, .int .i64 (max z (-1)), .bool gn, .int .i64 mn]]) rfl ⟨⟨_, rfl, load_ag T.ag69 ok.m0 T.sz69⟩, trivial⟩ rfl, ⟨by rw [if_neg (by rw [show gn = false by simpa using C0]; decide)] <;> rfl, ok.chg⟩⟩
  refine .skip <| .seq <| .r <| .w 11 (.ldb T.ag69 ok.m1 T.sz69) <| .ur' (.stW (vs := [.slice sa sl.length sc, .slice na nl.length nc, .slice pa pl.length pc, .int .i64 lf, .bool gn, .int .i64 mn]) T.sz69 ok (oneL rfl)) ?_
  rintro η5 ⟨ok, cg⟩
  refine .nil ?_
  refine .ret ⟨.agg #[.slice sa sl.length sc, .slice na nl.length nc, .slice pa pl.length pc, .int .i64 lf, .bool gn, .int .i64 mn], Res.many (vs := [.agg #[.slice sa sl.length sc, .slice na nl.length nc, .slice pa pl.length pc, .int .i64 lf, .bool gn, .int .i64 mn]]) rfl ⟨⟨_, rfl, load_ag T.ag69 ok.m0 T.sz69⟩, trivial⟩ rfl, ⟨by rw [if_pos (by simpa using C0)] <;> rfl, ok.chg⟩⟩

set_option maxRecDepth 100000 in
set_option maxHeartbeats 2000000 in
theorem dsync_any {h : Heap} {E : Nat → Prop} {sa na pa : Option Addr} {sc nc pc : Nat} {sl nl : List RWF} {pl : List RWC} {lf : Int} {gn : Bool} {mn : Int} {n : List UInt8} (hw : DocW h E ⟨sa, sc, sl, na, nc, nl, pa, pc, pl, lf, gn, mn⟩) (hs : WS (RW.abs ⟨sa, sc, sl, na, nc, nl, pa, pc, pl, lf, gn, mn⟩)) (hl : lf ≤ 9223372036854775807) : HC Try.prog 78 #[.agg #[.slice sa sl.length sc, .slice na nl.length nc, .slice pa pl.length pc, .int .i64 lf, .bool gn, .int .i64 mn], .string (BA n)] h (fun v h' => ∃ w : RW, v = .tuple #[.agg #[.slice w.sa w.sl.length w.sc, .slice w.na w.nl.length w.nc, .slice w.pa w.pl.length w.pc, .int .i64 w.left, .bool w.gone, .int .i64 w.many], .int .i64 ((syncW (RW.abs ⟨sa, sc, sl, na, nc, nl, pa, pc, pl, lf, gn, mn⟩) n).2 : Int)] ∧ w.abs = (syncW (RW.abs ⟨sa, sc, sl, na, nc, nl, pa, pc, pl, lf, gn, mn⟩) n).1 ∧ WRet h E w h') := by
  have hsm := hs.many
  have hsl1 := hs.nowl
  have hsl2 := hs.pendl
  have hsl3 := hs.safel
  simp only [RW.abs, List.length_map] at hsm hsl1 hsl2 hsl3
  have hnb := nowb_of hs.nowb
  have ok := (Hp.nil h none_).old (chwI (fun j => E j ∧ j < h.size) (pa, pl.length, pc) pl) (hw.p.lt (by decide)) (fun j hj => hj.2)
  have ok := ok.old (flwI (fun j => E j ∧ j < h.size) (na, nl.length, nc) nl) (hw.n.lt (by decide)) (fun j hj => hj.2)
  have ok := ok.old (flwI (fun j => E j ∧ j < h.size) (sa, sl.length, sc) sl) (hw.s.lt (by decide)) (fun j hj => hj.2)
  have hcn := hw.n.m
  have hcs := hw.s.m
  have hcp := hw.p.m
  simp only at hcn hcs hcp
  refine HC.go Try.func78 88 ?_
  refine .seq <| .r <| .a' 2 (.bxA (cs := [.slice sa sl.length sc, .slice na nl.length nc, .slice pa pl.length pc, .int .i64 lf, .bool gn, .int .i64 mn]) ok) ?_
  rintro _ η1 ⟨pb1, rfl, ok, xe⟩
  refine .a' 4 (.alA T.zr69 ok) ?_
  rintro _ η2 ⟨pb2, rfl, ok, xe⟩
  refine .w 5 .asI <| .nil ?_
  refine .seq <| .seq <| .r <| .w 12 (.ldb T.ag69 ok.m1 T.sz69) <| .w 13 .mvT <| .c' 14 .func (rwrong_any (n := n) (y := 0) (z := 0)) ?_
  rintro _ η3 ⟨rfl, hx⟩
  have ok := ok.ext hx
  refine .w 6 .asI <| .nil ?_
  refine .seq <| .r <| .w 15 .mvI <| .w 16 .neq <| .nil ?_
  refine .cd (fun C0 => ?_) (fun C0 => ?_)
  · --
    refine .seq <| .r <| .w 17 (.ldb T.ag69 ok.m1 T.sz69) <| .w 18 .mvI <| .ur' (.stW (vs := [.slice sa sl.length sc, .slice na nl.length nc, .slice pa pl.length pc, .int .i64 lf, .bool gn, .int .i64 mn]) T.sz69 ok (oneL rfl)) ?_
    rintro η4 ⟨ok, cg⟩
    refine .w 5 .asI <| .nil ?_
    refine .ret ⟨.tuple #[.agg #[.slice sa sl.length sc, .slice na nl.length nc, .slice pa pl.length pc, .int .i64 lf, .bool gn, .int .i64 mn], .int .i64 (wrongW gn n 0 0 : Int)], Res.many (vs := [.agg #[.slice sa sl.length sc, .slice na nl.length nc, .slice pa pl.length pc, .int .i64 lf, .bool gn, .int .i64 mn], .int .i64 (wrongW gn n 0 0 : Int)]) rfl ⟨⟨_, rfl, load_ag T.ag69 ok.m0 T.sz69⟩, rfl, trivial⟩ rfl, ⟨⟨sa, sc, sl, na, nc, nl, pa, pc, pl, lf, gn, mn⟩, by rw [syncW_w (by exact C0)] <;> rfl, by rw [syncW_w (by exact C0)], ok.chg, ⟨ok.r0.mono (fun _ h => .inl (And.left h)), ok.r1.mono (fun _ h => .inl (And.left h)), ok.r2.mono (fun _ h => .inl (And.left h))⟩⟩⟩
  have hw0 : wrongW gn n 0 0 = 0 := by omega
  refine .skip <| .seq <| .r <| .w 7 .asS <| ?_
  have ok := ok.nilC (k := 4) (e := 152)
  refine .nil ?_
  refine .seq <| .seq <| .r <| .w 8 .asI <| .nil ?_
  refine .block fun K0 hK0 => .loop (fun m s hh => ∃ (i : Nat) (o : List RWC) (a7 : Option Addr) (c7 : Nat), Has s [(1, .string (BA n)), (2, .pointer (some ⟨pb1, 0, none⟩)), (4, .pointer (some ⟨pb2, 0, none⟩)), (7, .slice a7 o.length c7), (8, .int .i64 (i : Int))] ∧ Hp h none_ [capI 4 152 (a7, o.length, c7) (o.flatMap RWC.cells), boxI pb2 69 [.slice none 0 0, .slice none 0 0, .slice none 0 0, .int .i64 0, .bool false, .int .i64 0], boxI pb1 69 [.slice sa sl.length sc, .slice na nl.length nc, .slice pa pl.length pc, .int .i64 lf, .bool gn, .int .i64 mn]] [flwI (fun j => E j ∧ j < h.size) (sa, sl.length, sc) sl, flwI (fun j => E j ∧ j < h.size) (na, nl.length, nc) nl, chwI (fun j => E j ∧ j < h.size) (pa, pl.length, pc) pl] hh ∧ i ≤ pl.length ∧ withoutL RWC.n pl n = o ++ withoutL RWC.n (pl.drop i) n ∧ o.length ≤ i ∧ m = pl.length - i) ?_ ?_
  · exact ⟨_, 0, [], none, 0, ⟨rfl, rfl, rfl, rfl, rfl, trivial⟩, (ok.n2.n2.n2).k3, Nat.zero_le _, rfl, Nat.le_refl _, rfl⟩
  rintro _ _ η5 ⟨i, o, a7, c7, hs, ok, hi, ho, hol, rfl⟩ J0 hJ0
  refine .frame hs fun τ => ?_
  refine .seq <| .seq <| .r <| .w 19 .mvI <| .w 20 (.fa T.fd69_2) <| .w 21 (.ldx T.ag67 ok.m2) <| .w 22 (.len T.el67) <| .w 23 .lss <| .nil ?_
  refine .cdr (fun C1 => ?_) (fun C1 => ?_)
  · --
    refine .exit <| hK0 _ _ <| .seq <| .seq <| ?_
    have ho2 : withoutL RWC.n pl n = o := by rw [ho, List.drop_eq_nil_of_le (by omega)]; simp [withoutL]
    have hol2 : o.length ≤ pl.length := by rw [← ho2]; exact withoutL_len _ _ _
    refine .r <| .w 42 (.fa T.fd69_1) <| .w 43 (.ldx T.ag66 ok.m2) <| .w 44 .mvT <| .c' 45 .func (find_any (a := na) (c := nc) (l := nl) (n := n) ok.r1) ?_
    rintro _ _ ⟨_, rfl, (⟨k1, hkk1, rfl, hnk1, hmk1⟩ | ⟨rfl, hmk1⟩), heq⟩
    · --
      obtain rfl := heq.symm
      have hfd := fd_some hkk1 hnk1 hmk1
      refine .w 46 .lss <| .w 47 .mvB <| .sd (fun G47 => ?_) (fun G47 => ?_)
      ·
        omega
      refine .x 48 <| .x 49 <| .x 50 <| .x 51 <| .x 52 <| .x 53 <| .w 54 .pkf <| .nil ?_
      refine .cf <| .skip <| .seq <| ?_
      have hfd1 := hfd
      refine .r <| .w 57 (.ldb T.ag69 ok.m2 T.sz69) <| .c' 58 .func (count_any (by omega) (by omega)) ?_
      rintro _ η6 ⟨rfl, hx⟩
      have ok := ok.ext hx
      refine .w 56 .mvU <| .w 59 .ex <| .w 60 .ex <| .a' 9 (.alA T.zr69 ok) ?_
      rintro _ η7 ⟨pb3, rfl, ok, xe⟩
      refine .ur' (.stW (vs := [.slice sa sl.length sc, .slice na nl.length nc, .slice pa pl.length pc, .int .i64 (if 0 < lf then lf - 1 else lf), .bool (if lf = 0 then true else gn), .int .i64 (if lf = 0 then mn else mn + 1)]) T.sz69 ok (oneL rfl)) ?_
      rintro η8 ⟨ok, cg⟩
      refine .w 10 .asI <| .nil ?_
      refine .seq <| .seq <| .r <| .w 61 .mvI <| .w 62 .neq <| .nil ?_
      refine .cd (fun C4 => ?_) (fun C4 => ?_)
      · --
        have hl0 : lf = 0 := by by_cases h : lf = 0; exact h; exact absurd (by unfold countC; rw [if_neg h]; rfl) C4
        refine .seq <| .r <| .w 63 (.ldb T.ag69 ok.m0 T.sz69) <| .w 64 .mvI <| .ur' (.stW (vs := [.slice sa sl.length sc, .slice na nl.length nc, .slice pa pl.length pc, .int .i64 (if 0 < lf then lf - 1 else lf), .bool (if lf = 0 then true else gn), .int .i64 (if lf = 0 then mn else mn + 1)]) T.sz69 ok.n2 (oneL rfl)) ?_
        rintro η9 ⟨ok, cg⟩
        refine .w 5 .asI <| .nil ?_
        refine .ret ⟨.tuple #[.agg #[.slice sa sl.length sc, .slice na nl.length nc, .slice pa pl.length pc, .int .i64 (if 0 < lf then lf - 1 else lf), .bool (if lf = 0 then true else gn), .int .i64 (if lf = 0 then mn else mn + 1)], .int .i64 (countC lf : Int)], Res.many (vs := [.agg #[.slice sa sl.length sc, .slice na nl.length nc, .slice pa pl.length pc, .int .i64 (if 0 < lf then lf - 1 else lf), .bool (if lf = 0 then true else gn), .int .i64 (if lf = 0 then mn else mn + 1)], .int .i64 (countC lf : Int)]) rfl ⟨⟨_, rfl, load_ag T.ag69 ok.m0 T.sz69⟩, rfl, trivial⟩ rfl, ⟨⟨sa, sc, sl, na, nc, nl, pa, pc, pl, lf, true, mn⟩, by rw [syncW_p (by exact hw0) (by rintro ⟨h1, h2⟩; rw [hasW_y (by exact hfd)] at h1; cases h1) (by exact hl0)]; simp [hl0, countC], by rw [syncW_p (by exact hw0) (by rintro ⟨h1, h2⟩; rw [hasW_y (by exact hfd)] at h1; cases h1) (by exact hl0), countW_0 (by exact hl0)]; rfl, ok.chg, ⟨ok.r0.mono (fun _ h => .inl (And.left h)), ok.r1.mono (fun _ h => .inl (And.left h)), ok.r2.mono (fun _ h => .inl (And.left h))⟩⟩⟩
      have hl0 : ¬ lf = 0 := by intro h; unfold countC at C4; rw [if_pos h] at C4; simp at C4
      refine .skip <| .seq <| .r <| .w 65 .mvS <| .w 66 (.fa T.fd69_2) <| .ur' (.stS T.sz67 ok) ?_
      rintro η10 ⟨ok, cg⟩
      refine .nil ?_
      refine .seq <| .r <| .w 67 (.fa T.fd69_0) <| .w 68 (.ldx T.ag66 ok.m3) <| .w 69 .mvT <| .c' 70 .func (without_any (a := sa) (c := sc) (l := sl) ok.r0 (by omega) (n := n)) ?_
      rintro _ η11 own
      obtain ⟨ya1, yn1, yc1, rfl⟩ := own.form3
      have ok := ok.own own
      refine .w 71 (.fa T.fd69_0) <| .ur' (.stS T.sz66 ok.n1) ?_
      rintro η12 ⟨ok, cg⟩
      refine .nil ?_
      refine .seq <| .seq <| .r <| .w 72 (.fa T.fd69_1) <| .w 73 (.ldx T.ag66 ok.m4) <| .w 74 .mvT <| .c' 75 .func (find_any (a := na) (c := nc) (l := nl) (n := n) ok.r1) ?_
      rintro _ _ ⟨_, rfl, (⟨k2, hkk2, rfl, hnk2, hmk2⟩ | ⟨rfl, hmk2⟩), heq⟩
      · --
        obtain rfl := heq.symm
        have hfd := fd_some hkk2 hnk2 hmk2
        refine .w 11 .asI <| .nil ?_
        refine .seq <| .r <| .w 76 .mvI <| .w 77 .geq <| .nil ?_
        refine .cd (fun C5 => ?_) (fun C5 => ?_)
        · --
          refine .t 7 mixed ?_
          simp only [List.take_succ_cons, List.take_zero, List.drop_succ_cons, List.drop_zero]
          refine .w 78 (.fa T.fd69_0) <| .w 79 (.ldx T.ag66 ok.m4) <| .w 80 (.fa T.fd69_1) <| .w 81 (.ldx T.ag66 ok.m4) <| .w 82 .mvI <| ?_
          obtain ⟨bb1, oo1, rfl, fb1⟩ := ok.r1.pos (by omega)
          refine .w 83 (.ix k2 T.el66 T.sz86) <| .w 84 (.ldc (vs := RWF.cells nl[k2]) T.ag86 (sl_ats RWF.cells_len (ok.r1).sl (i := k2) (by omega)) T.sz86) <| .nil ?_
          refine .c' 85 .func (with_any (a := sa) (c := sc) (l := sl) ok.r0 (by omega) (f := nl[k2])) ?_
          rintro _ η13 own
          obtain ⟨ya2, yn2, yc2, rfl⟩ := own.form3
          have ok := ok.own own
          refine .w 86 (.fa T.fd69_0) <| .ur' (.stS T.sz66 ok.n1) ?_
          rintro η14 ⟨ok, cg⟩
          refine .nil ?_
          refine .seq <| .r <| .w 87 (.ldb T.ag69 ok.m0 T.sz69) <| .ur' (.stW (vs := [.slice ya2 yn2 yc2, .slice (some ⟨bb1, oo1, none⟩) nl.length nc, .slice a7 o.length c7, .int .i64 (if 0 < lf then lf - 1 else lf), .bool (if lf = 0 then true else gn), .int .i64 (if lf = 0 then mn else mn + 1)]) T.sz69 ok.n4 (oneL rfl)) ?_
          rintro η15 ⟨ok, cg⟩
          refine .w 5 .asI <| .nil ?_
          have hfr := ok.n4.n3
          have hnn : (withL RWF.n nl[k2] sl).length = yn2 := (Sl.sz (Cap.sl hfr.m0) RWF.cells_len (by decide)).1
          refine .ret ⟨.tuple #[.agg #[.slice ya2 yn2 yc2, .slice (some ⟨bb1, oo1, none⟩) nl.length nc, .slice a7 o.length c7, .int .i64 (if 0 < lf then lf - 1 else lf), .bool (if lf = 0 then true else gn), .int .i64 (if lf = 0 then mn else mn + 1)], .int .i64 0], Res.many (vs := [.agg #[.slice ya2 yn2 yc2, .slice (some ⟨bb1, oo1, none⟩) nl.length nc, .slice a7 o.length c7, .int .i64 (if 0 < lf then lf - 1 else lf), .bool (if lf = 0 then true else gn), .int .i64 (if lf = 0 then mn else mn + 1)], .int .i64 0]) rfl ⟨⟨_, rfl, load_ag T.ag69 ok.m0 T.sz69⟩, rfl, trivial⟩ rfl, ⟨⟨ya2, yc2, withL RWF.n nl[k2] sl, (some ⟨bb1, oo1, none⟩), nc, nl, a7, c7, o, if 0 < lf then lf - 1 else lf, gn, mn + 1⟩, by rw [syncW_d (by exact hw0) (by rintro ⟨h1, h2⟩; rw [hasW_y (by exact hfd)] at h1; cases h1) (by exact hl0) (s := (withL RWF.n nl[k2] sl).map RWF.abs) (by simp only [RW.abs]; rw [hfd]; exact (withL_map RWF.n WF.n RWF.abs (fun _ => rfl) _ sl).symm)]; subst hnn; simp [hl0], by rw [syncW_d (by exact hw0) (by rintro ⟨h1, h2⟩; rw [hasW_y (by exact hfd)] at h1; cases h1) (by exact hl0) (s := (withL RWF.n nl[k2] sl).map RWF.abs) (by simp only [RW.abs]; rw [hfd]; exact (withL_map RWF.n WF.n RWF.abs (fun _ => rfl) _ sl).symm)]; simp only [RW.abs]; rw [← withoutL_map RWC.n WC.n RWC.abs (fun _ => rfl), ho2] <;> rfl, ok.chg, ⟨by rw [hnn]; exact RwB.ofCap (by decide) RWF.cells_len hfr.m0 (fun j hj => .inr (hfr.fresh j hj)) (fun y hy => by rcases withL_mem _ _ hy with h9 | h9; subst h9; exact ((ok.r1).by' _ (List.getElem_mem hkk2)).mono (fun _ h => .inl (And.left h)) (fun _ h => .inl (And.left h)); exact ((ok.r0).by' y h9).mono (fun _ h => .inl (And.left h)) (fun _ h => .inl (And.left h))), ok.r1.mono (fun _ h => .inl (And.left h)), RwB.filt (ok.r2) (by decide) RWC.cells_len hfr.m1 (fun j hj => .inr (hfr.n1.fresh j hj)) (fun _ h => .inl (And.left h)) (fun y hy => by rw [← ho2] at hy; exact (List.mem_filter.1 hy).1)⟩⟩⟩
        omega
      obtain rfl := heq.symm
      have hfd := fd_none hmk2
      refine .w 11 .asI <| .nil ?_
      refine .seq <| .r <| .w 76 .mvI <| .w 77 .geq <| .nil ?_
      refine .cf <| .skip <| .seq <| .r <| .w 87 (.ldb T.ag69 ok.m0 T.sz69) <| .ur' (.stW (vs := [.slice ya1 yn1 yc1, .slice na nl.length nc, .slice a7 o.length c7, .int .i64 (if 0 < lf then lf - 1 else lf), .bool (if lf = 0 then true else gn), .int .i64 (if lf = 0 then mn else mn + 1)]) T.sz69 ok.n3 (oneL rfl)) ?_
      rintro η16 ⟨ok, cg⟩
      refine .w 5 .asI <| .nil ?_
      refine .ret ⟨.tuple #[.agg #[.slice ya1 yn1 yc1, .slice na nl.length nc, .slice a7 o.length c7, .int .i64 (if 0 < lf then lf - 1 else lf), .bool (if lf = 0 then true else gn), .int .i64 (if lf = 0 then mn else mn + 1)], .int .i64 0], Res.many (vs := [.agg #[.slice ya1 yn1 yc1, .slice na nl.length nc, .slice a7 o.length c7, .int .i64 (if 0 < lf then lf - 1 else lf), .bool (if lf = 0 then true else gn), .int .i64 (if lf = 0 then mn else mn + 1)], .int .i64 0]) rfl ⟨⟨_, rfl, load_ag T.ag69 ok.m0 T.sz69⟩, rfl, trivial⟩ rfl, (by rw [hfd1] at hfd; cases hfd)⟩
    obtain rfl := heq.symm
    have hfd := fd_none hmk1
    refine .w 46 .lss <| .w 47 .mvB <| .w 48 .mvS <| .w 49 (.len T.el67) <| .w 50 (.fa T.fd69_2) <| .w 51 (.ldx T.ag67 ok.m2) <| .w 52 (.len T.el67) <| .w 53 .eql <| .w 54 .pkt <| .nil ?_
    refine .cd (fun C3 => ?_) (fun C3 => ?_)
    · --
      refine .seq <| .r <| .w 55 (.ldb T.ag69 ok.m2 T.sz69) <| .ur' (.stW (vs := [.slice sa sl.length sc, .slice na nl.length nc, .slice pa pl.length pc, .int .i64 lf, .bool gn, .int .i64 mn]) T.sz69 ok.n1 (oneL rfl)) ?_
      rintro η17 ⟨ok, cg⟩
      refine .w 5 .asI <| .nil ?_
      refine .ret ⟨.tuple #[.agg #[.slice sa sl.length sc, .slice na nl.length nc, .slice pa pl.length pc, .int .i64 lf, .bool gn, .int .i64 mn], .int .i64 4], Res.many (vs := [.agg #[.slice sa sl.length sc, .slice na nl.length nc, .slice pa pl.length pc, .int .i64 lf, .bool gn, .int .i64 mn], .int .i64 4]) rfl ⟨⟨_, rfl, load_ag T.ag69 ok.m0 T.sz69⟩, rfl, trivial⟩ rfl, ⟨⟨sa, sc, sl, na, nc, nl, pa, pc, pl, lf, gn, mn⟩, by rw [syncW_n (by exact hw0) (hasW_n (by exact hfd)) (by show (withoutL WC.n (pl.map RWC.abs) n).length = (pl.map RWC.abs).length; rw [pend_len, List.length_map, ho2]; omega)] <;> rfl, by rw [syncW_n (by exact hw0) (hasW_n (by exact hfd)) (by show (withoutL WC.n (pl.map RWC.abs) n).length = (pl.map RWC.abs).length; rw [pend_len, List.length_map, ho2]; omega)], ok.chg, ⟨ok.r0.mono (fun _ h => .inl (And.left h)), ok.r1.mono (fun _ h => .inl (And.left h)), ok.r2.mono (fun _ h => .inl (And.left h))⟩⟩⟩
    refine .skip <| .seq <| ?_
    have hfd1 := hfd
    refine .r <| .w 57 (.ldb T.ag69 ok.m2 T.sz69) <| .c' 58 .func (count_any (by omega) (by omega)) ?_
    rintro _ η18 ⟨rfl, hx⟩
    have ok := ok.ext hx
    refine .w 56 .mvU <| .w 59 .ex <| .w 60 .ex <| .a' 9 (.alA T.zr69 ok) ?_
    rintro _ η19 ⟨pb4, rfl, ok, xe⟩
    refine .ur' (.stW (vs := [.slice sa sl.length sc, .slice na nl.length nc, .slice pa pl.length pc, .int .i64 (if 0 < lf then lf - 1 else lf), .bool (if lf = 0 then true else gn), .int .i64 (if lf = 0 then mn else mn + 1)]) T.sz69 ok (oneL rfl)) ?_
    rintro η20 ⟨ok, cg⟩
    refine .w 10 .asI <| .nil ?_
    refine .seq <| .seq <| .r <| .w 61 .mvI <| .w 62 .neq <| .nil ?_
    refine .cd (fun C4 => ?_) (fun C4 => ?_)
    · --
      have hl0 : lf = 0 := by by_cases h : lf = 0; exact h; exact absurd (by unfold countC; rw [if_neg h]; rfl) C4
      refine .seq <| .r <| .w 63 (.ldb T.ag69 ok.m0 T.sz69) <| .w 64 .mvI <| .ur' (.stW (vs := [.slice sa sl.length sc, .slice na nl.length nc, .slice pa pl.length pc, .int .i64 (if 0 < lf then lf - 1 else lf), .bool (if lf = 0 then true else gn), .int .i64 (if lf = 0 then mn else mn + 1)]) T.sz69 ok.n2 (oneL rfl)) ?_
      rintro η21 ⟨ok, cg⟩
      refine .w 5 .asI <| .nil ?_
      refine .ret ⟨.tuple #[.agg #[.slice sa sl.length sc, .slice na nl.length nc, .slice pa pl.length pc, .int .i64 (if 0 < lf then lf - 1 else lf), .bool (if lf = 0 then true else gn), .int .i64 (if lf = 0 then mn else mn + 1)], .int .i64 (countC lf : Int)], Res.many (vs := [.agg #[.slice sa sl.length sc, .slice na nl.length nc, .slice pa pl.length pc, .int .i64 (if 0 < lf then lf - 1 else lf), .bool (if lf = 0 then true else gn), .int .i64 (if lf = 0 then mn else mn + 1)], .int .i64 (countC lf : Int)]) rfl ⟨⟨_, rfl, load_ag T.ag69 ok.m0 T.sz69⟩, rfl, trivial⟩ rfl, ⟨⟨sa, sc, sl, na, nc, nl, pa, pc, pl, lf, true, mn⟩, by rw [syncW_p (by exact hw0) (by rintro ⟨h1, h2⟩; have h3 : (withoutL WC.n (pl.map RWC.abs) n).length = (pl.map RWC.abs).length := h2; rw [pend_len, List.length_map, ho2] at h3; omega) (by exact hl0)]; simp [hl0, countC], by rw [syncW_p (by exact hw0) (by rintro ⟨h1, h2⟩; have h3 : (withoutL WC.n (pl.map RWC.abs) n).length = (pl.map RWC.abs).length := h2; rw [pend_len, List.length_map, ho2] at h3; omega) (by exact hl0), countW_0 (by exact hl0)]; rfl, ok.chg, ⟨ok.r0.mono (fun _ h => .inl (And.left h)), ok.r1.mono (fun _ h => .inl (And.left h)), ok.r2.mono (fun _ h => .inl (And.left h))⟩⟩⟩
    have hl0 : ¬ lf = 0 := by intro h; unfold countC at C4; rw [if_pos h] at C4; simp at C4
    refine .skip <| .seq <| .r <| .w 65 .mvS <| .w 66 (.fa T.fd69_2) <| .ur' (.stS T.sz67 ok) ?_
    rintro η22 ⟨ok, cg⟩
    refine .nil ?_
    refine .seq <| .r <| .w 67 (.fa T.fd69_0) <| .w 68 (.ldx T.ag66 ok.m3) <| .w 69 .mvT <| .c' 70 .func (without_any (a := sa) (c := sc) (l := sl) ok.r0 (by omega) (n := n)) ?_
    rintro _ η23 own
    obtain ⟨ya3, yn3, yc3, rfl⟩ := own.form3
    have ok := ok.own own
    refine .w 71 (.fa T.fd69_0) <| .ur' (.stS T.sz66 ok.n1) ?_
    rintro η24 ⟨ok, cg⟩
    refine .nil ?_
    refine .seq <| .seq <| .r <| .w 72 (.fa T.fd69_1) <| .w 73 (.ldx T.ag66 ok.m4) <| .w 74 .mvT <| .c' 75 .func (find_any (a := na) (c := nc) (l := nl) (n := n) ok.r1) ?_
    rintro _ _ ⟨_, rfl, (⟨k3, hkk3, rfl, hnk3, hmk3⟩ | ⟨rfl, hmk3⟩), heq⟩
    · --
      obtain rfl := heq.symm
      have hfd := fd_some hkk3 hnk3 hmk3
      refine .w 11 .asI <| .nil ?_
      refine .seq <| .r <| .w 76 .mvI <| .w 77 .geq <| .nil ?_
      refine .cd (fun C5 => ?_) (fun C5 => ?_)
      · --
        rw [hfd1] at hfd; cases hfd
      omega
    obtain rfl := heq.symm
    have hfd := fd_none hmk3
    refine .w 11 .asI <| .nil ?_
    refine .seq <| .r <| .w 76 .mvI <| .w 77 .geq <| .nil ?_
    refine .cf <| .skip <| .seq <| .r <| .w 87 (.ldb T.ag69 ok.m0 T.sz69) <| .ur' (.stW (vs := [.slice ya3 yn3 yc3, .slice na nl.length nc, .slice a7 o.length c7, .int .i64 (if 0 < lf then lf - 1 else lf), .bool (if lf = 0 then true else gn), .int .i64 (if lf = 0 then mn else mn + 1)]) T.sz69 ok.n3 (oneL rfl)) ?_
    rintro η25 ⟨ok, cg⟩
    refine .w 5 .asI <| .nil ?_
    have hfr := ok.n3.n3
    have hnn : (withoutL RWF.n sl n).length = yn3 := (Sl.sz (Cap.sl hfr.m0) RWF.cells_len (by decide)).1
    refine .ret ⟨.tuple #[.agg #[.slice ya3 yn3 yc3, .slice na nl.length nc, .slice a7 o.length c7, .int .i64 (if 0 < lf then lf - 1 else lf), .bool (if lf = 0 then true else gn), .int .i64 (if lf = 0 then mn else mn + 1)], .int .i64 0], Res.many (vs := [.agg #[.slice ya3 yn3 yc3, .slice na nl.length nc, .slice a7 o.length c7, .int .i64 (if 0 < lf then lf - 1 else lf), .bool (if lf = 0 then true else gn), .int .i64 (if lf = 0 then mn else mn + 1)], .int .i64 0]) rfl ⟨⟨_, rfl, load_ag T.ag69 ok.m0 T.sz69⟩, rfl, trivial⟩ rfl, ⟨⟨ya3, yc3, withoutL RWF.n sl n, na, nc, nl, a7, c7, o, if 0 < lf then lf - 1 else lf, gn, mn + 1⟩, by rw [syncW_d (by exact hw0) (by rintro ⟨h1, h2⟩; have h3 : (withoutL WC.n (pl.map RWC.abs) n).length = (pl.map RWC.abs).length := h2; rw [pend_len, List.length_map, ho2] at h3; omega) (by exact hl0) (s := (withoutL RWF.n sl n).map RWF.abs) (by simp only [RW.abs]; rw [hfd]; exact (withoutL_map RWF.n WF.n RWF.abs (fun _ => rfl) sl n).symm)]; subst hnn; simp [hl0], by rw [syncW_d (by exact hw0) (by rintro ⟨h1, h2⟩; have h3 : (withoutL WC.n (pl.map RWC.abs) n).length = (pl.map RWC.abs).length := h2; rw [pend_len, List.length_map, ho2] at h3; omega) (by exact hl0) (s := (withoutL RWF.n sl n).map RWF.abs) (by simp only [RW.abs]; rw [hfd]; exact (withoutL_map RWF.n WF.n RWF.abs (fun _ => rfl) sl n).symm)]; simp only [RW.abs]; rw [← withoutL_map RWC.n WC.n RWC.abs (fun _ => rfl), ho2] <;> rfl, ok.chg, ⟨by rw [hnn]; exact RwB.filt (ok.r0) (by decide) RWF.cells_len hfr.m0 (fun j hj => .inr (hfr.fresh j hj)) (fun _ h => .inl (And.left h)) (fun y hy => (List.mem_filter.1 hy).1), ok.r1.mono (fun _ h => .inl (And.left h)), RwB.filt (ok.r2) (by decide) RWC.cells_len hfr.m1 (fun j hj => .inr (hfr.n1.fresh j hj)) (fun _ h => .inl (And.left h)) (fun y hy => by rw [← ho2] at hy; exact (List.mem_filter.1 hy).1)⟩⟩⟩
  have hil : i < pl.length := by omega
  refine .skip <| .seq <| .block fun K1 hK1 => .seq <| .r <| .w 26 (.fa T.fd69_2) <| .w 27 (.ldx T.ag67 ok.m2) <| .w 28 .mvI <| ?_
  obtain ⟨bb2, oo2, rfl, fb2⟩ := ok.r2.pos (by omega)
  refine .w 29 (.ix i T.el67 T.sz152) <| .w 30 (.fa T.fd152_2) <| .w 31 (.ld T.ag9 (sl_at RWC.cells_len (ok.r2).sl (i := i) (j := 2) (by omega) rfl)) <| .w 32 .mvT <| .w 33 .tNeB <| .nil ?_
  refine .cd (fun C2 => ?_) (fun C2 => ?_)
  · --
    refine .r <| .w 34 .mvS <| .w 35 (.fa T.fd69_2) <| .w 36 (.ldx T.ag67 ok.m2) <| .w 37 .mvI <| .w 38 (.ix i T.el67 T.sz152) <| .w 39 (.ldc (vs := RWC.cells pl[i]) T.ag152 (sl_ats RWC.cells_len (ok.r2).sl (i := i) (by omega)) T.sz152) <| .a' 40 (.lit [.tmp 39] (cs := [.int .i64 (pl[i].kind : Int), .int .i64 (pl[i].pos : Int), .string (BA (pl[i].n)), .slice (pl[i].ba) (pl[i].bl.length) (pl[i].bc)]) T.el67 T.sz152 T.zr152 ok ⟨rfl, trivial⟩) ?_
    rintro _ η26 ⟨pb5, rfl, ok, xe⟩
    refine .a' 41 (.app (news := [.int .i64 (pl[i].kind : Int), .int .i64 (pl[i].pos : Int), .string (BA (pl[i].n)), .slice (pl[i].ba) (pl[i].bl.length) (pl[i].bc)]) T.el67 T.sz152 T.by152 T.zr152 ok.n1 (ok.n1.m1).sl (oneL rfl) (by rw [flat_len RWC.cells_len]; simp only [List.length_cons, List.length_nil]; omega)) ?_
    rintro _ η27 ⟨ya4, yn4, yc4, rfl, ok, ap⟩
    have ok := ok.cx (ys := (o ++ [pl[i]]).flatMap RWC.cells) (by simp [RWC.cells])
    obtain rfl : yn4 = (o ++ [pl[i]]).length := (Sl.sz (Cap.sl ok.m0) RWC.cells_len (by decide)).1.symm
    refine .w 7 .asS <| .nil ?_
    refine .end <| hK1 _ _ <| .r <| .w 24 .mvI <| .w 25 (.addI (b := 1)) <| .w 8 .asI <| .nil ?_
    refine .end <| hJ0 _ _ _ ⟨i + 1, o ++ [pl[i]], ya4, yc4, ⟨rfl, rfl, rfl, rfl, rfl, trivial⟩, (ok.n3.n3.n2).k3, by omega, by rw [ho, drop_here hil, wog C2]; simp only [List.append_assoc, List.singleton_append, List.cons_append, List.nil_append], by first | omega | (simp only [List.length_append, List.length_singleton]; omega), rfl⟩ (by omega)
  refine .skip <| .end <| hK1 _ _ <| .r <| .w 24 .mvI <| .w 25 (.addI (b := 1)) <| .w 8 .asI <| .nil ?_
  refine .end <| hJ0 _ _ _ ⟨i + 1, o, a7, c7, ⟨rfl, rfl, rfl, rfl, rfl, trivial⟩, (ok.n2.n2.n2).k3, by omega, by rw [ho, drop_here hil, wos (by simpa using C2)], by first | omega | (simp only [List.length_append, List.length_singleton]; omega), rfl⟩ (by omega)

end Go.Proofs.Ytpebbkhainpfaaa

namespace Go.HL
open Go
theorem OpV.quoI {P : Program} {s : Slots} {h : Heap} {d : Option Tmp} {t u ty : TypeId} {x y : Operand} {pos : String} {af : Array Edge} {g : Option (Nat × Bool)} {a b : Nat} (hx : ev s x = .int .i64 (a : Nat) := by exact rfl) (hy : ev s y = .int .i64 (b : Nat) := by exact rfl) (hr : a ≤ 9223372036854775807 ∧ 1 ≤ b := by omega) : OpV P ⟨d, .binOp .quo t x y u, ty, pos, af, g⟩ s h (.int .i64 ((a / b : Nat) : Int)) := by
  rw [Int.natCast_ediv]; exact OpV.quo hx hy (by omega)
end Go.HL
namespace Go.Proofs.Ytpebbkhainpfaaa
open Go Go.HL
/-- The next name. -/
def nxS (lo nx p : List UInt8) : List UInt8 := if lo < p ∧ (nx = [] ∨ p < nx) then p else nx
def nxL (lo : List UInt8) (l : List WC) : List UInt8 := l.foldl (fun nx c => nxS lo nx c.n) []
def keW (c : WC) (k : Nat) : WC := ⟨c.kind, c.pos, c.n, longN c.b (c.b.length * k / 255)⟩
/-- The changes of one name, of which the bytes tell how much is kept. -/
def apC (x : List UInt8) : List WF → List UInt8 → List WC → List WF × List UInt8
  | fs, ks, [] => (fs, ks)
  | fs, ks, c :: l => if c.n ≠ x then apC x fs ks l else
    apC x (if 0 < (ks.headD 0).toNat ∧ (c.kind = 0 ∨ 128 ≤ (ks.headD 0).toNat) then doW fs (keW c (ks.headD 0).toNat) else fs) ks.tail l
def crW (p : List WC) : Nat → List WF → List UInt8 → List UInt8 → List WF
  | 0, fs, _, _ => fs
  | m + 1, fs, lo, ks => if nxL lo p = [] then crW p m fs lo ks else crW p m (apC (nxL lo p) fs ks p).1 (nxL lo p) (apC (nxL lo p) fs ks p).2
def crashW (w : WD) (ks : List UInt8) : WD := ⟨crW w.pend w.pend.length w.safe [] ks, crW w.pend w.pend.length w.safe [] ks, [], -1, false, w.many⟩
theorem doW_b {l : List WF} {c : WC} (h : ∀ f ∈ l, f.b.length ≤ 16777216) (hc : c.pos + c.b.length ≤ 16777216) : ∀ f ∈ doW l c, f.b.length ≤ 16777216 := by
  intro f hf
  unfold doW at hf
  have hn : ∀ b : List UInt8, b.length ≤ 16777216 → (newB c b).length ≤ 16777216 := fun b hb => by unfold newB; rw [patchN_len (by rw [longN_len]; omega), longN_len]; omega
  have hw : ∀ y : WF, y.b.length ≤ 16777216 → f ∈ withL WF.n y l → f.b.length ≤ 16777216 := fun y hy hf => (withL_mem _ _ hf).elim (fun e => by rw [e]; exact hy) (h f)
  cases hd : l.find? fun f => decide (f.n = c.n) with
  | none =>
    rw [hd] at hf; simp only at hf
    split at hf
    · exact h f hf
    · exact hw _ (hn [] (by simp)) hf
  | some g =>
    rw [hd] at hf; simp only at hf
    have hg := h g (List.mem_of_find?_eq_some hd)
    split at hf
    · exact hw _ (hn _ hg) hf
    · split at hf
      · exact hw _ (by simp only; rw [longN_len]; omega) hf
      · exact h f (List.mem_filter.1 hf).1
theorem doW_len {l : List WF} {c : WC} : (doW l c).length ≤ l.length + 1 := by
  unfold doW
  have := fun y => withL_len WF.n y l
  have := withoutL_len WF.n l c.n
  repeat' split
  all_goals first | omega | (exact withL_len WF.n _ l)
/-- Behind the changes up to i of the name x: what is left. -/
structure P2 (x : List UInt8) (p : List WC) (F : List WF) (K : List UInt8) (i : Nat) (f : List WF) (k : List UInt8) : Prop where
  no : x = [] → f = F ∧ k = K
  eq : apC x F K p = apC x f k (p.drop i)
theorem P2.skip {x : List UInt8} {p : List WC} {F f : List WF} {K k : List UInt8} {i : Nat} (v : P2 x p F K i f k) (hi : i < p.length) (h : p[i].n ≠ x) : P2 x p F K (i + 1) f k := ⟨v.no, by rw [v.eq, List.drop_eq_getElem_cons hi, apC, if_pos h]⟩
theorem P2.go {x : List UInt8} {p : List WC} {F f f2 : List WF} {K k : List UInt8} {i b : Nat} (v : P2 x p F K i f k) (hi : i < p.length) (h : p[i].n = x) (hx : x ≠ []) (hb : b = (k.headD 0).toNat) (h2 : f2 = if 0 < b ∧ (p[i].kind = 0 ∨ 128 ≤ b) then doW f (keW p[i] b) else f) : P2 x p F K (i + 1) f2 k.tail :=
  ⟨fun e => absurd e hx, by rw [v.eq, List.drop_eq_getElem_cons hi, apC, if_neg (by simpa using h), h2, hb]⟩
/-- Behind some names: what is left. -/
theorem crW_no {p : List WC} {m : Nat} {F : List WF} {lo K : List UInt8} (h : nxL lo p = []) : crW p (m + 1) F lo K = crW p m F lo K := by rw [crW, if_pos h]
theorem crW_go {p : List WC} {m : Nat} {F f : List WF} {lo K k x : List UInt8} (h : nxL lo p = x) (hx : x ≠ []) (e : apC x F K p = (f, k)) : crW p (m + 1) F lo K = crW p m f x k := by rw [crW, if_neg (by rw [h]; exact hx), h, e]
theorem P2.out {x : List UInt8} {p : List WC} {F f : List WF} {K k : List UInt8} {i : Nat} (v : P2 x p F K i f k) (hi : p.length ≤ i) : apC x F K p = (f, k) := by rw [v.eq, List.drop_eq_nil_of_le hi, apC]
theorem nxL_take {lo : List UInt8} {p : List WC} {i : Nat} (hi : i < p.length) : nxL lo (p.take (i + 1)) = nxS lo (nxL lo (p.take i)) p[i].n := by
  unfold nxL; rw [List.take_succ_eq_append_getElem hi, List.foldl_append]; rfl
theorem pabs {l : List RWC} {i : Nat} (hi : i < l.length) : (l.map RWC.abs)[i]'(by simpa using hi) = l[i].abs := List.getElem_map _

set_option maxRecDepth 100000 in
set_option maxHeartbeats 2000000 in
theorem dcrash_any {h : Heap} {E F1 E1 : Nat → Prop} {sa na pa : Option Addr} {sc nc pc : Nat} {sl nl : List RWF} {pl : List RWC} {lf : Int} {gn : Bool} {mn : Int} {a : Option Addr} {c : Nat} {l : List UInt8} (hw : DocW h E ⟨sa, sc, sl, na, nc, nl, pa, pc, pl, lf, gn, mn⟩) (hs : WS (RW.abs ⟨sa, sc, sl, na, nc, nl, pa, pc, pl, lf, gn, mn⟩)) (hb : RdL h F1 E1 (a, l.length, c) l) : HC Try.prog 80 #[.agg #[.slice sa sl.length sc, .slice na nl.length nc, .slice pa pl.length pc, .int .i64 lf, .bool gn, .int .i64 mn], .slice a l.length c] h (fun v h' => ∃ w : RW, v = .agg #[.slice w.sa w.sl.length w.sc, .slice w.na w.nl.length w.nc, .slice w.pa w.pl.length w.pc, .int .i64 w.left, .bool w.gone, .int .i64 w.many] ∧ w.abs = crashW (RW.abs ⟨sa, sc, sl, na, nc, nl, pa, pc, pl, lf, gn, mn⟩) l ∧ WRet h E w h') := by
  have hWS := hs
  have hsm := hs.many
  have hsl1 := hs.nowl
  have hsl2 := hs.pendl
  have hsl3 := hs.safel
  simp only [RW.abs, List.length_map] at hsm hsl1 hsl2 hsl3
  have hnb := nowb_of hs.nowb
  have ok := (Hp.nil h none_).old (chwI (fun j => E j ∧ j < h.size) (pa, pl.length, pc) pl) (hw.p.lt (by decide)) (fun j hj => hj.2)
  have ok := ok.old (flwI (fun j => E j ∧ j < h.size) (na, nl.length, nc) nl) (hw.n.lt (by decide)) (fun j hj => hj.2)
  have ok := ok.old (flwI (fun j => E j ∧ j < h.size) (sa, sl.length, sc) sl) (hw.s.lt (by decide)) (fun j hj => hj.2)
  have hcn := hw.n.m
  have hcs := hw.s.m
  have hcp := hw.p.m
  simp only at hcn hcs hcp
  have hbc := hb.c
  have hbm := hb.m
  simp only at hbc hbm
  have ok := ok.arg hb
  refine HC.go Try.func80 114 ?_
  refine .seq <| .r <| .a' 2 (.bxA (cs := [.slice sa sl.length sc, .slice na nl.length nc, .slice pa pl.length pc, .int .i64 lf, .bool gn, .int .i64 mn]) ok) ?_
  rintro _ η1 ⟨pb1, rfl, ok, xe⟩
  refine .a' 4 (.alA T.zr69 ok) ?_
  rintro _ η2 ⟨pb2, rfl, ok, xe⟩
  refine .nil ?_
  refine .seq <| .r <| .w 14 (.fa T.fd69_0) <| .w 15 (.ldx T.ag66 ok.m1) <| .w 5 .asS <| .nil ?_
  refine .seq <| .r <| .w 6 .asT <| .nil ?_
  refine .seq <| .seq <| .r <| .w 7 .asI <| .nil ?_
  refine .block fun K0 hK0 => .loop (fun m s hh => ∃ (n : Nat) (nm ks : List UInt8) (ka : Option Addr) (kc : Nat) (fa : Option Addr) (fc : Nat) (fl : List RWF) (X : Nat → Prop), Has s [(1, .slice ka ks.length kc), (2, .pointer (some ⟨pb1, 0, none⟩)), (4, .pointer (some ⟨pb2, 0, none⟩)), (5, .slice fa fl.length fc), (6, .string (BA nm)), (7, .int .i64 (n : Int))] ∧ Hp h none_ [boxI pb2 69 [.slice none 0 0, .slice none 0 0, .slice none 0 0, .int .i64 0, .bool false, .int .i64 0], boxI pb1 69 [.slice sa sl.length sc, .slice na nl.length nc, .slice pa pl.length pc, .int .i64 lf, .bool gn, .int .i64 mn]] [rdI (fun j => F1 j ∧ j < h.size) (fun j => E1 j ∧ j < h.size) (ka, ks.length, kc) ks, flwI X (fa, fl.length, fc) fl, chwI (fun j => E j ∧ j < h.size) (pa, pl.length, pc) pl] hh ∧ n ≤ pl.length ∧ crW (pl.map RWC.abs) pl.length (sl.map RWF.abs) [] l = crW (pl.map RWC.abs) (pl.length - n) (fl.map RWF.abs) nm ks ∧ fl.length ≤ 100000 + 300 * n ∧ (∀ f ∈ fl.map RWF.abs, f.b.length ≤ 16777216) ∧ (∀ j, X j → E j ∨ h.size ≤ j) ∧ m = pl.length - n) ?_ ?_
  · exact ⟨_, 0, [], l, a, c, sa, sc, sl, (fun j => E j ∧ j < h.size), ⟨rfl, rfl, rfl, rfl, rfl, rfl, trivial⟩, (ok.n1.n1).k2.f3.f2.f2.e3, Nat.zero_le _, rfl, by omega, hs.safeb, fun j h => .inl h.1, rfl⟩
  rintro _ _ η3 ⟨n, nm, ks, ka, kc, fa, fc, fl, X, hs, ok, hn, hcr, hfl, hfb, hX, rfl⟩ J0 hJ0
  refine .frame hs fun τ => ?_
  refine .seq <| .seq <| .r <| .w 16 .mvI <| .w 17 (.fa T.fd69_2) <| .w 18 (.ldx T.ag67 ok.m1) <| .w 19 (.len T.el67) <| .w 20 .lss <| .nil ?_
  refine .cdr (fun C0 => ?_) (fun C0 => ?_)
  · --
    refine .exit <| hK0 _ _ <| .seq <| .r <| .w 109 .mvS <| .w 110 .mvS <| .w 111 (.fa T.fd69_5) <| .w 112 (.ldx T.ag3 ok.m1) <| .w 113 (.bd #[.slice fa fl.length fc, .slice fa fl.length fc, .slice none 0 0, .int .i64 (-1), .bool false, .int .i64 mn] T.zr69 T.pl69 rfl) <| .ur' (.stW (vs := [.slice fa fl.length fc, .slice fa fl.length fc, .slice none 0 0, .int .i64 (-1), .bool false, .int .i64 mn]) T.sz69 ok (oneL rfl)) ?_
    rintro η4 ⟨ok, cg⟩
    refine .nil ?_
    refine .ret ⟨.agg #[.slice fa fl.length fc, .slice fa fl.length fc, .slice none 0 0, .int .i64 (-1), .bool false, .int .i64 mn], Res.many (vs := [.agg #[.slice fa fl.length fc, .slice fa fl.length fc, .slice none 0 0, .int .i64 (-1), .bool false, .int .i64 mn]]) rfl ⟨⟨_, rfl, load_ag T.ag69 ok.m0 T.sz69⟩, trivial⟩ rfl, ⟨⟨fa, fc, fl, fa, fc, fl, none, 0, [], -1, false, mn⟩, rfl, by unfold crashW; simp only [RW.abs, List.length_map, List.map_nil]; rw [hcr, show pl.length - n = 0 by omega, crW], ok.chg, ⟨(ok.r1).mono (ew_up hX (fun j hj => ok.l1 j hj)), (ok.r1).mono (ew_up hX (fun j hj => ok.l1 j hj)), RwB.nil _ _ 0 (by decide)⟩⟩⟩
  refine .skip <| .seq <| .block fun K1 hK1 => .seq <| .r <| .w 8 .asT <| .nil ?_
  refine .seq <| .seq <| .r <| .w 9 .asI <| .nil ?_
  refine .block fun K2 hK2 => .loop (fun m s hh => ∃ (i : Nat) (nx : List UInt8), Has s [(1, .slice ka ks.length kc), (2, .pointer (some ⟨pb1, 0, none⟩)), (4, .pointer (some ⟨pb2, 0, none⟩)), (5, .slice fa fl.length fc), (6, .string (BA nm)), (7, .int .i64 (n : Int)), (8, .string (BA nx)), (9, .int .i64 (i : Int))] ∧ Hp h none_ [boxI pb2 69 [.slice none 0 0, .slice none 0 0, .slice none 0 0, .int .i64 0, .bool false, .int .i64 0], boxI pb1 69 [.slice sa sl.length sc, .slice na nl.length nc, .slice pa pl.length pc, .int .i64 lf, .bool gn, .int .i64 mn]] [rdI (fun j => F1 j ∧ j < h.size) (fun j => E1 j ∧ j < h.size) (ka, ks.length, kc) ks, flwI X (fa, fl.length, fc) fl, chwI (fun j => E j ∧ j < h.size) (pa, pl.length, pc) pl] hh ∧ i ≤ pl.length ∧ nx = nxL nm ((pl.map RWC.abs).take i) ∧ m = pl.length - i) ?_ ?_
  · exact ⟨_, 0, [], ⟨rfl, rfl, rfl, rfl, rfl, rfl, rfl, rfl, trivial⟩, ok, Nat.zero_le _, rfl, rfl⟩
  rintro _ _ η5 ⟨i, nx, hs, ok, hi, hnx, rfl⟩ J1 hJ1
  refine .frame hs fun τ => ?_
  refine .seq <| .seq <| .r <| .w 23 .mvI <| .w 24 (.fa T.fd69_2) <| .w 25 (.ldx T.ag67 ok.m1) <| .w 26 (.len T.el67) <| .w 27 .lss <| .nil ?_
  refine .cdr (fun C1 => ?_) (fun C1 => ?_)
  · --
    refine .exit <| hK2 _ _ <| .seq <| .seq <| ?_
    have hnx2 : nxL nm (pl.map RWC.abs) = nx := by rw [hnx, show i = (pl.map RWC.abs).length by rw [List.length_map]; omega, List.take_length]
    refine .r <| .w 11 .asI <| .nil ?_
    refine .block fun K4 hK4 => .loop (fun m s hh => ∃ (i : Nat) (ks2 : List UInt8) (ka2 : Option Addr) (kc2 : Nat) (fa2 : Option Addr) (fc2 : Nat) (fl2 : List RWF) (X2 : Nat → Prop), Has s [(1, .slice ka2 ks2.length kc2), (2, .pointer (some ⟨pb1, 0, none⟩)), (4, .pointer (some ⟨pb2, 0, none⟩)), (5, .slice fa2 fl2.length fc2), (6, .string (BA nm)), (7, .int .i64 (n : Int)), (8, .string (BA nx)), (11, .int .i64 (i : Int))] ∧ Hp h none_ [boxI pb2 69 [.slice none 0 0, .slice none 0 0, .slice none 0 0, .int .i64 0, .bool false, .int .i64 0], boxI pb1 69 [.slice sa sl.length sc, .slice na nl.length nc, .slice pa pl.length pc, .int .i64 lf, .bool gn, .int .i64 mn]] [rdI (fun j => F1 j ∧ j < h.size) (fun j => E1 j ∧ j < h.size) (ka2, ks2.length, kc2) ks2, flwI X2 (fa2, fl2.length, fc2) fl2, chwI (fun j => E j ∧ j < h.size) (pa, pl.length, pc) pl] hh ∧ i ≤ pl.length ∧ P2 nx (pl.map RWC.abs) (fl.map RWF.abs) ks i (fl2.map RWF.abs) ks2 ∧ fl2.length ≤ 100000 + 300 * n + i ∧ (∀ f ∈ fl2.map RWF.abs, f.b.length ≤ 16777216) ∧ (∀ j, X2 j → E j ∨ h.size ≤ j) ∧ m = pl.length - i) ?_ ?_
    · exact ⟨_, 0, ks, ka, kc, fa, fc, fl, X, ⟨rfl, rfl, rfl, rfl, rfl, rfl, rfl, rfl, trivial⟩, (ok.n1.n1).k2.f2.f2.f2, Nat.zero_le _, ⟨fun _ => ⟨rfl, rfl⟩, rfl⟩, by omega, hfb, hX, rfl⟩
    rintro _ _ η6 ⟨i, ks2, ka2, kc2, fa2, fc2, fl2, X2, hs, ok, hi2, hp2, hfl2, hfb2, hX2, rfl⟩ J2 hJ2
    refine .frame hs fun τ => ?_
    refine .seq <| .seq <| .r <| .w 49 .mvI <| .w 50 (.fa T.fd69_2) <| .w 51 (.ldx T.ag67 ok.m1) <| .w 52 (.len T.el67) <| .w 53 .lss <| .w 54 .mvB <| .sd (fun G54 => ?_) (fun G54 => ?_)
    ·
      refine .w 55 .mvT <| .w 56 .tNeB <| .w 57 .pkt <| .nil ?_
      refine .cdr (fun C3 => ?_) (fun C3 => ?_)
      · --
        refine .exit <| hK4 _ _ <| .seq <| .r <| .w 106 .mvT <| .w 107 .tNeB <| .nil ?_
        refine .cd (fun C7 => ?_) (fun C7 => ?_)
        · --
          have hne : nx ≠ [] := by assumption
          refine .r <| .w 108 .mvT <| .w 6 .asT <| .nil ?_
          refine .end <| hK1 _ _ <| .r <| .w 21 .mvI <| .w 22 (.addI (b := 1)) <| .w 7 .asI <| .nil ?_
          refine .end <| hJ0 _ _ _ ⟨n + 1, nx, ks2, ka2, kc2, fa2, fc2, fl2, X2, ⟨rfl, rfl, rfl, rfl, rfl, rfl, trivial⟩, (ok.n1.n1).k2.f2.f2.f2, by omega, by rw [hcr, show pl.length - n = (pl.length - (n + 1)) + 1 by omega]; exact crW_go hnx2 hne (hp2.out (by first | (rw [List.length_map]; omega) | exact absurd hne (by assumption))), by omega, hfb2, hX2, rfl⟩ (by omega)
        have hne : nx = [] := by simpa using C7
        refine .skip <| .end <| hK1 _ _ <| .r <| .w 21 .mvI <| .w 22 (.addI (b := 1)) <| .w 7 .asI <| .nil ?_
        refine .end <| hJ0 _ _ _ ⟨n + 1, nm, ks2, ka2, kc2, fa2, fc2, fl2, X2, ⟨rfl, rfl, rfl, rfl, rfl, rfl, trivial⟩, (ok.n1.n1).k2.f2.f2.f2, by omega, by rw [hcr, show pl.length - n = (pl.length - (n + 1)) + 1 by omega]; exact (by obtain ⟨e1, e2⟩ := hp2.no hne; rw [e1, e2]; exact crW_no (hnx2.trans hne)), by omega, hfb2, hX2, rfl⟩ (by omega)
      have hil : i < pl.length := by omega
      refine .skip <| .seq <| .block fun K5 hK5 => .seq <| .seq <| .r <| .w 60 (.fa T.fd69_2) <| .w 61 (.ldx T.ag67 ok.m1) <| .w 62 .mvI <| ?_
      obtain ⟨bb1, oo1, rfl, fb1⟩ := ok.r2.pos (by omega)
      refine .w 63 (.ix i T.el67 T.sz152) <| .w 64 (.fa T.fd152_2) <| .w 65 (.ld T.ag9 (sl_at RWC.cells_len (ok.r2).sl (i := i) (j := 2) (by omega) rfl)) <| .w 66 .mvT <| .w 67 .tNeB <| .nil ?_
      refine .cd (fun C4 => ?_) (fun C4 => ?_)
      · --
        refine .exit <| hK5 _ _ <| .r <| .w 58 .mvI <| .w 59 (.addI (b := 1)) <| .w 11 .asI <| .nil ?_
        refine .end <| hJ2 _ _ _ ⟨i + 1, ks2, ka2, kc2, fa2, fc2, fl2, X2, ⟨rfl, rfl, rfl, rfl, rfl, rfl, rfl, rfl, trivial⟩, (ok.n1.n1).k2.f2.f2.f2, by omega, hp2.skip (by rw [List.length_map]; exact hil) (by rw [pabs hil]; exact C4), by omega, hfb2, hX2, rfl⟩ (by omega)
      have hcn4 : pl[i].n = nx := by simpa using C4
      refine .skip <| .seq <| ?_
      have hne : nx ≠ [] := by assumption
      refine .r <| .w 12 .asI <| .nil ?_
      refine .seq <| .seq <| .r <| .w 68 .mvS <| .w 69 (.len T.el22) <| .w 70 .gtr <| .nil ?_
      refine .join (fun s hh => ∃ (by0 : Nat) (ka3 : Option Addr) (kc3 : Nat), Has s [(1, .slice ka3 ks2.tail.length kc3), (2, .pointer (some ⟨pb1, 0, none⟩)), (4, .pointer (some ⟨pb2, 0, none⟩)), (5, .slice fa2 fl2.length fc2), (6, .string (BA nm)), (7, .int .i64 (n : Int)), (8, .string (BA nx)), (11, .int .i64 (i : Int)), (12, .int .i64 (by0 : Int))] ∧ Hp h none_ [boxI pb2 69 [.slice none 0 0, .slice none 0 0, .slice none 0 0, .int .i64 0, .bool false, .int .i64 0], boxI pb1 69 [.slice sa sl.length sc, .slice na nl.length nc, .slice (some ⟨bb1, oo1, none⟩) pl.length pc, .int .i64 lf, .bool gn, .int .i64 mn]] [rdI (fun j => F1 j ∧ j < h.size) (fun j => E1 j ∧ j < h.size) (ka3, ks2.tail.length, kc3) ks2.tail, flwI X2 (fa2, fl2.length, fc2) fl2, chwI (fun j => E j ∧ j < h.size) (some ⟨bb1, oo1, none⟩, pl.length, pc) pl] hh ∧ by0 = (ks2.headD 0).toNat) ?_ ?_
      · --
        refine .cd (fun C5 => ?_) (fun C5 => ?_)
        · --
          have hk1 : 0 < ks2.length := by omega
          refine .seq <| .r <| .w 71 .mvS <| ?_
          obtain ⟨bb2, oo2, rfl, fb2⟩ := ok.r0.pos (by omega)
          refine .w 72 (.ix1 0 T.el22 T.sz5) <| .w 73 (.ld T.ag5 (ok.r0.u8 (i := 0) (by omega))) <| .w 74 (.cvi T.in3 T.in5) <| .w 12 .asI <| .nil ?_
          refine .r <| .w 75 .mvS <| .w 76 (.sll 1 T.el22 T.sz5) <| ?_
          generalize hc1 : cutA (some ⟨bb2, oo2, none⟩) 1 kc2 1 = ca1
          generalize hn1 : ks2.length - 1 = cn1
          obtain rfl : cn1 = (ks2.tail).length := by rw [← hn1]; simp
          have ok := ok.d0 (rdI (fun j => F1 j ∧ j < h.size) (fun j => E1 j ∧ j < h.size) (ca1, (ks2.tail).length, kc2 - 1) ks2.tail) (by have h1 := ok.r0.cut (i := 1) (j := ks2.length) (by omega) (by omega); rw [show ((ks2).drop 1).take (ks2.length - 1) = ks2.tail from by cases ks2 <;> simp] at h1; rw [← hc1, ← hn1]; exact h1) (fun _ h => h)
          refine .w 1 .asS <| .nil ?_
          refine .end <| ⟨(ks2[0].toNat), ca1, kc2 - 1, ⟨rfl, rfl, rfl, rfl, rfl, rfl, rfl, rfl, rfl, trivial⟩, ok.f3.f3.f2.e3, by cases ks2 with | nil => (simp at hk1) | cons x y => rfl⟩
        have hk0 : ks2 = [] := List.eq_nil_of_length_eq_zero (by omega)
        have ok := ok.d0 (rdI (fun j => F1 j ∧ j < h.size) (fun j => E1 j ∧ j < h.size) (ka2, ks2.tail.length, kc2) ks2.tail) (by have h9 := ok.r0; rw [hk0] at h9 ⊢; exact h9) (fun _ h => h)
        rw [show ks2.length = ks2.tail.length from by rw [hk0]; rfl]
        refine .skip <| .end <| ⟨0, ka2, kc2, ⟨rfl, rfl, rfl, rfl, rfl, rfl, rfl, rfl, rfl, trivial⟩, ok.f3.f3.f2.e3, by rw [hk0]; rfl⟩
      rintro s η7 ⟨by0, ka3, kc3, hs, ok, hby0⟩
      refine .frame hs fun τ => ?_
      refine .seq <| ?_
      have hb256 : by0 < 256 := by rw [hby0]; exact UInt8.toNat_lt _
      have hpd := hWS.pend _ (List.mem_map.2 ⟨_, List.getElem_mem hil, rfl⟩)
      simp only [RWC.abs] at hpd
      have hmul : pl[i].bl.length * by0 ≤ 16777216 * 255 := Nat.mul_le_mul (by omega) (by omega)
      have hdiv : pl[i].bl.length * by0 / 255 ≤ pl[i].bl.length := Nat.div_le_of_le_mul (by rw [Nat.mul_comm]; exact Nat.mul_le_mul_right _ (by omega))
      have hkfit : pl[i].pos + (longN pl[i].bl (pl[i].bl.length * by0 / 255)).length ≤ 16777216 := by rw [longN_len]; omega
      have ok := ok.d2 (rdI (fun j => E j ∧ j < h.size) (fun j => E j ∧ j < h.size) (pl[i].ba, pl[i].bl.length, pl[i].bc) pl[i].bl) ((ok.r2).by' _ (List.getElem_mem hil)) (fun _ h => h.elim id id)
      refine .r <| .w 77 (.fa T.fd69_2) <| .w 78 (.ldx T.ag67 ok.m1) <| .w 79 .mvI <| .w 80 (.ix i T.el67 T.sz152) <| .w 81 (.ldc (vs := RWC.cells pl[i]) T.ag152 (sl_ats RWC.cells_len (ok.r3).sl (i := i) (by omega)) T.sz152) <| .a' 13 (.alA T.zr152 ok) ?_
      rintro _ η8 ⟨pb3, rfl, ok, xe⟩
      refine .ur' (.stW (vs := [.int .i64 (pl[i].kind : Int), .int .i64 (pl[i].pos : Int), .string (BA (pl[i].n)), .slice (pl[i].ba) (pl[i].bl.length) (pl[i].bc)]) T.sz152 ok (oneL rfl)) ?_
      rintro η9 ⟨ok, cg⟩
      refine .nil ?_
      refine .seq <| .r <| .w 82 (.fa T.fd152_3) <| .w 83 (.ldx T.ag22 ok.m0) <| .w 84 (.fa T.fd152_3) <| .w 85 (.ldx T.ag22 ok.m0) <| .w 86 (.len T.el22) <| .w 87 .mvI <| .w 88 .mulI <| .w 89 (.quoI (a := (pl[i].bl.length * by0)) (b := 255)) <| .c' 90 .func (rlong_any (a := pl[i].ba) (c := pl[i].bc) (l := pl[i].bl) (n := ((pl[i].bl.length * by0) / 255)) ok.r0 (by omega)) ?_
      rintro _ η10 own
      obtain ⟨ya1, yc1, rfl⟩ := own.formB
      have ok := ok.own own
      refine .w 91 (.fa T.fd152_3) <| .ur' (.stS T.sz22 ok.n1) ?_
      rintro η11 ⟨ok, cg⟩
      refine .nil ?_
      refine .seq <| .r <| .w 92 .mvI <| .w 93 .gtr <| .w 94 .mvB <| .sd (fun G94 => ?_) (fun G94 => ?_)
      ·
        refine .w 95 (.fa T.fd152_0) <| .w 96 (.ldx T.ag3 ok.m0) <| .w 97 .eql <| .w 98 .mvB <| .sd (fun G98 => ?_) (fun G98 => ?_)
        ·
          refine .x 99 <| .x 100 <| .w 101 .pkt <| .w 102 .pkt <| .nil ?_
          refine .ct <| .r <| .w 103 .mvS <| .w 104 (.ldb T.ag152 ok.m0 T.sz152) <| ?_
          have hfx := (ok.n1).fresh
          have ok := (ok.n1).frzB (l := (longN (pl[i].bl) ((pl[i].bl.length * by0) / 255))) rfl
          refine .c' 105 .func (do_ret (E := (fun j => X2 j ∨ blkC (sv (ya1, (longN (pl[i].bl) ((pl[i].bl.length * by0) / 255)).length, yc1)) j)) (xk := pl[i].kind) (xp := pl[i].pos) (xn := pl[i].n) (xl := (longN (pl[i].bl) ((pl[i].bl.length * by0) / 255))) (xa := ya1) (xc := yc1) ((ok.r3).mono (fun _ h => .inl h)) ((ok.r0).mono (fun _ h => .inr h) (fun _ f => f.elim)) (by omega) (nowb_of hfb2) hkfit) ?_
          rintro _ η12 ⟨adx1, cdx1, ldx1, rfl, hddx1, hxdx1, rddx1⟩
          have hsz0 := ok.chg.size
          have ok := ok.or (r := flwI X2 (fa2, fl2.length, fc2) fl2) (r' := rdI (blkC (sv (ya1, (longN (pl[i].bl) ((pl[i].bl.length * by0) / 255)).length, yc1))) none_ (ya1, (longN (pl[i].bl) ((pl[i].bl.length * by0) / 255)).length, yc1) (longN (pl[i].bl) ((pl[i].bl.length * by0) / 255))) (by simp) (by simp) (flwI (fun j => X2 j ∨ blkC (sv (ya1, (longN (pl[i].bl) ((pl[i].bl.length * by0) / 255)).length, yc1)) j) (fa2, fl2.length, fc2) fl2) ((ok.r3).mono (fun _ h => .inl h)) (fun j hj => hj.imp id .inl)
          have ok := ok.grow hxdx1 (r := flwI (fun j => X2 j ∨ blkC (sv (ya1, (longN (pl[i].bl) ((pl[i].bl.length * by0) / 255)).length, yc1)) j) (fa2, fl2.length, fc2) fl2) (by simp) (flwI (fun j => (fun j => X2 j ∨ blkC (sv (ya1, (longN (pl[i].bl) ((pl[i].bl.length * by0) / 255)).length, yc1)) j) j ∨ Nw η11 η12 j) (adx1, ldx1.length, cdx1) ldx1) rddx1 (fun j hj => hj)
          have hX3 : ∀ j, (fun j => (fun j => X2 j ∨ blkC (sv (ya1, (longN (pl[i].bl) ((pl[i].bl.length * by0) / 255)).length, yc1)) j) j ∨ Nw η11 η12 j) j → E j ∨ h.size ≤ j := fun j hj => by rcases hj with (h9 | h9) | h9; exact hX2 j h9; exact .inr (hfx j h9).1; exact .inr (Nat.le_trans hsz0 h9.1)
          refine .w 5 .asS <| .nil ?_
          refine .end <| hK5 _ _ <| .r <| .w 58 .mvI <| .w 59 (.addI (b := 1)) <| .w 11 .asI <| .nil ?_
          refine .end <| hJ2 _ _ _ ⟨i + 1, ks2.tail, ka3, kc3, adx1, cdx1, ldx1, (fun j => (fun j => X2 j ∨ blkC (sv (ya1, (longN (pl[i].bl) ((pl[i].bl.length * by0) / 255)).length, yc1)) j) j ∨ Nw η11 η12 j), ⟨rfl, rfl, rfl, rfl, rfl, rfl, rfl, rfl, trivial⟩, (ok.n2.n2).k2.f6.f1.f5.e3, by omega, hp2.go (by rw [List.length_map]; exact hil) (by rw [pabs hil]; exact hcn4) hne hby0 (by rw [pabs hil]; rw [if_pos ⟨by omega, by first | exact .inl (show pl[i].kind = 0 by omega) | exact .inr (by omega)⟩]; exact hddx1), by have h9 := congrArg List.length hddx1; rw [List.length_map] at h9; have h10 := doW_len (l := fl2.map RWF.abs) (c := keW pl[i].abs by0); rw [List.length_map] at h10; unfold keW at h10; simp only [RWC.abs] at h10; omega, by rw [hddx1]; exact doW_b hfb2 hkfit, hX3, rfl⟩ (by omega)
        refine .w 99 .mvI <| .w 100 .geq <| .w 101 .pkf <| .w 102 .pkt <| .nil ?_
        refine .cd (fun C6 => ?_) (fun C6 => ?_)
        · --
          refine .r <| .w 103 .mvS <| .w 104 (.ldb T.ag152 ok.m0 T.sz152) <| ?_
          have hfx := (ok.n1).fresh
          have ok := (ok.n1).frzB (l := (longN (pl[i].bl) ((pl[i].bl.length * by0) / 255))) rfl
          refine .c' 105 .func (do_ret (E := (fun j => X2 j ∨ blkC (sv (ya1, (longN (pl[i].bl) ((pl[i].bl.length * by0) / 255)).length, yc1)) j)) (xk := pl[i].kind) (xp := pl[i].pos) (xn := pl[i].n) (xl := (longN (pl[i].bl) ((pl[i].bl.length * by0) / 255))) (xa := ya1) (xc := yc1) ((ok.r3).mono (fun _ h => .inl h)) ((ok.r0).mono (fun _ h => .inr h) (fun _ f => f.elim)) (by omega) (nowb_of hfb2) hkfit) ?_
          rintro _ η13 ⟨adx2, cdx2, ldx2, rfl, hddx2, hxdx2, rddx2⟩
          have hsz0 := ok.chg.size
          have ok := ok.or (r := flwI X2 (fa2, fl2.length, fc2) fl2) (r' := rdI (blkC (sv (ya1, (longN (pl[i].bl) ((pl[i].bl.length * by0) / 255)).length, yc1))) none_ (ya1, (longN (pl[i].bl) ((pl[i].bl.length * by0) / 255)).length, yc1) (longN (pl[i].bl) ((pl[i].bl.length * by0) / 255))) (by simp) (by simp) (flwI (fun j => X2 j ∨ blkC (sv (ya1, (longN (pl[i].bl) ((pl[i].bl.length * by0) / 255)).length, yc1)) j) (fa2, fl2.length, fc2) fl2) ((ok.r3).mono (fun _ h => .inl h)) (fun j hj => hj.imp id .inl)
          have ok := ok.grow hxdx2 (r := flwI (fun j => X2 j ∨ blkC (sv (ya1, (longN (pl[i].bl) ((pl[i].bl.length * by0) / 255)).length, yc1)) j) (fa2, fl2.length, fc2) fl2) (by simp) (flwI (fun j => (fun j => X2 j ∨ blkC (sv (ya1, (longN (pl[i].bl) ((pl[i].bl.length * by0) / 255)).length, yc1)) j) j ∨ Nw η11 η13 j) (adx2, ldx2.length, cdx2) ldx2) rddx2 (fun j hj => hj)
          have hX3 : ∀ j, (fun j => (fun j => X2 j ∨ blkC (sv (ya1, (longN (pl[i].bl) ((pl[i].bl.length * by0) / 255)).length, yc1)) j) j ∨ Nw η11 η13 j) j → E j ∨ h.size ≤ j := fun j hj => by rcases hj with (h9 | h9) | h9; exact hX2 j h9; exact .inr (hfx j h9).1; exact .inr (Nat.le_trans hsz0 h9.1)
          refine .w 5 .asS <| .nil ?_
          refine .end <| hK5 _ _ <| .r <| .w 58 .mvI <| .w 59 (.addI (b := 1)) <| .w 11 .asI <| .nil ?_
          refine .end <| hJ2 _ _ _ ⟨i + 1, ks2.tail, ka3, kc3, adx2, cdx2, ldx2, (fun j => (fun j => X2 j ∨ blkC (sv (ya1, (longN (pl[i].bl) ((pl[i].bl.length * by0) / 255)).length, yc1)) j) j ∨ Nw η11 η13 j), ⟨rfl, rfl, rfl, rfl, rfl, rfl, rfl, rfl, trivial⟩, (ok.n2.n2).k2.f6.f1.f5.e3, by omega, hp2.go (by rw [List.length_map]; exact hil) (by rw [pabs hil]; exact hcn4) hne hby0 (by rw [pabs hil]; rw [if_pos ⟨by omega, by first | exact .inl (show pl[i].kind = 0 by omega) | exact .inr (by omega)⟩]; exact hddx2), by have h9 := congrArg List.length hddx2; rw [List.length_map] at h9; have h10 := doW_len (l := fl2.map RWF.abs) (c := keW pl[i].abs by0); rw [List.length_map] at h10; unfold keW at h10; simp only [RWC.abs] at h10; omega, by rw [hddx2]; exact doW_b hfb2 hkfit, hX3, rfl⟩ (by omega)
        refine .skip <| .end <| hK5 _ _ <| .r <| .w 58 .mvI <| .w 59 (.addI (b := 1)) <| .w 11 .asI <| .nil ?_
        refine .end <| hJ2 _ _ _ ⟨i + 1, ks2.tail, ka3, kc3, fa2, fc2, fl2, X2, ⟨rfl, rfl, rfl, rfl, rfl, rfl, rfl, rfl, trivial⟩, (ok.n3.n3).k2.f3.f3.f3.e3, by omega, hp2.go (by rw [List.length_map]; exact hil) (by rw [pabs hil]; exact hcn4) hne hby0 (by rw [pabs hil]; exact (if_neg (by rintro ⟨h1, h2⟩; have h3 : pl[i].kind = 0 ∨ 128 ≤ by0 := h2; omega)).symm), by omega, hfb2, hX2, rfl⟩ (by omega)
      refine .x 95 <| .x 96 <| .x 97 <| .x 98 <| .x 99 <| .x 100 <| .x 101 <| .w 102 .pkf <| .nil ?_
      refine .cf <| .skip <| .end <| hK5 _ _ <| .r <| .w 58 .mvI <| .w 59 (.addI (b := 1)) <| .w 11 .asI <| .nil ?_
      refine .end <| hJ2 _ _ _ ⟨i + 1, ks2.tail, ka3, kc3, fa2, fc2, fl2, X2, ⟨rfl, rfl, rfl, rfl, rfl, rfl, rfl, rfl, trivial⟩, (ok.n3.n3).k2.f3.f3.f3.e3, by omega, hp2.go (by rw [List.length_map]; exact hil) (by rw [pabs hil]; exact hcn4) hne hby0 (by rw [pabs hil]; exact (if_neg (by rintro ⟨h1, h2⟩; have h3 : pl[i].kind = 0 ∨ 128 ≤ by0 := h2; omega)).symm), by omega, hfb2, hX2, rfl⟩ (by omega)
    refine .x 55 <| .x 56 <| .w 57 .pkf <| .nil ?_
    refine .cf <| .exit <| hK4 _ _ <| .seq <| .r <| .w 106 .mvT <| .w 107 .tNeB <| .nil ?_
    refine .cd (fun C7 => ?_) (fun C7 => ?_)
    · --
      have hne : nx ≠ [] := by assumption
      refine .r <| .w 108 .mvT <| .w 6 .asT <| .nil ?_
      refine .end <| hK1 _ _ <| .r <| .w 21 .mvI <| .w 22 (.addI (b := 1)) <| .w 7 .asI <| .nil ?_
      refine .end <| hJ0 _ _ _ ⟨n + 1, nx, ks2, ka2, kc2, fa2, fc2, fl2, X2, ⟨rfl, rfl, rfl, rfl, rfl, rfl, trivial⟩, (ok.n1.n1).k2.f2.f2.f2, by omega, by rw [hcr, show pl.length - n = (pl.length - (n + 1)) + 1 by omega]; exact crW_go hnx2 hne (hp2.out (by first | (rw [List.length_map]; omega) | exact absurd hne (by assumption))), by omega, hfb2, hX2, rfl⟩ (by omega)
    have hne : nx = [] := by simpa using C7
    refine .skip <| .end <| hK1 _ _ <| .r <| .w 21 .mvI <| .w 22 (.addI (b := 1)) <| .w 7 .asI <| .nil ?_
    refine .end <| hJ0 _ _ _ ⟨n + 1, nm, ks2, ka2, kc2, fa2, fc2, fl2, X2, ⟨rfl, rfl, rfl, rfl, rfl, rfl, trivial⟩, (ok.n1.n1).k2.f2.f2.f2, by omega, by rw [hcr, show pl.length - n = (pl.length - (n + 1)) + 1 by omega]; exact (by obtain ⟨e1, e2⟩ := hp2.no hne; rw [e1, e2]; exact crW_no (hnx2.trans hne)), by omega, hfb2, hX2, rfl⟩ (by omega)
  have hil : i < pl.length := by omega
  refine .skip <| .seq <| .block fun K3 hK3 => .seq <| .r <| .w 30 (.fa T.fd69_2) <| .w 31 (.ldx T.ag67 ok.m1) <| .w 32 .mvI <| ?_
  obtain ⟨bb3, oo3, rfl, fb3⟩ := ok.r2.pos (by omega)
  refine .w 33 (.ix i T.el67 T.sz152) <| .w 34 (.fa T.fd152_2) <| .w 35 (.ld T.ag9 (sl_at RWC.cells_len (ok.r2).sl (i := i) (j := 2) (by omega) rfl)) <| .w 10 .asT <| .nil ?_
  refine .seq <| .r <| .w 36 .mvT <| .w 37 .mvT <| .w 38 .tGtB <| .w 39 .mvB <| .sd (fun G39 => ?_) (fun G39 => ?_)
  ·
    refine .w 40 .mvT <| .w 41 .tEqB <| .w 42 .mvB <| .sd (fun G42 => ?_) (fun G42 => ?_)
    ·
      refine .x 43 <| .x 44 <| .x 45 <| .w 46 .pkt <| .w 47 .pkt <| .nil ?_
      refine .ct <| .r <| .w 48 .mvT <| .w 8 .asT <| .nil ?_
      refine .end <| hK3 _ _ <| .r <| .w 28 .mvI <| .w 29 (.addI (b := 1)) <| .w 9 .asI <| .nil ?_
      refine .end <| hJ1 _ _ _ ⟨i + 1, pl[i].n, ⟨rfl, rfl, rfl, rfl, rfl, rfl, rfl, rfl, trivial⟩, ok, by omega, by rw [nxL_take (by rw [List.length_map]; exact hil), pabs hil, ← hnx]; unfold nxS; exact (if_pos ⟨by assumption, by first | exact .inl (by assumption) | exact .inr (by assumption)⟩).symm, rfl⟩ (by omega)
    refine .w 43 .mvT <| .w 44 .mvT <| .w 45 .tLtB <| .w 46 .pkf <| .w 47 .pkt <| .nil ?_
    refine .cd (fun C2 => ?_) (fun C2 => ?_)
    · --
      refine .r <| .w 48 .mvT <| .w 8 .asT <| .nil ?_
      refine .end <| hK3 _ _ <| .r <| .w 28 .mvI <| .w 29 (.addI (b := 1)) <| .w 9 .asI <| .nil ?_
      refine .end <| hJ1 _ _ _ ⟨i + 1, pl[i].n, ⟨rfl, rfl, rfl, rfl, rfl, rfl, rfl, rfl, trivial⟩, ok, by omega, by rw [nxL_take (by rw [List.length_map]; exact hil), pabs hil, ← hnx]; unfold nxS; exact (if_pos ⟨by assumption, by first | exact .inl (by assumption) | exact .inr (by assumption)⟩).symm, rfl⟩ (by omega)
    refine .skip <| .end <| hK3 _ _ <| .r <| .w 28 .mvI <| .w 29 (.addI (b := 1)) <| .w 9 .asI <| .nil ?_
    refine .end <| hJ1 _ _ _ ⟨i + 1, nx, ⟨rfl, rfl, rfl, rfl, rfl, rfl, rfl, rfl, trivial⟩, ok, by omega, by rw [nxL_take (by rw [List.length_map]; exact hil), pabs hil, ← hnx]; unfold nxS; exact (if_neg (by rintro ⟨h1, h2⟩; first | exact absurd h1 (List.not_lt.2 (by assumption)) | (rcases h2 with h2 | h2; exact absurd h2 (by assumption); exact absurd h2 (List.not_lt.2 (by assumption))))).symm, rfl⟩ (by omega)
  refine .x 40 <| .x 41 <| .x 42 <| .x 43 <| .x 44 <| .x 45 <| .x 46 <| .w 47 .pkf <| .nil ?_
  refine .cf <| .skip <| .end <| hK3 _ _ <| .r <| .w 28 .mvI <| .w 29 (.addI (b := 1)) <| .w 9 .asI <| .nil ?_
  refine .end <| hJ1 _ _ _ ⟨i + 1, nx, ⟨rfl, rfl, rfl, rfl, rfl, rfl, rfl, rfl, trivial⟩, ok, by omega, by rw [nxL_take (by rw [List.length_map]; exact hil), pabs hil, ← hnx]; unfold nxS; exact (if_neg (by rintro ⟨h1, h2⟩; first | exact absurd h1 (List.not_lt.2 (by assumption)) | (rcases h2 with h2 | h2; exact absurd h2 (by assumption); exact absurd h2 (List.not_lt.2 (by assumption))))).symm, rfl⟩ (by omega)

end Go.Proofs.Ytpebbkhainpfaaa
