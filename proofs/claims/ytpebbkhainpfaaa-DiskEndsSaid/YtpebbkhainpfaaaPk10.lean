/- The document's disk: do. Conditions: the files are readable and few, the change is in order. The document's disk: New, wrong, count, change. Conditions: the state is readable and in order, the change is. The document's disk: Write, Truncate, Remove, Read, Size, Files, Cut, New. Conditions: the state is readable and in order. -/
import Derived.Test.YtpebbkhainpfaaaPk9
namespace Go.Proofs.Ytpebbkhainpfaaa
open Go Go.HL
def FRet (h : Heap) (E : Nat → Prop) (L : List WF) (v : Value) (h' : Heap) : Prop := ∃ a c l, v = .slice a l.length c ∧ l.map RWF.abs = L ∧ Ext h h' ∧ RwB 2 RWF.cells RWF.sb h' (fun j => E j ∨ Nw h h' j) (a, l.length, c) l
section
variable {h h' : Heap} {E : Nat → Prop} {M R : List Itm} {a a' : Option Addr} {c n' c' : Nat} {l L : List RWF} {f : RWF} {LW : List WF}
theorem do_fin (hl : RwB 2 RWF.cells RWF.sb h E (a, l.length, c) l) (hL : ∀ y ∈ L, y = f ∨ y ∈ l) (hw : L.map RWF.abs = LW) (ok : Hp h none_ (capI 2 86 (a', n', c') (L.flatMap RWF.cells) :: capI 1 5 (f.ba, f.bl.length, f.bc) (f.bl.map bv) :: M) R h') : FRet h E LW (.slice a' n' c') h' := by
  have hx : Ext h h' := ok.chg
  have hn : L.length = n' := (Sl.sz (Cap.sl ok.m0) RWF.cells_len (by decide)).1
  subst hn
  refine ⟨a', c', L, rfl, hw, hx, RwB.ofCap (by decide) RWF.cells_len ok.m0 (fun j hj => .inr (ok.fresh j hj)) fun y hy => ?_⟩
  rcases hL y hy with rfl | hy
  · exact (RdL.of_cap1 (f := bv) (E := fun j => E j ∨ Nw h h' j) (l := y.bl) rfl (fun _ _ _ => rfl) ok.m1).mono (fun j hj => .inr (ok.n1.fresh j hj)) (fun _ h => h)
  · exact ((hl.by' y hy).ext hx).mono (fun _ h => .inl h) (fun _ h => .inl h)
theorem do_fin0 (hl : RwB 2 RWF.cells RWF.sb h E (a, l.length, c) l) (hL : ∀ y ∈ L, y ∈ l) (hw : L.map RWF.abs = LW) (ok : Hp h none_ (capI 2 86 (a', n', c') (L.flatMap RWF.cells) :: M) R h') : FRet h E LW (.slice a' n' c') h' := by
  have hx : Ext h h' := ok.chg
  have hn : L.length = n' := (Sl.sz (Cap.sl ok.m0) RWF.cells_len (by decide)).1
  subst hn
  exact ⟨a', c', L, rfl, hw, hx, RwB.ofCap (by decide) RWF.cells_len ok.m0 (fun j hj => .inr (ok.fresh j hj)) fun y hy => ((hl.by' y (hL y hy)).ext hx).mono (fun _ h => .inl h) (fun _ h => .inl h)⟩
theorem RwB.ext {α : Type} {k : Nat} {f : α → List Value} {g : α → SB} {x : SV} {l : List α} (hx : Ext h h') (r : RwB k f g h E x l) : RwB k f g h' E x l := r.st hx (fun _ _ f => f)
theorem do_same (hl : RwB 2 RWF.cells RWF.sb h E (a, l.length, c) l) (hw : l.map RWF.abs = LW) (hx : Ext h h') : FRet h E LW (.slice a l.length c) h' := ⟨a, c, l, rfl, hw, hx, (hl.ext hx).mono fun _ h => .inl h⟩
theorem fd_some {k : Nat} (hk : k < l.length) {n : List UInt8} (h1 : l[k].n = n) (h2 : ∀ j (hj : j < l.length), j < k → l[j].n ≠ n) : (l.map RWF.abs).find? (fun f => decide (f.n = n)) = some l[k].abs := by
  induction l generalizing k with
  | nil => cases hk
  | cons x l ih =>
    cases k with
    | zero => rw [List.map_cons, List.find?_cons_of_pos]; rfl; exact decide_eq_true h1
    | succ k =>
      have h3 := h2 0 (by simp) (by omega)
      rw [List.map_cons, List.find?_cons_of_neg (p := fun f : WF => decide (f.n = n)) (a := x.abs) (ne_true_of_eq_false (decide_eq_false h3))]
      exact ih (k := k) (by simpa using hk) h1 fun j hj hjk => h2 (j + 1) (by simpa using hj) (by omega)
theorem fd_none {n : List UInt8} (h2 : ∀ j (hj : j < l.length), l[j].n ≠ n) : (l.map RWF.abs).find? (fun f => decide (f.n = n)) = none := by
  rw [List.find?_eq_none]
  intro x hx
  obtain ⟨y, hy, rfl⟩ := List.mem_map.1 hx
  obtain ⟨j, hj, rfl⟩ := List.mem_iff_getElem.1 hy
  exact ne_true_of_eq_false (decide_eq_false (h2 j hj))
variable {x : WC}
theorem doW_n (h1 : (l.map RWF.abs).find? (fun f => decide (f.n = x.n)) = none) (h2 : 0 < x.kind) : l.map RWF.abs = doW (l.map RWF.abs) x := by unfold doW; rw [h1]; simp only; rw [if_pos h2]
theorem doW_n0 (h1 : (l.map RWF.abs).find? (fun f => decide (f.n = x.n)) = none) (h2 : x.kind = 0) {y : RWF} (hy : y.abs = ⟨x.n, newB x []⟩) : (withL RWF.n y l).map RWF.abs = doW (l.map RWF.abs) x := by unfold doW; rw [h1]; simp only; rw [if_neg (by omega), ← hy]; exact withL_map RWF.n WF.n RWF.abs (fun _ => rfl) y l
theorem doW_0 {f : WF} (h1 : (l.map RWF.abs).find? (fun f => decide (f.n = x.n)) = some f) (h2 : x.kind = 0) {y : RWF} (hy : y.abs = ⟨x.n, newB x f.b⟩) : (withL RWF.n y l).map RWF.abs = doW (l.map RWF.abs) x := by unfold doW; rw [h1]; simp only; rw [if_pos h2, ← hy]; exact withL_map RWF.n WF.n RWF.abs (fun _ => rfl) y l
theorem doW_1 {f : WF} (h1 : (l.map RWF.abs).find? (fun f => decide (f.n = x.n)) = some f) (h2 : x.kind = 1) {y : RWF} (hy : y.abs = ⟨x.n, longN f.b x.pos⟩) : (withL RWF.n y l).map RWF.abs = doW (l.map RWF.abs) x := by unfold doW; rw [h1]; simp only; rw [if_neg (by omega), if_pos h2, ← hy]; exact withL_map RWF.n WF.n RWF.abs (fun _ => rfl) y l
theorem doW_2 {f : WF} (h1 : (l.map RWF.abs).find? (fun f => decide (f.n = x.n)) = some f) (h2 : x.kind ≠ 0) (h3 : x.kind ≠ 1) : (withoutL RWF.n l x.n).map RWF.abs = doW (l.map RWF.abs) x := by unfold doW; rw [h1]; simp only; rw [if_neg h2, if_neg h3]; exact withoutL_map RWF.n WF.n RWF.abs (fun _ => rfl) l x.n
end
theorem set_patch {o b : List UInt8} {p k : Nat} (h : p + b.length ≤ o.length) (hk : k < b.length) : ((o.take p ++ b.take k ++ o.drop (p + k)).map bv).set (p + k) (.int .u8 (b[k].toNat : Int)) = (o.take p ++ b.take (k + 1) ++ o.drop (p + (k + 1))).map bv := by
  have h1 : (o.drop (p + k)) = o[p + k] :: o.drop (p + (k + 1)) := List.drop_eq_getElem_cons (by omega)
  rw [h1, List.map_append, List.map_cons, List.set_append_right _ _ (by simp; omega)]
  rw [show p + k - ((o.take p ++ b.take k).map bv).length = 0 by simp; omega, List.set_cons_zero, List.take_succ_eq_append_getElem hk]
  simp only [List.map_append, List.map_cons, List.map_nil, List.append_assoc, List.singleton_append]; rfl

set_option maxRecDepth 100000 in
set_option maxHeartbeats 2000000 in
theorem do_ret {h : Heap} {E : Nat → Prop} {a : Option Addr} {c : Nat} {l : List RWF} {xk xp : Nat} {xn xl : List UInt8} {xa : Option Addr} {xc : Nat} (hl : RwB 2 RWF.cells RWF.sb h E (a, l.length, c) l) (hx : RdL h E E (xa, xl.length, xc) xl) (hN : l.length ≤ 900000) (hfl : ∀ f ∈ l, f.bl.length ≤ 16777216) (hxp : xp + xl.length ≤ 16777216) : HC Try.prog 106 #[.slice a l.length c, .agg #[.int .i64 (xk : Int), .int .i64 (xp : Int), .string (BA xn), .slice xa xl.length xc]] h (fun v h' => FRet h E (doW (l.map RWF.abs) (⟨xk, xp, xn, xl⟩ : WC)) v h') := by
  have hc2 := hl.m
  have hxc := hx.c
  have hxm := hx.m
  simp only at hxc hxm
  have ok := (Hp.nil h none_).old (flwI (fun j => E j ∧ j < h.size) (a, l.length, c) l) (hl.lt (by decide)) (fun j hj => hj.2)
  have ok := ok.old (rdI (fun j => E j ∧ j < h.size) (fun j => E j ∧ j < h.size) (xa, xl.length, xc) xl) hx.lt (fun j hj => hj.elim (·.2) (·.2))
  refine HC.go Try.func106 77 ?_
  refine .seq <| .r <| .a' 3 (.bxA (cs := [.int .i64 (xk : Int), .int .i64 (xp : Int), .string (BA xn), .slice xa xl.length xc]) ok) ?_
  rintro _ η1 ⟨pb1, rfl, ok, xe⟩
  refine .w 4 .asS <| .nil ?_
  refine .seq <| .r <| .w 8 .mvS <| .w 9 (.fa T.fd152_2) <| .w 10 (.ldx T.ag9 ok.m0) <| .c' 11 .func (find_any (a := a) (c := c) (l := l) (n := xn) ok.r1) ?_
  rintro _ _ ⟨_, rfl, (⟨k1, hkk1, rfl, hnk1, hmk1⟩ | ⟨rfl, hmk1⟩), heq⟩
  · --
    obtain rfl := heq.symm
    have hfd := fd_some hkk1 hnk1 hmk1
    refine .w 5 .asI <| .nil ?_
    refine .seq <| .r <| .w 6 .asS <| .nil ?_
    refine .seq <| .seq <| .r <| .w 12 .mvI <| .w 13 .geq <| .nil ?_
    refine .cd (fun C0 => ?_) (fun C0 => ?_)
    · --
      have hfb := hfl _ (List.getElem_mem hkk1)
      refine .r <| .w 14 .mvS <| .w 15 .mvI <| ?_
      obtain ⟨bb1, oo1, rfl, fb1⟩ := ok.r1.pos (by omega)
      refine .w 16 (.ix k1 T.el66 T.sz86) <| .w 17 (.fa T.fd86_1) <| .w 18 (.ld T.ag22 (sl_at RWF.cells_len (ok.r1).sl (i := k1) (j := 1) (by omega) rfl)) <| ?_
      have ok := ok.d1 (rdI (fun j => E j ∧ j < h.size) (fun j => E j ∧ j < h.size) (l[k1].ba, l[k1].bl.length, l[k1].bc) l[k1].bl) ((ok.r1).by' _ (List.getElem_mem hkk1)) (fun _ h => h.elim id id)
      refine .w 6 .asS <| .nil ?_
      refine .seq <| .seq <| .r <| .w 23 (.fa T.fd152_0) <| .w 24 (.ldx T.ag3 ok.m0) <| .nil ?_
      refine .block fun K0 hK0 => .seq <| .r <| .w 26 .eql <| .w 25 .asB <| .nil ?_
      refine .cd (fun C2 => ?_) (fun C2 => ?_)
      · --
        refine .seq <| ?_
        have hxk : xk = 0 := by omega
        refine .r <| .w 27 .mvS <| .w 28 .mvS <| .w 29 (.len T.el22) <| .w 30 (.fa T.fd152_1) <| .w 31 (.ldx T.ag3 ok.m0) <| .w 32 (.fa T.fd152_3) <| .w 33 (.ldx T.ag22 ok.m0) <| .w 34 (.len T.el22) <| .w 35 .addI <| .w 36 .maxn <| .c' 37 .func (rlong_any (a := l[k1].ba) (c := l[k1].bc) (l := l[k1].bl) (n := (max l[k1].bl.length (xp + xl.length))) ok.r0 (by omega)) ?_
        rintro _ η2 own
        obtain ⟨ya1, yc1, rfl⟩ := own.formB
        have ok := ok.own own
        refine .w 6 .asS <| .nil ?_
        refine .seq <| .seq <| .r <| .w 7 .asI <| .nil ?_
        refine .block fun K1 hK1 => .loop (fun m s hh => ∃ (i : Nat), Has s [(0, .slice (some ⟨bb1, oo1, none⟩) l.length c), (3, .pointer (some ⟨pb1, 0, none⟩)), (6, .slice ya1 ((longN (l[k1].bl) (max l[k1].bl.length (xp + xl.length))).length) yc1), (7, .int .i64 (i : Int))] ∧ Hp h none_ [capI 1 5 (ya1, (longN (l[k1].bl) (max l[k1].bl.length (xp + xl.length))).length, yc1) (((longN l[k1].bl (max l[k1].bl.length (xp + xl.length))).take xp ++ xl.take i ++ (longN l[k1].bl (max l[k1].bl.length (xp + xl.length))).drop (xp + i)).map bv), boxI pb1 152 [.int .i64 (xk : Int), .int .i64 (xp : Int), .string (BA xn), .slice xa xl.length xc]] [rdI (fun j => E j ∧ j < h.size) (fun j => E j ∧ j < h.size) (l[k1].ba, l[k1].bl.length, l[k1].bc) (l[k1].bl), rdI (fun j => E j ∧ j < h.size) (fun j => E j ∧ j < h.size) (xa, xl.length, xc) xl, flwI (fun j => E j ∧ j < h.size) (some ⟨bb1, oo1, none⟩, l.length, c) l] hh ∧ i ≤ xl.length ∧ m = xl.length - i) ?_ ?_
        · exact ⟨_, 0, ⟨rfl, rfl, rfl, rfl, trivial⟩, ((ok).cx (ys := (((longN l[k1].bl (max l[k1].bl.length (xp + xl.length))).take xp ++ xl.take 0 ++ (longN l[k1].bl (max l[k1].bl.length (xp + xl.length))).drop (xp + 0))).map bv) (by simp)), Nat.zero_le _, rfl⟩
        rintro _ _ η3 ⟨i, hs, ok, hi, rfl⟩ J0 hJ0
        refine .frame hs fun τ => ?_
        refine .seq <| .seq <| .r <| .w 38 .mvI <| .w 39 (.fa T.fd152_3) <| .w 40 (.ldx T.ag22 ok.m1) <| .w 41 (.len T.el22) <| .w 42 .lss <| .nil ?_
        refine .cdr (fun C3 => ?_) (fun C3 => ?_)
        · --
          refine .exit <| hK1 _ _ <| .seq <| ?_
          have hie : i = xl.length := by omega
          have hnl : (newB (⟨xk, xp, xn, xl⟩ : WC) (l[k1].bl)).length = (longN l[k1].bl (max l[k1].bl.length (xp + xl.length))).length := by unfold newB; exact patchN_len (by rw [longN_len]; first | omega | (simp only [List.length_nil]; omega))
          have ok := (ok).cx (ys := (newB (⟨xk, xp, xn, xl⟩ : WC) (l[k1].bl)).map bv) (by rw [hie, List.take_length]; rfl)
          rw [← hnl] at ok
          rw [← hnl]
          refine .r <| .w 56 .mvS <| .w 57 (.fa T.fd152_2) <| .w 58 (.ldx T.ag9 ok.m1) <| .w 59 .mvS <| .w 60 (.bd #[.string (BA xn), .slice ya1 ((newB (⟨xk, xp, xn, xl⟩ : WC) (l[k1].bl)).length) yc1] T.zr86 T.pl86 rfl) <| .c' 61 .func (with_any (a := some ⟨bb1, oo1, none⟩) (c := c) (l := l) ok.r2 (by omega) (f := ⟨xn, ya1, yc1, (newB (⟨xk, xp, xn, xl⟩ : WC) (l[k1].bl))⟩)) ?_
          rintro _ η4 own
          obtain ⟨ya2, yn1, yc2, rfl⟩ := own.form3
          have ok := ok.own own
          refine .w 4 .asS <| .nil ?_
          refine .ret ⟨.slice ya2 yn1 yc2, Res.one rfl rfl, (do_fin (f := ⟨xn, ya1, yc1, (newB (⟨xk, xp, xn, xl⟩ : WC) (l[k1].bl))⟩) hl (fun y hy => withL_mem _ _ hy) (doW_0 (x := ⟨xk, xp, xn, xl⟩) hfd hxk rfl) (ok.n1.n1))⟩
        have hix : i < xl.length := by omega
        have hnb := longN_len l[k1].bl (max l[k1].bl.length (xp + xl.length))
        refine .skip <| .seq <| .block fun K2 hK2 => .t 11 mixed ?_
        simp only [List.take_succ_cons, List.take_zero, List.drop_succ_cons, List.drop_zero]
        refine .w 45 .mvS <| .w 46 (.fa T.fd152_1) <| .w 47 (.ldx T.ag3 ok.m1) <| .w 48 .mvI <| .w 49 .addI <| .w 50 (.fa T.fd152_3) <| .w 51 (.ldx T.ag22 ok.m1) <| .w 52 .mvI <| ?_
        obtain ⟨bb2, oo2, rfl, fb2⟩ := ok.r1.pos (by omega)
        refine .w 53 (.ix1 i T.el22 T.sz5) <| .w 54 (.ld T.ag5 (ok.r1.u8 (i := i) (by omega))) <| ?_
        obtain ⟨bb3, oo3, rfl, fb3⟩ := ok.m0.pos (n := (longN (l[k1].bl) (max l[k1].bl.length (xp + xl.length))).length) (by omega)
        refine .w 55 (.ix1 (xp + i) T.el22 T.sz5) <| .nil ?_
        refine .ur' (.sxI (q := (xp + i)) T.sz5 ok (hq := by simp only [List.length_map, List.length_append, List.length_take, List.length_drop, longN_len]; omega)) ?_
        rintro η5 ⟨ok, cg⟩
        refine .nil ?_
        refine .end <| hK2 _ _ <| .r <| .w 43 .mvI <| .w 44 (.addI (b := 1)) <| .w 7 .asI <| .nil ?_
        refine .end <| hJ0 _ _ _ ⟨i + 1, ⟨rfl, rfl, rfl, rfl, trivial⟩, ((ok).cx (set_patch (by rw [longN_len]; omega) hix)), by omega, rfl⟩ (by omega)
      refine .seq <| .r <| .w 63 .eql <| .w 62 .asB <| .nil ?_
      refine .cd (fun C4 => ?_) (fun C4 => ?_)
      · --
        refine .seq <| .a 10 (fun fl hh => Hp h none_ [boxI pb1 152 [.int .i64 (xk : Int), .int .i64 (xp : Int), .string (BA xn), .slice xa xl.length xc]] [rdI (fun j => E j ∧ j < h.size) (fun j => E j ∧ j < h.size) (l[k1].ba, l[k1].bl.length, l[k1].bc) (l[k1].bl), rdI (fun j => E j ∧ j < h.size) (fun j => E j ∧ j < h.size) (xa, xl.length, xc) xl, flwI (fun j => E j ∧ j < h.size) (some ⟨bb1, oo1, none⟩, l.length, c) l] hh) mixed ?_
        have hS := ok
        refine .g 0 false rfl 64 hS (fun _ => .mvS) <| .g 1 false rfl 65 hS (fun _ => .fa T.fd152_2) <| .lw 2 false rfl 66 hS (fun _ _ hS => .ldx T.ag9 hS.m0) <| .g 3 false rfl 67 hS (fun _ => .mvS) <| .g 4 false rfl 68 hS (fun _ => .fa T.fd152_1) <| .lw 5 false rfl 69 hS (fun _ _ hS => .ldx T.ag3 hS.m0) <| .o1 6 <| .c' false rfl 70 .func (rlong_any (a := l[k1].ba) (c := l[k1].bc) (l := l[k1].bl) (n := xp) ok.r0 (by omega)) ?_
        rintro _ η6 own
        obtain ⟨ya3, yc3, rfl⟩ := own.formB
        have ok := ok.own own
        refine ⟨ok.n1.k1, ?_⟩
        have hS := ok.n1.k1
        refine .g 7 false rfl 71 hS (fun _ => .bd #[.string (BA xn), .slice ya3 ((longN (l[k1].bl) xp).length) yc3] T.zr86 T.pl86 rfl) <| .o1 8 <| .c' false rfl 72 .func (with_any (a := some ⟨bb1, oo1, none⟩) (c := c) (l := l) ok.r2 (by omega) (f := ⟨xn, ya3, yc3, (longN (l[k1].bl) xp)⟩)) ?_
        rintro _ η7 own
        obtain ⟨ya4, yn2, yc4, rfl⟩ := own.form3
        have ok := ok.own own
        refine ⟨ok.n2.k1, ?_⟩
        have hS := ok.n2.k1
        refine .g 9 false rfl 4 hS (fun _ => .asS) <| .e ?_
        refine .ret ⟨.slice ya4 yn2 yc4, Res.one rfl rfl, (do_fin (f := ⟨xn, ya3, yc3, (longN (l[k1].bl) xp)⟩) hl (fun y hy => withL_mem _ _ hy) (doW_1 (x := ⟨xk, xp, xn, xl⟩) hfd (show xk = 1 by omega) rfl) (ok.n1.n1))⟩
      refine .skip <| .end <| hK0 _ _ <| .seq <| .r <| .w 73 .mvS <| .w 74 (.fa T.fd152_2) <| .w 75 (.ldx T.ag9 ok.m0) <| .c' 76 .func (without_any (a := some ⟨bb1, oo1, none⟩) (c := c) (l := l) ok.r2 (by omega) (n := xn)) ?_
      rintro _ η8 own
      obtain ⟨ya5, yn3, yc5, rfl⟩ := own.form3
      have ok := ok.own own
      refine .w 4 .asS <| .nil ?_
      refine .ret ⟨.slice ya5 yn3 yc5, Res.one rfl rfl, (do_fin0 hl (fun y hy => (List.mem_filter.1 hy).1) (doW_2 (x := ⟨xk, xp, xn, xl⟩) hfd (show xk ≠ 0 by omega) (show xk ≠ 1 by omega)) (ok))⟩
    omega
  obtain rfl := heq.symm
  have hfd := fd_none hmk1
  refine .w 5 .asI <| .nil ?_
  refine .seq <| .r <| .w 6 .asS <| .nil ?_
  refine .seq <| .seq <| .r <| .w 12 .mvI <| .w 13 .geq <| .nil ?_
  refine .cf <| .seq <| .r <| .w 19 (.fa T.fd152_0) <| .w 20 (.ldx T.ag3 ok.m0) <| .w 21 .gtr <| .nil ?_
  refine .cd (fun C1 => ?_) (fun C1 => ?_)
  · --
    refine .seq <| .r <| .w 22 .mvS <| .w 4 .asS <| .nil ?_
    refine .ret ⟨.slice a l.length c, Res.one rfl rfl, (do_same hl (doW_n (x := ⟨xk, xp, xn, xl⟩) hfd (show 0 < xk by omega)) ok.chg)⟩
  refine .skip <| .seq <| .seq <| .r <| .w 23 (.fa T.fd152_0) <| .w 24 (.ldx T.ag3 ok.m0) <| .nil ?_
  refine .block fun K0 hK0 => .seq <| .r <| .w 26 .eql <| .w 25 .asB <| .nil ?_
  refine .cd (fun C2 => ?_) (fun C2 => ?_)
  · --
    refine .seq <| ?_
    have hxk : xk = 0 := by omega
    refine .r <| .w 27 .mvS <| .w 28 .mvS <| .w 29 (.len T.el22) <| .w 30 (.fa T.fd152_1) <| .w 31 (.ldx T.ag3 ok.m0) <| .w 32 (.fa T.fd152_3) <| .w 33 (.ldx T.ag22 ok.m0) <| .w 34 (.len T.el22) <| .w 35 .addI <| .w 36 .maxn <| .c' 37 .func (rlong_any (a := none) (c := 0) (l := ([] : List UInt8)) (n := (max 0 (xp + xl.length))) (RdL.nil _ none_ none_) (by omega)) ?_
    rintro _ η9 own
    obtain ⟨ya6, yc6, rfl⟩ := own.formB
    have ok := ok.own own
    refine .w 6 .asS <| .nil ?_
    refine .seq <| .seq <| .r <| .w 7 .asI <| .nil ?_
    refine .block fun K1 hK1 => .loop (fun m s hh => ∃ (i : Nat), Has s [(0, .slice a l.length c), (3, .pointer (some ⟨pb1, 0, none⟩)), (6, .slice ya6 ((longN ([] : List UInt8) (max 0 (xp + xl.length))).length) yc6), (7, .int .i64 (i : Int))] ∧ Hp h none_ [capI 1 5 (ya6, (longN ([] : List UInt8) (max 0 (xp + xl.length))).length, yc6) (((longN ([] : List UInt8) (max 0 (xp + xl.length))).take xp ++ xl.take i ++ (longN ([] : List UInt8) (max 0 (xp + xl.length))).drop (xp + i)).map bv), boxI pb1 152 [.int .i64 (xk : Int), .int .i64 (xp : Int), .string (BA xn), .slice xa xl.length xc]] [rdI (fun j => E j ∧ j < h.size) (fun j => E j ∧ j < h.size) (xa, xl.length, xc) xl, flwI (fun j => E j ∧ j < h.size) (a, l.length, c) l] hh ∧ i ≤ xl.length ∧ m = xl.length - i) ?_ ?_
    · exact ⟨_, 0, ⟨rfl, rfl, rfl, rfl, trivial⟩, ((ok).cx (ys := (((longN ([] : List UInt8) (max 0 (xp + xl.length))).take xp ++ xl.take 0 ++ (longN ([] : List UInt8) (max 0 (xp + xl.length))).drop (xp + 0))).map bv) (by simp)), Nat.zero_le _, rfl⟩
    rintro _ _ η10 ⟨i, hs, ok, hi, rfl⟩ J0 hJ0
    refine .frame hs fun τ => ?_
    refine .seq <| .seq <| .r <| .w 38 .mvI <| .w 39 (.fa T.fd152_3) <| .w 40 (.ldx T.ag22 ok.m1) <| .w 41 (.len T.el22) <| .w 42 .lss <| .nil ?_
    refine .cdr (fun C3 => ?_) (fun C3 => ?_)
    · --
      refine .exit <| hK1 _ _ <| .seq <| ?_
      have hie : i = xl.length := by omega
      have hnl : (newB (⟨xk, xp, xn, xl⟩ : WC) ([] : List UInt8)).length = (longN ([] : List UInt8) (max 0 (xp + xl.length))).length := by unfold newB; exact patchN_len (by rw [longN_len]; first | omega | (simp only [List.length_nil]; omega))
      have ok := (ok).cx (ys := (newB (⟨xk, xp, xn, xl⟩ : WC) ([] : List UInt8)).map bv) (by rw [hie, List.take_length]; rfl)
      rw [← hnl] at ok
      rw [← hnl]
      refine .r <| .w 56 .mvS <| .w 57 (.fa T.fd152_2) <| .w 58 (.ldx T.ag9 ok.m1) <| .w 59 .mvS <| .w 60 (.bd #[.string (BA xn), .slice ya6 ((newB (⟨xk, xp, xn, xl⟩ : WC) ([] : List UInt8)).length) yc6] T.zr86 T.pl86 rfl) <| .c' 61 .func (with_any (a := a) (c := c) (l := l) ok.r1 (by omega) (f := ⟨xn, ya6, yc6, (newB (⟨xk, xp, xn, xl⟩ : WC) ([] : List UInt8))⟩)) ?_
      rintro _ η11 own
      obtain ⟨ya7, yn4, yc7, rfl⟩ := own.form3
      have ok := ok.own own
      refine .w 4 .asS <| .nil ?_
      refine .ret ⟨.slice ya7 yn4 yc7, Res.one rfl rfl, (do_fin (f := ⟨xn, ya6, yc6, (newB (⟨xk, xp, xn, xl⟩ : WC) ([] : List UInt8))⟩) hl (fun y hy => withL_mem _ _ hy) (doW_n0 (x := ⟨xk, xp, xn, xl⟩) hfd hxk rfl) (ok.n1.n1))⟩
    have hix : i < xl.length := by omega
    have hnb := longN_len ([] : List UInt8) (max 0 (xp + xl.length))
    refine .skip <| .seq <| .block fun K2 hK2 => .t 11 mixed ?_
    simp only [List.take_succ_cons, List.take_zero, List.drop_succ_cons, List.drop_zero]
    refine .w 45 .mvS <| .w 46 (.fa T.fd152_1) <| .w 47 (.ldx T.ag3 ok.m1) <| .w 48 .mvI <| .w 49 .addI <| .w 50 (.fa T.fd152_3) <| .w 51 (.ldx T.ag22 ok.m1) <| .w 52 .mvI <| ?_
    obtain ⟨bb4, oo4, rfl, fb4⟩ := ok.r0.pos (by omega)
    refine .w 53 (.ix1 i T.el22 T.sz5) <| .w 54 (.ld T.ag5 (ok.r0.u8 (i := i) (by omega))) <| ?_
    obtain ⟨bb5, oo5, rfl, fb5⟩ := ok.m0.pos (n := (longN ([] : List UInt8) (max 0 (xp + xl.length))).length) (by omega)
    refine .w 55 (.ix1 (xp + i) T.el22 T.sz5) <| .nil ?_
    refine .ur' (.sxI (q := (xp + i)) T.sz5 ok (hq := by simp only [List.length_map, List.length_append, List.length_take, List.length_drop, longN_len]; omega)) ?_
    rintro η12 ⟨ok, cg⟩
    refine .nil ?_
    refine .end <| hK2 _ _ <| .r <| .w 43 .mvI <| .w 44 (.addI (b := 1)) <| .w 7 .asI <| .nil ?_
    refine .end <| hJ0 _ _ _ ⟨i + 1, ⟨rfl, rfl, rfl, rfl, trivial⟩, ((ok).cx (set_patch (by rw [longN_len]; omega) hix)), by omega, rfl⟩ (by omega)
  omega

end Go.Proofs.Ytpebbkhainpfaaa

namespace Go.Proofs.Ytpebbkhainpfaaa
open Go Go.HL
def wrongW (gn : Bool) (n : List UInt8) (y z : Int) : Nat := if n.length < 1 ∨ 32 < n.length ∨ y < 0 ∨ z < 0 then 1 else if gn = true then 13 else 0
def countW (w : WD) : WD := if w.left = 0 then ⟨w.safe, w.now, w.pend, w.left, true, w.many⟩ else ⟨w.safe, w.now, w.pend, if 0 < w.left then w.left - 1 else w.left, w.gone, w.many + 1⟩
def countC (lf : Int) : Nat := if lf = 0 then 13 else 0
def changeW (w : WD) (c : WC) : WD × Nat := if w.left = 0 then (countW w, 13) else (⟨w.safe, doW w.now c, w.pend ++ [c], if 0 < w.left then w.left - 1 else w.left, w.gone, w.many + 1⟩, 0)
/-- A state in order. -/
structure WS (w : WD) : Prop where
  nowl : w.now.length ≤ 100000
  safel : w.safe.length ≤ 100000
  pendl : w.pend.length ≤ 300
  nowb : ∀ f ∈ w.now, f.b.length ≤ 16777216
  safeb : ∀ f ∈ w.safe, f.b.length ≤ 16777216
  pend : ∀ c ∈ w.pend, c.pos + c.b.length ≤ 16777216 ∧ c.kind ≤ 2
  many : 0 ≤ w.many ∧ w.many ≤ 1000000000
theorem RWC.one (l : List RWC) : ∀ u ∈ l.flatMap RWC.cells, u.oneCell' = true := fun u hu => by
  obtain ⟨x, _, hx⟩ := List.mem_flatMap.1 hu
  simp [RWC.cells] at hx
  rcases hx with rfl | rfl | rfl | rfl <;> rfl
theorem RWF.one (l : List RWF) : ∀ u ∈ l.flatMap RWF.cells, u.oneCell' = true := fun u hu => by
  obtain ⟨x, _, hx⟩ := List.mem_flatMap.1 hu
  simp [RWF.cells] at hx
  rcases hx with rfl | rfl <;> rfl
theorem WRet.to {h η h' : Heap} {E : Nat → Prop} {w : RW} (hx : Ext h η) (q : WRet η (fun j => E j ∧ j < h.size) w h') : WRet h E w h' :=
  ⟨hx.trans q.ext, q.rd.mono fun j hj => hj.imp (·.1) fun h => ⟨Nat.le_trans hx.size h.1, h.2⟩⟩
theorem changeW_0 {w : WD} {c : WC} (h : w.left = 0) : changeW w c = (countW w, 13) := if_pos h
theorem changeW_1 {w : WD} {c : WC} (h : ¬ w.left = 0) : changeW w c = (⟨w.safe, doW w.now c, w.pend ++ [c], if 0 < w.left then w.left - 1 else w.left, w.gone, w.many + 1⟩, 0) := if_neg h
theorem countW_0 {w : WD} (h : w.left = 0) : countW w = ⟨w.safe, w.now, w.pend, w.left, true, w.many⟩ := if_pos h
theorem ch_by {h : Heap} {E E0 E1 : Nat → Prop} {x : SV} {pl : List RWC} {c : RWC} (hp : RwB 4 RWC.cells RWC.sb h E0 x pl) (hx : RdL h E1 E1 (c.ba, c.bl.length, c.bc) c.bl) (h0 : ∀ j, E0 j → E j) (h1 : ∀ j, E1 j → E j) : ∀ y ∈ pl ++ [c], RdL h E E ((RWC.sb y).1, (RWC.sb y).2.2.length, (RWC.sb y).2.1) (RWC.sb y).2.2 := fun y hy => by
  rcases List.mem_append.1 hy with hy | hy
  · exact (hp.by' y hy).mono h0 h0
  · rw [List.mem_singleton.1 hy]; exact hx.mono h1 h1
theorem ew_to {E : Nat → Prop} {h η η' h' : Heap} (h0 : h.size ≤ η.size) (hl : ∀ j, ((E j ∧ j < h.size) ∨ Nw η η' j) → j < h'.size) : ∀ j, ((E j ∧ j < h.size) ∨ Nw η η' j) → (E j ∨ Nw h h' j) := fun j hj => hj.elim (fun h => .inl h.1) fun q => .inr ⟨Nat.le_trans h0 q.1, hl j (.inr q)⟩
theorem nowb_of {l : List RWF} (h : ∀ f ∈ l.map RWF.abs, f.b.length ≤ 16777216) : ∀ f ∈ l, f.bl.length ≤ 16777216 := fun f hf => h _ (List.mem_map.2 ⟨f, hf, rfl⟩)

set_option maxRecDepth 100000 in
set_option maxHeartbeats 2000000 in
theorem rwrong_any {h : Heap} {sa na pa : Option Addr} {sc nc pc : Nat} {sl nl : List RWF} {pl : List RWC} {lf : Int} {gn : Bool} {mn : Int} {n : List UInt8} {y z : Int} : HC Try.prog 99 #[.agg #[.slice sa sl.length sc, .slice na nl.length nc, .slice pa pl.length pc, .int .i64 lf, .bool gn, .int .i64 mn], .string (BA n), .int .i64 y, .int .i64 z] h (fun v h' => v = .int .i64 (wrongW gn n y z : Int) ∧ Ext h h') := by
  have ok := Hp.nil h none_
  refine HC.go Try.func99 27 ?_
  refine .seq <| .r <| .a' 4 (.bxA (cs := [.slice sa sl.length sc, .slice na nl.length nc, .slice pa pl.length pc, .int .i64 lf, .bool gn, .int .i64 mn]) ok) ?_
  rintro _ η1 ⟨pb1, rfl, ok, xe⟩
  refine .w 8 .asI <| .nil ?_
  refine .seq <| .seq <| .r <| .w 9 .mvT <| .w 10 (.lenT T.st9) <| .w 11 .lss <| .w 12 .mvB <| .sd (fun G12 => ?_) (fun G12 => ?_)
  ·
    refine .x 13 <| .x 14 <| .x 15 <| .w 16 .pkt <| .w 17 .mvB <| .x 18 <| .x 19 <| .w 20 .pkt <| .w 21 .mvB <| .x 22 <| .x 23 <| .w 24 .pkt <| .nil ?_
    refine .ct <| .seq <| .r <| .w 8 .asI <| .nil ?_
    refine .ret ⟨.int .i64 1, Res.one rfl rfl, ⟨by unfold wrongW; rw [if_pos (by first | exact .inl (by omega) | exact .inr (.inl (by omega)) | exact .inr (.inr (.inl (by omega))) | exact .inr (.inr (.inr (by omega))))]; rfl, ok.chg⟩⟩
  refine .w 13 .mvT <| .w 14 (.lenT T.st9) <| .w 15 .gtr <| .w 16 .pkf <| .w 17 .mvB <| .sd (fun G17 => ?_) (fun G17 => ?_)
  ·
    refine .x 18 <| .x 19 <| .w 20 .pkt <| .w 21 .mvB <| .x 22 <| .x 23 <| .w 24 .pkt <| .nil ?_
    refine .ct <| .seq <| .r <| .w 8 .asI <| .nil ?_
    refine .ret ⟨.int .i64 1, Res.one rfl rfl, ⟨by unfold wrongW; rw [if_pos (by first | exact .inl (by omega) | exact .inr (.inl (by omega)) | exact .inr (.inr (.inl (by omega))) | exact .inr (.inr (.inr (by omega))))]; rfl, ok.chg⟩⟩
  refine .w 18 .mvI <| .w 19 .lss <| .w 20 .pkf <| .w 21 .mvB <| .sd (fun G21 => ?_) (fun G21 => ?_)
  ·
    refine .x 22 <| .x 23 <| .w 24 .pkt <| .nil ?_
    refine .ct <| .seq <| .r <| .w 8 .asI <| .nil ?_
    refine .ret ⟨.int .i64 1, Res.one rfl rfl, ⟨by unfold wrongW; rw [if_pos (by first | exact .inl (by omega) | exact .inr (.inl (by omega)) | exact .inr (.inr (.inl (by omega))) | exact .inr (.inr (.inr (by omega))))]; rfl, ok.chg⟩⟩
  refine .w 22 .mvI <| .w 23 .lss <| .w 24 .pkf <| .nil ?_
  refine .cd (fun C0 => ?_) (fun C0 => ?_)
  · --
    refine .seq <| .r <| .w 8 .asI <| .nil ?_
    refine .ret ⟨.int .i64 1, Res.one rfl rfl, ⟨by unfold wrongW; rw [if_pos (by first | exact .inl (by omega) | exact .inr (.inl (by omega)) | exact .inr (.inr (.inl (by omega))) | exact .inr (.inr (.inr (by omega))))]; rfl, ok.chg⟩⟩
  refine .skip <| .seq <| .seq <| .r <| .w 25 (.fa T.fd69_4) <| .w 26 (.ldx T.ag4 ok.m0) <| .nil ?_
  refine .cond (fun C1 => ?_) (fun C1 => ?_)
  · --
    refine .seq <| .r <| .w 8 .asI <| .nil ?_
    refine .ret ⟨.int .i64 13, Res.one rfl rfl, ⟨by unfold wrongW; rw [if_neg (by omega), if_pos (by assumption)]; rfl, ok.chg⟩⟩
  refine .skip <| .seq <| .r <| .w 8 .asI <| .nil ?_
  refine .ret ⟨.int .i64 0, Res.one rfl rfl, ⟨by unfold wrongW; rw [if_neg (by omega), if_neg (by rw [C1]; decide)]; rfl, ok.chg⟩⟩

set_option maxRecDepth 100000 in
set_option maxHeartbeats 2000000 in
theorem count_any {h : Heap} {sa na pa : Option Addr} {sc nc pc : Nat} {sl nl : List RWF} {pl : List RWC} {lf : Int} {gn : Bool} {mn : Int} (hm : 0 ≤ mn ∧ mn ≤ 1000000000) (hl : lf ≤ 9223372036854775807) : HC Try.prog 103 #[.agg #[.slice sa sl.length sc, .slice na nl.length nc, .slice pa pl.length pc, .int .i64 lf, .bool gn, .int .i64 mn]] h (fun v h' => v = .tuple #[.agg #[.slice sa sl.length sc, .slice na nl.length nc, .slice pa pl.length pc, .int .i64 (if 0 < lf then lf - 1 else lf), .bool (if lf = 0 then true else gn), .int .i64 (if lf = 0 then mn else mn + 1)], .int .i64 (countC lf : Int)] ∧ Ext h h') := by
  have ok := Hp.nil h none_
  refine HC.go Try.func103 21 ?_
  refine .seq <| .r <| .a' 1 (.bxA (cs := [.slice sa sl.length sc, .slice na nl.length nc, .slice pa pl.length pc, .int .i64 lf, .bool gn, .int .i64 mn]) ok) ?_
  rintro _ η1 ⟨pb1, rfl, ok, xe⟩
  refine .a' 2 (.alA T.zr69 ok) ?_
  rintro _ η2 ⟨pb2, rfl, ok, xe⟩
  refine .w 3 .asI <| .nil ?_
  refine .seq <| .seq <| .r <| .w 4 (.fa T.fd69_3) <| .w 5 (.ldx T.ag3 ok.m1) <| .w 6 .eql <| .nil ?_
  refine .cd (fun C0 => ?_) (fun C0 => ?_)
  · --
    refine .seq <| .r <| .w 7 (.fa T.fd69_4) <| .ur' (.stB T.sz4 ok.n1) ?_
    rintro η3 ⟨ok, cg⟩
    refine .nil ?_
    refine .seq <| .r <| .w 8 (.ldb T.ag69 ok.m0 T.sz69) <| .ur' (.stW (vs := [.slice sa sl.length sc, .slice na nl.length nc, .slice pa pl.length pc, .int .i64 lf, .bool true, .int .i64 mn]) T.sz69 ok.n1 (oneL rfl)) ?_
    rintro η4 ⟨ok, cg⟩
    refine .w 3 .asI <| .nil ?_
    refine .ret ⟨.tuple #[.agg #[.slice sa sl.length sc, .slice na nl.length nc, .slice pa pl.length pc, .int .i64 lf, .bool true, .int .i64 mn], .int .i64 13], Res.many (vs := [.agg #[.slice sa sl.length sc, .slice na nl.length nc, .slice pa pl.length pc, .int .i64 lf, .bool true, .int .i64 mn], .int .i64 13]) rfl ⟨⟨_, rfl, load_ag T.ag69 ok.m0 T.sz69⟩, rfl, trivial⟩ rfl, ⟨by unfold countC; rw [if_pos C0, if_pos C0, if_pos C0, if_neg (by omega)]; rfl, ok.chg⟩⟩
  refine .skip <| .seq <| .seq <| .r <| .w 9 (.fa T.fd69_3) <| .w 10 (.ldx T.ag3 ok.m1) <| .w 11 .gtr <| .nil ?_
  refine .cd (fun C1 => ?_) (fun C1 => ?_)
  · --
    refine .r <| .w 12 (.fa T.fd69_3) <| .w 13 (.ldx T.ag3 ok.m1) <| .w 14 .sub <| .w 15 (.fa T.fd69_3) <| .ur' (.stI T.sz3 ok.n1) ?_
    rintro η5 ⟨ok, cg⟩
    refine .nil ?_
    refine .seq <| .r <| .w 16 (.fa T.fd69_5) <| .w 17 (.ldx T.ag3 ok.m0) <| .w 18 .add <| .w 19 (.fa T.fd69_5) <| .ur' (.stI T.sz3 ok) ?_
    rintro η6 ⟨ok, cg⟩
    refine .nil ?_
    refine .seq <| .r <| .w 20 (.ldb T.ag69 ok.m0 T.sz69) <| .ur' (.stW (vs := [.slice sa sl.length sc, .slice na nl.length nc, .slice pa pl.length pc, .int .i64 (lf - 1), .bool gn, .int .i64 (mn + 1)]) T.sz69 ok.n1 (oneL rfl)) ?_
    rintro η7 ⟨ok, cg⟩
    refine .w 3 .asI <| .nil ?_
    refine .ret ⟨.tuple #[.agg #[.slice sa sl.length sc, .slice na nl.length nc, .slice pa pl.length pc, .int .i64 (lf - 1), .bool gn, .int .i64 (mn + 1)], .int .i64 0], Res.many (vs := [.agg #[.slice sa sl.length sc, .slice na nl.length nc, .slice pa pl.length pc, .int .i64 (lf - 1), .bool gn, .int .i64 (mn + 1)], .int .i64 0]) rfl ⟨⟨_, rfl, load_ag T.ag69 ok.m0 T.sz69⟩, rfl, trivial⟩ rfl, ⟨by unfold countC; rw [if_neg C0, if_neg C0, if_neg C0, if_pos C1]; rfl, ok.chg⟩⟩
  refine .skip <| .seq <| .r <| .w 16 (.fa T.fd69_5) <| .w 17 (.ldx T.ag3 ok.m1) <| .w 18 .add <| .w 19 (.fa T.fd69_5) <| .ur' (.stI T.sz3 ok.n1) ?_
  rintro η8 ⟨ok, cg⟩
  refine .nil ?_
  refine .seq <| .r <| .w 20 (.ldb T.ag69 ok.m0 T.sz69) <| .ur' (.stW (vs := [.slice sa sl.length sc, .slice na nl.length nc, .slice pa pl.length pc, .int .i64 lf, .bool gn, .int .i64 (mn + 1)]) T.sz69 ok.n1 (oneL rfl)) ?_
  rintro η9 ⟨ok, cg⟩
  refine .w 3 .asI <| .nil ?_
  refine .ret ⟨.tuple #[.agg #[.slice sa sl.length sc, .slice na nl.length nc, .slice pa pl.length pc, .int .i64 lf, .bool gn, .int .i64 (mn + 1)], .int .i64 0], Res.many (vs := [.agg #[.slice sa sl.length sc, .slice na nl.length nc, .slice pa pl.length pc, .int .i64 lf, .bool gn, .int .i64 (mn + 1)], .int .i64 0]) rfl ⟨⟨_, rfl, load_ag T.ag69 ok.m0 T.sz69⟩, rfl, trivial⟩ rfl, ⟨by unfold countC; rw [if_neg C0, if_neg C0, if_neg C0, if_neg C1]; rfl, ok.chg⟩⟩

set_option maxRecDepth 100000 in
set_option maxHeartbeats 2000000 in
theorem change_any {h : Heap} {E : Nat → Prop} {sa na pa : Option Addr} {sc nc pc : Nat} {sl nl : List RWF} {pl : List RWC} {lf : Int} {gn : Bool} {mn : Int} {xk xp : Nat} {xn xl : List UInt8} {xa : Option Addr} {xc : Nat} (hw : DocW h E ⟨sa, sc, sl, na, nc, nl, pa, pc, pl, lf, gn, mn⟩) (hs : WS (RW.abs ⟨sa, sc, sl, na, nc, nl, pa, pc, pl, lf, gn, mn⟩)) (hl : lf ≤ 9223372036854775807) (hx : RdL h E E (xa, xl.length, xc) xl) (hxp : xp + xl.length ≤ 16777216) : HC Try.prog 100 #[.agg #[.slice sa sl.length sc, .slice na nl.length nc, .slice pa pl.length pc, .int .i64 lf, .bool gn, .int .i64 mn], .agg #[.int .i64 (xk : Int), .int .i64 (xp : Int), .string (BA xn), .slice xa xl.length xc]] h (fun v h' => ∃ w : RW, v = .tuple #[.agg #[.slice w.sa w.sl.length w.sc, .slice w.na w.nl.length w.nc, .slice w.pa w.pl.length w.pc, .int .i64 w.left, .bool w.gone, .int .i64 w.many], .int .i64 ((changeW (RW.abs ⟨sa, sc, sl, na, nc, nl, pa, pc, pl, lf, gn, mn⟩) ⟨xk, xp, xn, xl⟩).2 : Int)] ∧ w.abs = (changeW (RW.abs ⟨sa, sc, sl, na, nc, nl, pa, pc, pl, lf, gn, mn⟩) ⟨xk, xp, xn, xl⟩).1 ∧ WRet h E w h') := by
  have hsm := hs.many
  have hsl1 := hs.nowl
  have hsl2 := hs.pendl
  simp only [RW.abs, List.length_map] at hsm hsl1 hsl2
  have hnb := nowb_of hs.nowb
  have ok := (Hp.nil h none_).old (chwI (fun j => E j ∧ j < h.size) (pa, pl.length, pc) pl) (hw.p.lt (by decide)) (fun j hj => hj.2)
  have ok := ok.old (flwI (fun j => E j ∧ j < h.size) (na, nl.length, nc) nl) (hw.n.lt (by decide)) (fun j hj => hj.2)
  have ok := ok.old (flwI (fun j => E j ∧ j < h.size) (sa, sl.length, sc) sl) (hw.s.lt (by decide)) (fun j hj => hj.2)
  have ok := ok.old (rdI (fun j => E j ∧ j < h.size) (fun j => E j ∧ j < h.size) (xa, xl.length, xc) xl) hx.lt (fun j hj => hj.elim (·.2) (·.2))
  refine HC.go Try.func100 30 ?_
  refine .seq <| .r <| .a' 2 (.bxA (cs := [.slice sa sl.length sc, .slice na nl.length nc, .slice pa pl.length pc, .int .i64 lf, .bool gn, .int .i64 mn]) ok) ?_
  rintro _ η1 ⟨pb1, rfl, ok, xe⟩
  refine .a' 3 (.bxA (cs := [.int .i64 (xk : Int), .int .i64 (xp : Int), .string (BA xn), .slice xa xl.length xc]) ok) ?_
  rintro _ η2 ⟨pb2, rfl, ok, xe⟩
  refine .a' 4 (.alA T.zr69 ok) ?_
  rintro _ η3 ⟨pb3, rfl, ok, xe⟩
  refine .w 5 .asI <| .nil ?_
  refine .seq <| .r <| .w 9 (.ldb T.ag69 ok.m2 T.sz69) <| .c' 10 .func (count_any (by omega) (by omega)) ?_
  rintro _ η4 ⟨rfl, hx⟩
  have ok := ok.ext hx
  refine .w 8 .mvU <| .w 11 .ex <| .w 12 .ex <| .a' 6 (.alA T.zr69 ok) ?_
  rintro _ η5 ⟨pb4, rfl, ok, xe⟩
  refine .ur' (.stW (vs := [.slice sa sl.length sc, .slice na nl.length nc, .slice pa pl.length pc, .int .i64 (if 0 < lf then lf - 1 else lf), .bool (if lf = 0 then true else gn), .int .i64 (if lf = 0 then mn else mn + 1)]) T.sz69 ok (oneL rfl)) ?_
  rintro η6 ⟨ok, cg⟩
  refine .w 7 .asI <| .nil ?_
  refine .seq <| .seq <| .r <| .w 13 .mvI <| .w 14 .eql <| .nil ?_
  refine .cd (fun C0 => ?_) (fun C0 => ?_)
  · --
    have hl0 : ¬ lf = 0 := by intro h; unfold countC at C0; rw [if_pos h] at C0; simp at C0
    refine .seq <| .r <| .w 15 (.fa T.fd69_1) <| .w 16 (.ldx T.ag66 ok.m3) <| .w 17 (.ldb T.ag152 ok.m2 T.sz152) <| .c' 18 .func (do_ret (xk := xk) (xp := xp) (xn := xn) (xl := xl) (xa := xa) (xc := xc) ok.r2 ok.r0 (by omega) hnb (by omega)) ?_
    rintro _ η7 ⟨adw1, cdw1, ldw1, rfl, hddw1, hxdw1, rddw1⟩
    have hsz0 := ok.chg.size
    have ok := ok.grow hxdw1 (r := flwI (fun j => E j ∧ j < h.size) (na, nl.length, nc) nl) (by simp) (flwI (fun j => (fun j => E j ∧ j < h.size) j ∨ Nw η6 η7 j) (adw1, ldw1.length, cdw1) ldw1) rddw1 (fun j hj => hj)
    refine .w 19 (.fa T.fd69_1) <| .ur' (.stS T.sz66 ok) ?_
    rintro η8 ⟨ok, cg⟩
    refine .nil ?_
    refine .a 8 (fun fl hh => cond fl True (Hp h none_ [boxI pb4 69 [.slice sa sl.length sc, .slice adw1 ldw1.length cdw1, .slice pa pl.length pc, .int .i64 (if 0 < lf then lf - 1 else lf), .bool (if lf = 0 then true else gn), .int .i64 (if lf = 0 then mn else mn + 1)], boxI pb3 69 [.slice none 0 0, .slice none 0 0, .slice none 0 0, .int .i64 0, .bool false, .int .i64 0], boxI pb2 152 [.int .i64 (xk : Int), .int .i64 (xp : Int), .string (BA xn), .slice xa xl.length xc], boxI pb1 69 [.slice sa sl.length sc, .slice na nl.length nc, .slice pa pl.length pc, .int .i64 lf, .bool gn, .int .i64 mn]] [flwI (fun j => (fun j => E j ∧ j < h.size) j ∨ Nw η6 η7 j) (adw1, ldw1.length, cdw1) ldw1, rdI (fun j => E j ∧ j < h.size) (fun j => E j ∧ j < h.size) (xa, xl.length, xc) xl, flwI (fun j => E j ∧ j < h.size) (sa, sl.length, sc) sl, flwI (fun j => E j ∧ j < h.size) (na, nl.length, nc) nl, chwI (fun j => E j ∧ j < h.size) (pa, pl.length, pc) pl] hh)) mixed ?_
    have hS := ok
    refine .g 1 false rfl 21 hS (fun _ => .fa T.fd69_2) <| .l 2 false rfl 22 hS (fun _ hS => .ldx T.ag67 hS.m3) <| .l 4 false rfl 24 hS (fun _ hS => .ldb T.ag152 hS.m2 T.sz152) <| .o2 0 5 ?_ ?_
    ·
      refine .a' false rfl 20 (.lit [] (cs := []) T.el67 T.sz152 T.zr152 ok trivial) ?_
      rintro _ η9 ⟨pb5, rfl, ok, xe⟩
      refine ⟨ok.n4.n4.n4.n4.k4, ?_⟩
      have hS := ok.n4.n4.n4.n4.k4
      refine .o2 3 5 ?_ ?_
      ·
        refine .a' false rfl 23 (.app (news := pl.flatMap RWC.cells) T.el67 T.sz152 T.by152 T.zr152 ok (ok.r4).sl (RWC.one pl) (by simp only [List.length_nil, flat_len RWC.cells_len]; omega)) ?_
        rintro _ η10 ⟨ya1, yn1, yc1, rfl, ok, ap⟩
        have ok := ok.cx (ys := pl.flatMap RWC.cells) (by simp)
        obtain rfl : yn1 = pl.length := (Sl.sz (Cap.sl ok.m0) RWC.cells_len (by decide)).1.symm
        refine ⟨ok.n4.n4.n4.n4.k4, ?_⟩
        have hS := ok.n4.n4.n4.n4.k4
        refine .o1 5 <| .a' false rfl 25 (.lit [.tmp 24] (cs := [.int .i64 (xk : Int), .int .i64 (xp : Int), .string (BA xn), .slice xa xl.length xc]) T.el67 T.sz152 T.zr152 ok ⟨rfl, trivial⟩) ?_
        rintro _ η11 ⟨pb6, rfl, ok, xe⟩
        refine ⟨ok.n5.n5.n5.n5.k4, ?_⟩
        have hS := ok.n5.n5.n5.n5.k4
        refine .o1 6 <| .a' false rfl 26 (.app (news := [.int .i64 (xk : Int), .int .i64 (xp : Int), .string (BA xn), .slice xa xl.length xc]) T.el67 T.sz152 T.by152 T.zr152 ok.n1 (ok.n1.m1).sl (oneL rfl) (by rw [flat_len RWC.cells_len]; simp only [List.length_cons, List.length_nil]; omega)) ?_
        rintro _ η12 ⟨ya2, yn2, yc2, rfl, ok, ap⟩
        have ok := ok.cx (ys := (pl ++ [(⟨xk, xp, xn, xa, xc, xl⟩ : RWC)]).flatMap RWC.cells) (by simp [RWC.cells])
        obtain rfl : yn2 = (pl ++ [(⟨xk, xp, xn, xa, xc, xl⟩ : RWC)]).length := (Sl.sz (Cap.sl ok.m0) RWC.cells_len (by decide)).1.symm
        refine ⟨ok.n5.n5.n5.n5.k4, ?_⟩
        have hS := ok.n5.n5.n5.n5.k4
        refine .g 7 false rfl 27 hS (fun _ => .fa T.fd69_2) <| .o1 8 <| .ur' true rfl (.stS T.sz67 ok.n2) ?_
        rintro η13 ⟨ok, cg⟩
        refine ⟨trivial, ?_⟩
        refine .e ?_
        refine .seq <| .r <| .w 28 (.ldb T.ag69 ok.m0 T.sz69) <| .w 29 .mvI <| .ur' (.stW (vs := [.slice sa sl.length sc, .slice adw1 ldw1.length cdw1, .slice ya2 ((pl ++ [(⟨xk, xp, xn, xa, xc, xl⟩ : RWC)]).length) yc2, .int .i64 (if 0 < lf then lf - 1 else lf), .bool (if lf = 0 then true else gn), .int .i64 (if lf = 0 then mn else mn + 1)]) T.sz69 ok.n3 (oneL rfl)) ?_
        rintro η14 ⟨ok, cg⟩
        refine .w 5 .asI <| .nil ?_
        have hfr := ok.n2
        refine .ret ⟨.tuple #[.agg #[.slice sa sl.length sc, .slice adw1 ldw1.length cdw1, .slice ya2 ((pl ++ [(⟨xk, xp, xn, xa, xc, xl⟩ : RWC)]).length) yc2, .int .i64 (if 0 < lf then lf - 1 else lf), .bool (if lf = 0 then true else gn), .int .i64 (if lf = 0 then mn else mn + 1)], .int .i64 (countC lf : Int)], Res.many (vs := [.agg #[.slice sa sl.length sc, .slice adw1 ldw1.length cdw1, .slice ya2 ((pl ++ [(⟨xk, xp, xn, xa, xc, xl⟩ : RWC)]).length) yc2, .int .i64 (if 0 < lf then lf - 1 else lf), .bool (if lf = 0 then true else gn), .int .i64 (if lf = 0 then mn else mn + 1)], .int .i64 (countC lf : Int)]) rfl ⟨⟨_, rfl, load_ag T.ag69 ok.m0 T.sz69⟩, rfl, trivial⟩ rfl, ⟨⟨sa, sc, sl, adw1, cdw1, ldw1, ya2, yc2, pl ++ [(⟨xk, xp, xn, xa, xc, xl⟩ : RWC)], if 0 < lf then lf - 1 else lf, gn, mn + 1⟩, by rw [changeW_1 (by exact hl0)]; simp [hl0, countC, RW.cells], by rw [changeW_1 (by exact hl0)]; simp only [RW.abs, List.map_append, List.map_cons, List.map_nil, hddw1]; rfl, ok.chg, ⟨(ok.r2).mono fun _ h => .inl h.1, (ok.r0).mono (ew_to hsz0 ok.l0), RwB.ofCap (by decide) RWC.cells_len hfr.m0 (fun j hj => .inr (hfr.fresh j hj)) (ch_by (E0 := fun j => E j ∧ j < h.size) (E1 := fun j => E j ∧ j < h.size) ok.r4 ok.r1 (fun _ h => .inl h.1) (fun _ h => .inl h.1))⟩⟩⟩
      ·
        refine .a' false rfl 25 (.lit [.tmp 24] (cs := [.int .i64 (xk : Int), .int .i64 (xp : Int), .string (BA xn), .slice xa xl.length xc]) T.el67 T.sz152 T.zr152 ok ⟨rfl, trivial⟩) ?_
        rintro _ η15 ⟨pb7, rfl, ok, xe⟩
        refine ⟨ok.n5.n5.n5.n5.k4, ?_⟩
        have hS := ok.n5.n5.n5.n5.k4
        refine .o1 3 <| .a' false rfl 23 (.app (news := pl.flatMap RWC.cells) T.el67 T.sz152 T.by152 T.zr152 ok.n1 (ok.n1.r4).sl (RWC.one pl) (by simp only [List.length_nil, flat_len RWC.cells_len]; omega)) ?_
        rintro _ η16 ⟨ya3, yn3, yc3, rfl, ok, ap⟩
        have ok := ok.cx (ys := pl.flatMap RWC.cells) (by simp)
        obtain rfl : yn3 = pl.length := (Sl.sz (Cap.sl ok.m0) RWC.cells_len (by decide)).1.symm
        refine ⟨ok.n5.n5.n5.n5.k4, ?_⟩
        have hS := ok.n5.n5.n5.n5.k4
        refine .o1 6 <| .a' false rfl 26 (.app (news := [.int .i64 (xk : Int), .int .i64 (xp : Int), .string (BA xn), .slice xa xl.length xc]) T.el67 T.sz152 T.by152 T.zr152 ok (ok.m1).sl (oneL rfl) (by rw [flat_len RWC.cells_len]; simp only [List.length_cons, List.length_nil]; omega)) ?_
        rintro _ η17 ⟨ya4, yn4, yc4, rfl, ok, ap⟩
        have ok := ok.cx (ys := (pl ++ [(⟨xk, xp, xn, xa, xc, xl⟩ : RWC)]).flatMap RWC.cells) (by simp [RWC.cells])
        obtain rfl : yn4 = (pl ++ [(⟨xk, xp, xn, xa, xc, xl⟩ : RWC)]).length := (Sl.sz (Cap.sl ok.m0) RWC.cells_len (by decide)).1.symm
        refine ⟨ok.n5.n5.n5.n5.k4, ?_⟩
        have hS := ok.n5.n5.n5.n5.k4
        refine .g 7 false rfl 27 hS (fun _ => .fa T.fd69_2) <| .o1 8 <| .ur' true rfl (.stS T.sz67 ok.n2) ?_
        rintro η18 ⟨ok, cg⟩
        refine ⟨trivial, ?_⟩
        refine .e ?_
        refine .seq <| .r <| .w 28 (.ldb T.ag69 ok.m0 T.sz69) <| .w 29 .mvI <| .ur' (.stW (vs := [.slice sa sl.length sc, .slice adw1 ldw1.length cdw1, .slice ya4 ((pl ++ [(⟨xk, xp, xn, xa, xc, xl⟩ : RWC)]).length) yc4, .int .i64 (if 0 < lf then lf - 1 else lf), .bool (if lf = 0 then true else gn), .int .i64 (if lf = 0 then mn else mn + 1)]) T.sz69 ok.n3 (oneL rfl)) ?_
        rintro η19 ⟨ok, cg⟩
        refine .w 5 .asI <| .nil ?_
        have hfr := ok.n2
        refine .ret ⟨.tuple #[.agg #[.slice sa sl.length sc, .slice adw1 ldw1.length cdw1, .slice ya4 ((pl ++ [(⟨xk, xp, xn, xa, xc, xl⟩ : RWC)]).length) yc4, .int .i64 (if 0 < lf then lf - 1 else lf), .bool (if lf = 0 then true else gn), .int .i64 (if lf = 0 then mn else mn + 1)], .int .i64 (countC lf : Int)], Res.many (vs := [.agg #[.slice sa sl.length sc, .slice adw1 ldw1.length cdw1, .slice ya4 ((pl ++ [(⟨xk, xp, xn, xa, xc, xl⟩ : RWC)]).length) yc4, .int .i64 (if 0 < lf then lf - 1 else lf), .bool (if lf = 0 then true else gn), .int .i64 (if lf = 0 then mn else mn + 1)], .int .i64 (countC lf : Int)]) rfl ⟨⟨_, rfl, load_ag T.ag69 ok.m0 T.sz69⟩, rfl, trivial⟩ rfl, ⟨⟨sa, sc, sl, adw1, cdw1, ldw1, ya4, yc4, pl ++ [(⟨xk, xp, xn, xa, xc, xl⟩ : RWC)], if 0 < lf then lf - 1 else lf, gn, mn + 1⟩, by rw [changeW_1 (by exact hl0)]; simp [hl0, countC, RW.cells], by rw [changeW_1 (by exact hl0)]; simp only [RW.abs, List.map_append, List.map_cons, List.map_nil, hddw1]; rfl, ok.chg, ⟨(ok.r2).mono fun _ h => .inl h.1, (ok.r0).mono (ew_to hsz0 ok.l0), RwB.ofCap (by decide) RWC.cells_len hfr.m0 (fun j hj => .inr (hfr.fresh j hj)) (ch_by (E0 := fun j => E j ∧ j < h.size) (E1 := fun j => E j ∧ j < h.size) ok.r4 ok.r1 (fun _ h => .inl h.1) (fun _ h => .inl h.1))⟩⟩⟩
    ·
      refine .a' false rfl 25 (.lit [.tmp 24] (cs := [.int .i64 (xk : Int), .int .i64 (xp : Int), .string (BA xn), .slice xa xl.length xc]) T.el67 T.sz152 T.zr152 ok ⟨rfl, trivial⟩) ?_
      rintro _ η20 ⟨pb8, rfl, ok, xe⟩
      refine ⟨ok.n4.n4.n4.n4.k4, ?_⟩
      have hS := ok.n4.n4.n4.n4.k4
      refine .o1 0 <| .a' false rfl 20 (.lit [] (cs := []) T.el67 T.sz152 T.zr152 ok trivial) ?_
      rintro _ η21 ⟨pb9, rfl, ok, xe⟩
      refine ⟨ok.n5.n5.n5.n5.k4, ?_⟩
      have hS := ok.n5.n5.n5.n5.k4
      refine .o1 3 <| .a' false rfl 23 (.app (news := pl.flatMap RWC.cells) T.el67 T.sz152 T.by152 T.zr152 ok (ok.r4).sl (RWC.one pl) (by simp only [List.length_nil, flat_len RWC.cells_len]; omega)) ?_
      rintro _ η22 ⟨ya5, yn5, yc5, rfl, ok, ap⟩
      have ok := ok.cx (ys := pl.flatMap RWC.cells) (by simp)
      obtain rfl : yn5 = pl.length := (Sl.sz (Cap.sl ok.m0) RWC.cells_len (by decide)).1.symm
      refine ⟨ok.n5.n5.n5.n5.k4, ?_⟩
      have hS := ok.n5.n5.n5.n5.k4
      refine .o1 6 <| .a' false rfl 26 (.app (news := [.int .i64 (xk : Int), .int .i64 (xp : Int), .string (BA xn), .slice xa xl.length xc]) T.el67 T.sz152 T.by152 T.zr152 ok (ok.m1).sl (oneL rfl) (by rw [flat_len RWC.cells_len]; simp only [List.length_cons, List.length_nil]; omega)) ?_
      rintro _ η23 ⟨ya6, yn6, yc6, rfl, ok, ap⟩
      have ok := ok.cx (ys := (pl ++ [(⟨xk, xp, xn, xa, xc, xl⟩ : RWC)]).flatMap RWC.cells) (by simp [RWC.cells])
      obtain rfl : yn6 = (pl ++ [(⟨xk, xp, xn, xa, xc, xl⟩ : RWC)]).length := (Sl.sz (Cap.sl ok.m0) RWC.cells_len (by decide)).1.symm
      refine ⟨ok.n5.n5.n5.n5.k4, ?_⟩
      have hS := ok.n5.n5.n5.n5.k4
      refine .g 7 false rfl 27 hS (fun _ => .fa T.fd69_2) <| .o1 8 <| .ur' true rfl (.stS T.sz67 ok.n2) ?_
      rintro η24 ⟨ok, cg⟩
      refine ⟨trivial, ?_⟩
      refine .e ?_
      refine .seq <| .r <| .w 28 (.ldb T.ag69 ok.m0 T.sz69) <| .w 29 .mvI <| .ur' (.stW (vs := [.slice sa sl.length sc, .slice adw1 ldw1.length cdw1, .slice ya6 ((pl ++ [(⟨xk, xp, xn, xa, xc, xl⟩ : RWC)]).length) yc6, .int .i64 (if 0 < lf then lf - 1 else lf), .bool (if lf = 0 then true else gn), .int .i64 (if lf = 0 then mn else mn + 1)]) T.sz69 ok.n3 (oneL rfl)) ?_
      rintro η25 ⟨ok, cg⟩
      refine .w 5 .asI <| .nil ?_
      have hfr := ok.n2
      refine .ret ⟨.tuple #[.agg #[.slice sa sl.length sc, .slice adw1 ldw1.length cdw1, .slice ya6 ((pl ++ [(⟨xk, xp, xn, xa, xc, xl⟩ : RWC)]).length) yc6, .int .i64 (if 0 < lf then lf - 1 else lf), .bool (if lf = 0 then true else gn), .int .i64 (if lf = 0 then mn else mn + 1)], .int .i64 (countC lf : Int)], Res.many (vs := [.agg #[.slice sa sl.length sc, .slice adw1 ldw1.length cdw1, .slice ya6 ((pl ++ [(⟨xk, xp, xn, xa, xc, xl⟩ : RWC)]).length) yc6, .int .i64 (if 0 < lf then lf - 1 else lf), .bool (if lf = 0 then true else gn), .int .i64 (if lf = 0 then mn else mn + 1)], .int .i64 (countC lf : Int)]) rfl ⟨⟨_, rfl, load_ag T.ag69 ok.m0 T.sz69⟩, rfl, trivial⟩ rfl, ⟨⟨sa, sc, sl, adw1, cdw1, ldw1, ya6, yc6, pl ++ [(⟨xk, xp, xn, xa, xc, xl⟩ : RWC)], if 0 < lf then lf - 1 else lf, gn, mn + 1⟩, by rw [changeW_1 (by exact hl0)]; simp [hl0, countC, RW.cells], by rw [changeW_1 (by exact hl0)]; simp only [RW.abs, List.map_append, List.map_cons, List.map_nil, hddw1]; rfl, ok.chg, ⟨(ok.r2).mono fun _ h => .inl h.1, (ok.r0).mono (ew_to hsz0 ok.l0), RwB.ofCap (by decide) RWC.cells_len hfr.m0 (fun j hj => .inr (hfr.fresh j hj)) (ch_by (E0 := fun j => E j ∧ j < h.size) (E1 := fun j => E j ∧ j < h.size) ok.r4 ok.r1 (fun _ h => .inl h.1) (fun _ h => .inl h.1))⟩⟩⟩
  have hl0 : lf = 0 := by by_cases h : lf = 0; exact h; exact absurd (by unfold countC; rw [if_neg h]; rfl) C0
  refine .skip <| .seq <| .r <| .w 28 (.ldb T.ag69 ok.m0 T.sz69) <| .w 29 .mvI <| .ur' (.stW (vs := [.slice sa sl.length sc, .slice na nl.length nc, .slice pa pl.length pc, .int .i64 (if 0 < lf then lf - 1 else lf), .bool (if lf = 0 then true else gn), .int .i64 (if lf = 0 then mn else mn + 1)]) T.sz69 ok.n1 (oneL rfl)) ?_
  rintro η26 ⟨ok, cg⟩
  refine .w 5 .asI <| .nil ?_
  refine .ret ⟨.tuple #[.agg #[.slice sa sl.length sc, .slice na nl.length nc, .slice pa pl.length pc, .int .i64 (if 0 < lf then lf - 1 else lf), .bool (if lf = 0 then true else gn), .int .i64 (if lf = 0 then mn else mn + 1)], .int .i64 (countC lf : Int)], Res.many (vs := [.agg #[.slice sa sl.length sc, .slice na nl.length nc, .slice pa pl.length pc, .int .i64 (if 0 < lf then lf - 1 else lf), .bool (if lf = 0 then true else gn), .int .i64 (if lf = 0 then mn else mn + 1)], .int .i64 (countC lf : Int)]) rfl ⟨⟨_, rfl, load_ag T.ag69 ok.m0 T.sz69⟩, rfl, trivial⟩ rfl, ⟨⟨sa, sc, sl, na, nc, nl, pa, pc, pl, lf, true, mn⟩, by rw [changeW_0 (by exact hl0)]; simp [hl0, countC, RW.cells], by rw [changeW_0 (by exact hl0), countW_0 (by exact hl0)]; rfl, ok.chg, ⟨ok.r1.mono (fun _ h => .inl (And.left h)), ok.r2.mono (fun _ h => .inl (And.left h)), ok.r3.mono (fun _ h => .inl (And.left h))⟩⟩⟩

end Go.Proofs.Ytpebbkhainpfaaa

namespace Go.Proofs.Ytpebbkhainpfaaa
open Go Go.HL
def hasW (l : List WF) (n : List UInt8) : Bool := (l.find? fun f => decide (f.n = n)).isSome
def writeW (w : WD) (n : List UInt8) (z : Int) (b : List UInt8) : WD × Nat := if wrongW w.gone n z 0 ≠ 0 then (w, wrongW w.gone n z 0) else if 16777216 < z ∨ 16777216 - z < b.length then (w, 5) else changeW w ⟨0, z.toNat, n, longN b b.length⟩
def truncW (w : WD) (n : List UInt8) (z : Int) : WD × Nat := if wrongW w.gone n z 0 ≠ 0 then (w, wrongW w.gone n z 0) else if hasW w.now n = false then (w, 4) else if 16777216 < z then (w, 5) else changeW w ⟨1, z.toNat, n, []⟩
def removeW (w : WD) (n : List UInt8) : WD × Nat := if wrongW w.gone n 0 0 ≠ 0 then (w, wrongW w.gone n 0 0) else if hasW w.now n = false then (w, 4) else changeW w ⟨2, 0, n, []⟩
def readW (w : WD) (n : List UInt8) (y z : Int) : List UInt8 × Nat := if wrongW w.gone n y z ≠ 0 then ([], wrongW w.gone n y z) else match w.now.find? fun f => decide (f.n = n) with | none => ([], 4) | some f => ((f.b.drop y.toNat).take z.toNat, 0)
def sizeW (w : WD) (n : List UInt8) : Nat × Bool := match w.now.find? fun f => decide (f.n = n) with | none => (0, false) | some f => if w.gone = true then (0, false) else (f.b.length, true)
def filesW (w : WD) : List (List UInt8) := if w.gone = true then [] else w.now.map (·.n)
def cutW (w : WD) (z : Int) : WD := if w.gone = true then w else ⟨w.safe, w.now, w.pend, max z (-1), w.gone, w.many⟩
def newW : WD := ⟨[], [], [], -1, false, 0⟩
theorem ew_up {E X : Nat → Prop} {h h' : Heap} (h1 : ∀ j, X j → E j ∨ h.size ≤ j) (hl : ∀ j, X j → j < h'.size) : ∀ j, X j → (E j ∨ Nw h h' j) := fun j hj => (h1 j hj).imp id fun q => ⟨q, hl j hj⟩
section
variable {w : WD} {n b : List UInt8} {z : Int} {p : Nat}
theorem writeW_w (h : ¬ (wrongW w.gone n z 0 : Int) = 0) : writeW w n z b = (w, wrongW w.gone n z 0) := by unfold writeW; rw [if_pos (by omega)]
theorem writeW_f (h : wrongW w.gone n z 0 = 0) (h2 : 16777216 < z ∨ 16777216 - z < b.length) : writeW w n z b = (w, 5) := by unfold writeW; rw [if_neg (by omega), if_pos h2]
theorem writeW_d (h : wrongW w.gone n (p : Int) 0 = 0) (h2 : ¬ (16777216 < (p : Int) ∨ 16777216 - (p : Int) < b.length)) : writeW w n (p : Int) b = changeW w ⟨0, p, n, longN b b.length⟩ := by unfold writeW; rw [if_neg (by omega), if_neg h2]; rfl
theorem truncW_w (h : ¬ (wrongW w.gone n z 0 : Int) = 0) : truncW w n z = (w, wrongW w.gone n z 0) := by unfold truncW; rw [if_pos (by omega)]
theorem truncW_n (h : wrongW w.gone n z 0 = 0) (h1 : hasW w.now n = false) : truncW w n z = (w, 4) := by unfold truncW; rw [if_neg (by omega), if_pos h1]
theorem truncW_f (h : wrongW w.gone n z 0 = 0) (h1 : hasW w.now n = true) (h2 : 16777216 < z) : truncW w n z = (w, 5) := by unfold truncW; rw [if_neg (by omega), if_neg (by rw [h1]; decide), if_pos h2]
theorem truncW_d (h : wrongW w.gone n (p : Int) 0 = 0) (h1 : hasW w.now n = true) (h2 : ¬ 16777216 < (p : Int)) : truncW w n (p : Int) = changeW w ⟨1, p, n, []⟩ := by unfold truncW; rw [if_neg (by omega), if_neg (by rw [h1]; decide), if_neg h2]; rfl
theorem removeW_w (h : ¬ (wrongW w.gone n 0 0 : Int) = 0) : removeW w n = (w, wrongW w.gone n 0 0) := by unfold removeW; rw [if_pos (by omega)]
theorem removeW_n (h : wrongW w.gone n 0 0 = 0) (h1 : hasW w.now n = false) : removeW w n = (w, 4) := by unfold removeW; rw [if_neg (by omega), if_pos h1]
theorem removeW_d (h : wrongW w.gone n 0 0 = 0) (h1 : hasW w.now n = true) : removeW w n = changeW w ⟨2, 0, n, []⟩ := by unfold removeW; rw [if_neg (by omega), if_neg (by rw [h1]; decide)]
theorem wrongW_pos {gn : Bool} {n : List UInt8} {y z : Int} (h : wrongW gn n y z = 0) : 0 ≤ y ∧ 0 ≤ z := by
  unfold wrongW at h
  split at h
  · cases h
  · omega
theorem hasW_y {f : WF} {l : List WF} (h : l.find? (fun f => decide (f.n = n)) = some f) : hasW l n = true := by unfold hasW; rw [h]; rfl
theorem hasW_n {l : List WF} (h : l.find? (fun f => decide (f.n = n)) = none) : hasW l n = false := by unfold hasW; rw [h]; rfl
end

set_option maxRecDepth 100000 in
set_option maxHeartbeats 2000000 in
theorem rwrite_any {h : Heap} {E F1 E1 : Nat → Prop} {sa na pa : Option Addr} {sc nc pc : Nat} {sl nl : List RWF} {pl : List RWC} {lf : Int} {gn : Bool} {mn : Int} {n : List UInt8} {z : Int} {a : Option Addr} {c : Nat} {l : List UInt8} (hw : DocW h E ⟨sa, sc, sl, na, nc, nl, pa, pc, pl, lf, gn, mn⟩) (hs : WS (RW.abs ⟨sa, sc, sl, na, nc, nl, pa, pc, pl, lf, gn, mn⟩)) (hl : lf ≤ 9223372036854775807) (hb : RdL h F1 E1 (a, l.length, c) l) (hz : -9223372036854775808 ≤ z ∧ z ≤ 9223372036854775807) : HC Try.prog 72 #[.agg #[.slice sa sl.length sc, .slice na nl.length nc, .slice pa pl.length pc, .int .i64 lf, .bool gn, .int .i64 mn], .string (BA n), .int .i64 z, .slice a l.length c] h (fun v h' => ∃ w : RW, v = .tuple #[.agg #[.slice w.sa w.sl.length w.sc, .slice w.na w.nl.length w.nc, .slice w.pa w.pl.length w.pc, .int .i64 w.left, .bool w.gone, .int .i64 w.many], .int .i64 ((writeW (RW.abs ⟨sa, sc, sl, na, nc, nl, pa, pc, pl, lf, gn, mn⟩) n z l).2 : Int)] ∧ w.abs = (writeW (RW.abs ⟨sa, sc, sl, na, nc, nl, pa, pc, pl, lf, gn, mn⟩) n z l).1 ∧ WRet h E w h') := by
  have hsm := hs.many
  have hsl1 := hs.nowl
  have hsl2 := hs.pendl
  have hsl3 := hs.safel
  simp only [RW.abs, List.length_map] at hsm hsl1 hsl2 hsl3
  have hnb := nowb_of hs.nowb
  have ok := (Hp.nil h none_).old (chwI (fun j => E j ∧ j < h.size) (pa, pl.length, pc) pl) (hw.p.lt (by decide)) (fun j hj => hj.2)
  have ok := ok.old (flwI (fun j => E j ∧ j < h.size) (na, nl.length, nc) nl) (hw.n.lt (by decide)) (fun j hj => hj.2)
  have ok := ok.old (flwI (fun j => E j ∧ j < h.size) (sa, sl.length, sc) sl) (hw.s.lt (by decide)) (fun j hj => hj.2)
  have hcn := hw.n.m
  have hcs := hw.s.m
  have hcp := hw.p.m
  simp only at hcn hcs hcp
  have hbc := hb.c
  have hbm := hb.m
  simp only at hbc hbm
  have ok := ok.arg hb
  refine HC.go Try.func72 40 ?_
  refine .seq <| .r <| .a' 4 (.bxA (cs := [.slice sa sl.length sc, .slice na nl.length nc, .slice pa pl.length pc, .int .i64 lf, .bool gn, .int .i64 mn]) ok) ?_
  rintro _ η1 ⟨pb1, rfl, ok, xe⟩
  refine .a' 8 (.alA T.zr69 ok) ?_
  rintro _ η2 ⟨pb2, rfl, ok, xe⟩
  refine .w 9 .asI <| .nil ?_
  refine .seq <| .seq <| .r <| .w 11 (.ldb T.ag69 ok.m1 T.sz69) <| .w 12 .mvT <| .w 13 .mvI <| .c' 14 .func (rwrong_any (n := n) (y := z) (z := 0)) ?_
  rintro _ η3 ⟨rfl, hx⟩
  have ok := ok.ext hx
  refine .w 10 .asI <| .nil ?_
  refine .seq <| .r <| .w 15 .mvI <| .w 16 .neq <| .nil ?_
  refine .cd (fun C0 => ?_) (fun C0 => ?_)
  · --
    refine .seq <| .r <| .w 17 (.ldb T.ag69 ok.m1 T.sz69) <| .w 18 .mvI <| .ur' (.stW (vs := [.slice sa sl.length sc, .slice na nl.length nc, .slice pa pl.length pc, .int .i64 lf, .bool gn, .int .i64 mn]) T.sz69 ok (oneL rfl)) ?_
    rintro η4 ⟨ok, cg⟩
    refine .w 9 .asI <| .nil ?_
    refine .ret ⟨.tuple #[.agg #[.slice sa sl.length sc, .slice na nl.length nc, .slice pa pl.length pc, .int .i64 lf, .bool gn, .int .i64 mn], .int .i64 (wrongW gn n z 0 : Int)], Res.many (vs := [.agg #[.slice sa sl.length sc, .slice na nl.length nc, .slice pa pl.length pc, .int .i64 lf, .bool gn, .int .i64 mn], .int .i64 (wrongW gn n z 0 : Int)]) rfl ⟨⟨_, rfl, load_ag T.ag69 ok.m0 T.sz69⟩, rfl, trivial⟩ rfl, ⟨⟨sa, sc, sl, na, nc, nl, pa, pc, pl, lf, gn, mn⟩, by rw [writeW_w (by exact C0)] <;> rfl, by rw [writeW_w (by exact C0)], ok.chg, ⟨ok.r1.mono (fun _ h => .inl (And.left h)), ok.r2.mono (fun _ h => .inl (And.left h)), ok.r3.mono (fun _ h => .inl (And.left h))⟩⟩⟩
  have hw0 : wrongW gn n z 0 = 0 := by omega
  obtain ⟨p, rfl⟩ : ∃ p : Nat, z = (p : Int) := ⟨(z).toNat, by have := wrongW_pos hw0; omega⟩
  refine .skip <| .seq <| .seq <| .r <| .w 19 .mvI <| .w 20 .gtr <| .w 21 .mvB <| .sd (fun G21 => ?_) (fun G21 => ?_)
  ·
    refine .x 22 <| .x 23 <| .x 24 <| .x 25 <| .x 26 <| .w 27 .pkt <| .nil ?_
    refine .ct <| .seq <| .r <| .w 28 (.ldb T.ag69 ok.m1 T.sz69) <| .ur' (.stW (vs := [.slice sa sl.length sc, .slice na nl.length nc, .slice pa pl.length pc, .int .i64 lf, .bool gn, .int .i64 mn]) T.sz69 ok (oneL rfl)) ?_
    rintro η5 ⟨ok, cg⟩
    refine .w 9 .asI <| .nil ?_
    refine .ret ⟨.tuple #[.agg #[.slice sa sl.length sc, .slice na nl.length nc, .slice pa pl.length pc, .int .i64 lf, .bool gn, .int .i64 mn], .int .i64 5], Res.many (vs := [.agg #[.slice sa sl.length sc, .slice na nl.length nc, .slice pa pl.length pc, .int .i64 lf, .bool gn, .int .i64 mn], .int .i64 5]) rfl ⟨⟨_, rfl, load_ag T.ag69 ok.m0 T.sz69⟩, rfl, trivial⟩ rfl, ⟨⟨sa, sc, sl, na, nc, nl, pa, pc, pl, lf, gn, mn⟩, by rw [writeW_f (by exact hw0) (by omega)] <;> rfl, by rw [writeW_f (by exact hw0) (by omega)], ok.chg, ⟨ok.r1.mono (fun _ h => .inl (And.left h)), ok.r2.mono (fun _ h => .inl (And.left h)), ok.r3.mono (fun _ h => .inl (And.left h))⟩⟩⟩
  refine .w 22 .mvS <| .w 23 (.len T.el22) <| .w 24 .mvI <| .w 25 .sub <| .w 26 .gtr <| .w 27 .pkf <| .nil ?_
  refine .cd (fun C1 => ?_) (fun C1 => ?_)
  · --
    refine .seq <| .r <| .w 28 (.ldb T.ag69 ok.m1 T.sz69) <| .ur' (.stW (vs := [.slice sa sl.length sc, .slice na nl.length nc, .slice pa pl.length pc, .int .i64 lf, .bool gn, .int .i64 mn]) T.sz69 ok (oneL rfl)) ?_
    rintro η6 ⟨ok, cg⟩
    refine .w 9 .asI <| .nil ?_
    refine .ret ⟨.tuple #[.agg #[.slice sa sl.length sc, .slice na nl.length nc, .slice pa pl.length pc, .int .i64 lf, .bool gn, .int .i64 mn], .int .i64 5], Res.many (vs := [.agg #[.slice sa sl.length sc, .slice na nl.length nc, .slice pa pl.length pc, .int .i64 lf, .bool gn, .int .i64 mn], .int .i64 5]) rfl ⟨⟨_, rfl, load_ag T.ag69 ok.m0 T.sz69⟩, rfl, trivial⟩ rfl, ⟨⟨sa, sc, sl, na, nc, nl, pa, pc, pl, lf, gn, mn⟩, by rw [writeW_f (by exact hw0) (by omega)] <;> rfl, by rw [writeW_f (by exact hw0) (by omega)], ok.chg, ⟨ok.r1.mono (fun _ h => .inl (And.left h)), ok.r2.mono (fun _ h => .inl (And.left h)), ok.r3.mono (fun _ h => .inl (And.left h))⟩⟩⟩
  refine .skip <| .seq <| .a 8 (fun fl hh => cond fl True (Hp h none_ [boxI pb2 69 [.slice none 0 0, .slice none 0 0, .slice none 0 0, .int .i64 0, .bool false, .int .i64 0], boxI pb1 69 [.slice sa sl.length sc, .slice na nl.length nc, .slice pa pl.length pc, .int .i64 lf, .bool gn, .int .i64 mn]] [rdI (fun j => F1 j ∧ j < h.size) (fun j => E1 j ∧ j < h.size) (a, l.length, c) l, flwI (fun j => E j ∧ j < h.size) (sa, sl.length, sc) sl, flwI (fun j => E j ∧ j < h.size) (na, nl.length, nc) nl, chwI (fun j => E j ∧ j < h.size) (pa, pl.length, pc) pl] hh)) mixed ?_
  have hS := ok
  refine .l 0 false rfl 29 hS (fun _ hS => .ldb T.ag69 hS.m1 T.sz69) <| .g 1 false rfl 30 hS (fun _ => .mvT) <| .g 2 false rfl 31 hS (fun _ => .mvI) <| .g 3 false rfl 32 hS (fun _ => .mvS) <| .g 4 false rfl 33 hS (fun _ => .mvS) <| .g 5 false rfl 34 hS (fun _ => .len T.el22) <| .o1 6 <| .c' false rfl 35 .func (rlong_any (a := a) (c := c) (l := l) (n := l.length) ok.r0 (by omega)) ?_
  rintro _ η7 own
  obtain ⟨ya1, yc1, rfl⟩ := own.formB
  have ok := ok.own own
  refine ⟨ok.n2.n2.k2, ?_⟩
  have hS := ok.n2.n2.k2
  refine .g 7 false rfl 36 hS (fun _ => .bd #[.int .i64 0, .int .i64 (p : Int), .string (BA n), .slice ya1 ((longN l l.length).length) yc1] T.zr152 T.pl152 rfl) <| .o1 8 <| ?_
  have hfx := (ok).fresh
  have ok := (ok).frzB (l := (longN l l.length)) rfl
  refine .c' true rfl 37 .func (change_any (E := (fun j => (E j ∧ j < h.size) ∨ blkC (sv (ya1, (longN l l.length).length, yc1)) j)) (sa := sa) (na := na) (pa := pa) (sc := sc) (nc := nc) (pc := pc) (sl := sl) (nl := nl) (pl := pl) (lf := lf) (gn := gn) (mn := mn) (xk := 0) (xp := p) (xn := n) (xl := (longN l l.length)) (xa := ya1) (xc := yc1) ⟨(ok.r2).mono (fun _ h => .inl h), (ok.r3).mono (fun _ h => .inl h), (ok.r4).mono (fun _ h => .inl h)⟩ hs hl ((ok.r0).mono (fun _ h => .inr h) (fun _ f => f.elim)) (by rw [longN_len]; omega)) ?_
  rintro _ η8 ⟨wch1, rfl, hwch1, hrch1⟩
  have hsz0 := ok.chg.size
  have ok := ok.or (r := flwI (fun j => E j ∧ j < h.size) (sa, sl.length, sc) sl) (r' := rdI (blkC (sv (ya1, (longN l l.length).length, yc1))) none_ (ya1, (longN l l.length).length, yc1) (longN l l.length)) (by simp) (by simp) (docI (fun j => (E j ∧ j < h.size) ∨ blkC (sv (ya1, (longN l l.length).length, yc1)) j) ⟨sa, sc, sl, na, nc, nl, pa, pc, pl, lf, gn, mn⟩) ⟨(ok.r2).mono (fun _ h => .inl h), (ok.r3).mono (fun _ h => .inl h), (ok.r4).mono (fun _ h => .inl h)⟩ (fun j hj => hj.imp id .inl)
  have ok := ok.grow hrch1.ext (r := docI (fun j => (E j ∧ j < h.size) ∨ blkC (sv (ya1, (longN l l.length).length, yc1)) j) ⟨sa, sc, sl, na, nc, nl, pa, pc, pl, lf, gn, mn⟩) (by simp) (docI (fun j => (fun j => (E j ∧ j < h.size) ∨ blkC (sv (ya1, (longN l l.length).length, yc1)) j) j ∨ Nw η7 η8 j) wch1) hrch1.rd (fun j hj => hj)
  refine ⟨trivial, ?_⟩
  refine .g 9 true rfl 38 trivial (fun _ => .ex) <| .g 10 true rfl 39 trivial (fun _ => .ex) <| .o1 11 <| .ur' true rfl (.stW (vs := [.slice wch1.sa wch1.sl.length wch1.sc, .slice wch1.na wch1.nl.length wch1.nc, .slice wch1.pa wch1.pl.length wch1.pc, .int .i64 wch1.left, .bool wch1.gone, .int .i64 wch1.many]) T.sz69 ok (oneL rfl)) ?_
  rintro η9 ⟨ok, cg⟩
  refine ⟨trivial, ?_⟩
  refine .g 12 true rfl 9 trivial (fun _ => .asI) <| .e ?_
  refine .ret ⟨.tuple #[.agg #[.slice wch1.sa wch1.sl.length wch1.sc, .slice wch1.na wch1.nl.length wch1.nc, .slice wch1.pa wch1.pl.length wch1.pc, .int .i64 wch1.left, .bool wch1.gone, .int .i64 wch1.many], .int .i64 ((changeW (RW.abs ⟨sa, sc, sl, na, nc, nl, pa, pc, pl, lf, gn, mn⟩) ⟨0, p, n, (longN l l.length)⟩).2 : Int)], Res.many (vs := [.agg #[.slice wch1.sa wch1.sl.length wch1.sc, .slice wch1.na wch1.nl.length wch1.nc, .slice wch1.pa wch1.pl.length wch1.pc, .int .i64 wch1.left, .bool wch1.gone, .int .i64 wch1.many], .int .i64 ((changeW (RW.abs ⟨sa, sc, sl, na, nc, nl, pa, pc, pl, lf, gn, mn⟩) ⟨0, p, n, (longN l l.length)⟩).2 : Int)]) rfl ⟨⟨_, rfl, load_ag T.ag69 ok.m0 T.sz69⟩, rfl, trivial⟩ rfl, ⟨wch1, by rw [writeW_d (by exact hw0) (by omega)] <;> rfl, by rw [writeW_d (by exact hw0) (by omega)]; exact hwch1, ok.chg, (ok.r0).mono (ew_up (fun j hj => by rcases hj with (h | h) | h; exact .inl h.1; exact .inr (hfx j h).1; exact .inr (Nat.le_trans hsz0 h.1)) ok.l0)⟩⟩

set_option maxRecDepth 100000 in
set_option maxHeartbeats 2000000 in
theorem rtrunc_any {h : Heap} {E : Nat → Prop} {sa na pa : Option Addr} {sc nc pc : Nat} {sl nl : List RWF} {pl : List RWC} {lf : Int} {gn : Bool} {mn : Int} {n : List UInt8} {z : Int} (hw : DocW h E ⟨sa, sc, sl, na, nc, nl, pa, pc, pl, lf, gn, mn⟩) (hs : WS (RW.abs ⟨sa, sc, sl, na, nc, nl, pa, pc, pl, lf, gn, mn⟩)) (hl : lf ≤ 9223372036854775807) (hz : -9223372036854775808 ≤ z ∧ z ≤ 9223372036854775807) : HC Try.prog 75 #[.agg #[.slice sa sl.length sc, .slice na nl.length nc, .slice pa pl.length pc, .int .i64 lf, .bool gn, .int .i64 mn], .string (BA n), .int .i64 z] h (fun v h' => ∃ w : RW, v = .tuple #[.agg #[.slice w.sa w.sl.length w.sc, .slice w.na w.nl.length w.nc, .slice w.pa w.pl.length w.pc, .int .i64 w.left, .bool w.gone, .int .i64 w.many], .int .i64 ((truncW (RW.abs ⟨sa, sc, sl, na, nc, nl, pa, pc, pl, lf, gn, mn⟩) n z).2 : Int)] ∧ w.abs = (truncW (RW.abs ⟨sa, sc, sl, na, nc, nl, pa, pc, pl, lf, gn, mn⟩) n z).1 ∧ WRet h E w h') := by
  have hsm := hs.many
  have hsl1 := hs.nowl
  have hsl2 := hs.pendl
  have hsl3 := hs.safel
  simp only [RW.abs, List.length_map] at hsm hsl1 hsl2 hsl3
  have hnb := nowb_of hs.nowb
  have ok := (Hp.nil h none_).old (chwI (fun j => E j ∧ j < h.size) (pa, pl.length, pc) pl) (hw.p.lt (by decide)) (fun j hj => hj.2)
  have ok := ok.old (flwI (fun j => E j ∧ j < h.size) (na, nl.length, nc) nl) (hw.n.lt (by decide)) (fun j hj => hj.2)
  have ok := ok.old (flwI (fun j => E j ∧ j < h.size) (sa, sl.length, sc) sl) (hw.s.lt (by decide)) (fun j hj => hj.2)
  have hcn := hw.n.m
  have hcs := hw.s.m
  have hcp := hw.p.m
  simp only at hcn hcs hcp
  refine HC.go Try.func75 33 ?_
  refine .seq <| .r <| .a' 3 (.bxA (cs := [.slice sa sl.length sc, .slice na nl.length nc, .slice pa pl.length pc, .int .i64 lf, .bool gn, .int .i64 mn]) ok) ?_
  rintro _ η1 ⟨pb1, rfl, ok, xe⟩
  refine .a' 6 (.alA T.zr69 ok) ?_
  rintro _ η2 ⟨pb2, rfl, ok, xe⟩
  refine .w 7 .asI <| .nil ?_
  refine .seq <| .seq <| .r <| .w 9 (.ldb T.ag69 ok.m1 T.sz69) <| .w 10 .mvT <| .w 11 .mvI <| .c' 12 .func (rwrong_any (n := n) (y := z) (z := 0)) ?_
  rintro _ η3 ⟨rfl, hx⟩
  have ok := ok.ext hx
  refine .w 8 .asI <| .nil ?_
  refine .seq <| .r <| .w 13 .mvI <| .w 14 .neq <| .nil ?_
  refine .cd (fun C0 => ?_) (fun C0 => ?_)
  · --
    refine .seq <| .r <| .w 15 (.ldb T.ag69 ok.m1 T.sz69) <| .w 16 .mvI <| .ur' (.stW (vs := [.slice sa sl.length sc, .slice na nl.length nc, .slice pa pl.length pc, .int .i64 lf, .bool gn, .int .i64 mn]) T.sz69 ok (oneL rfl)) ?_
    rintro η4 ⟨ok, cg⟩
    refine .w 7 .asI <| .nil ?_
    refine .ret ⟨.tuple #[.agg #[.slice sa sl.length sc, .slice na nl.length nc, .slice pa pl.length pc, .int .i64 lf, .bool gn, .int .i64 mn], .int .i64 (wrongW gn n z 0 : Int)], Res.many (vs := [.agg #[.slice sa sl.length sc, .slice na nl.length nc, .slice pa pl.length pc, .int .i64 lf, .bool gn, .int .i64 mn], .int .i64 (wrongW gn n z 0 : Int)]) rfl ⟨⟨_, rfl, load_ag T.ag69 ok.m0 T.sz69⟩, rfl, trivial⟩ rfl, ⟨⟨sa, sc, sl, na, nc, nl, pa, pc, pl, lf, gn, mn⟩, by rw [truncW_w (by exact C0)] <;> rfl, by rw [truncW_w (by exact C0)], ok.chg, ⟨ok.r0.mono (fun _ h => .inl (And.left h)), ok.r1.mono (fun _ h => .inl (And.left h)), ok.r2.mono (fun _ h => .inl (And.left h))⟩⟩⟩
  have hw0 : wrongW gn n z 0 = 0 := by omega
  obtain ⟨p, rfl⟩ : ∃ p : Nat, z = (p : Int) := ⟨(z).toNat, by have := wrongW_pos hw0; omega⟩
  refine .skip <| .seq <| .seq <| .r <| .w 17 (.fa T.fd69_1) <| .w 18 (.ldx T.ag66 ok.m1) <| .w 19 .mvT <| .c' 20 .func (find_any (a := na) (c := nc) (l := nl) (n := n) ok.r1) ?_
  rintro _ _ ⟨_, rfl, (⟨k1, hkk1, rfl, hnk1, hmk1⟩ | ⟨rfl, hmk1⟩), heq⟩
  · --
    obtain rfl := heq.symm
    have hfd := fd_some hkk1 hnk1 hmk1
    refine .w 21 .lss <| .nil ?_
    refine .cd (fun C1 => ?_) (fun C1 => ?_)
    · --
      omega
    refine .skip <| .seq <| .seq <| .r <| .w 23 .mvI <| .w 24 .gtr <| .nil ?_
    refine .cd (fun C2 => ?_) (fun C2 => ?_)
    · --
      refine .seq <| .r <| .w 25 (.ldb T.ag69 ok.m1 T.sz69) <| .ur' (.stW (vs := [.slice sa sl.length sc, .slice na nl.length nc, .slice pa pl.length pc, .int .i64 lf, .bool gn, .int .i64 mn]) T.sz69 ok (oneL rfl)) ?_
      rintro η5 ⟨ok, cg⟩
      refine .w 7 .asI <| .nil ?_
      refine .ret ⟨.tuple #[.agg #[.slice sa sl.length sc, .slice na nl.length nc, .slice pa pl.length pc, .int .i64 lf, .bool gn, .int .i64 mn], .int .i64 5], Res.many (vs := [.agg #[.slice sa sl.length sc, .slice na nl.length nc, .slice pa pl.length pc, .int .i64 lf, .bool gn, .int .i64 mn], .int .i64 5]) rfl ⟨⟨_, rfl, load_ag T.ag69 ok.m0 T.sz69⟩, rfl, trivial⟩ rfl, ⟨⟨sa, sc, sl, na, nc, nl, pa, pc, pl, lf, gn, mn⟩, by rw [truncW_f (by exact hw0) (hasW_y (by exact hfd)) (by omega)] <;> rfl, by rw [truncW_f (by exact hw0) (hasW_y (by exact hfd)) (by omega)], ok.chg, ⟨ok.r0.mono (fun _ h => .inl (And.left h)), ok.r1.mono (fun _ h => .inl (And.left h)), ok.r2.mono (fun _ h => .inl (And.left h))⟩⟩⟩
    refine .skip <| .seq <| .r <| .w 26 (.ldb T.ag69 ok.m1 T.sz69) <| .w 27 .mvT <| .w 28 .mvI <| .w 29 (.bd #[.int .i64 1, .int .i64 (p : Int), .string (BA n), .slice none 0 0] T.zr152 T.pl152 rfl) <| ?_
    refine .c' 30 .func (change_any (E := (fun j => E j ∧ j < h.size)) (sa := sa) (na := na) (pa := pa) (sc := sc) (nc := nc) (pc := pc) (sl := sl) (nl := nl) (pl := pl) (lf := lf) (gn := gn) (mn := mn) (xk := 1) (xp := p) (xn := n) (xl := ([] : List UInt8)) (xa := none) (xc := 0) ⟨(ok.r0), (ok.r1), (ok.r2)⟩ hs hl (RdL.nil _ _ _) (by simp only [List.length_nil]; omega)) ?_
    rintro _ η6 ⟨wch1, rfl, hwch1, hrch1⟩
    have hsz0 := ok.chg.size
    have ok := ok.grow hrch1.ext (r := flwI (fun j => E j ∧ j < h.size) (sa, sl.length, sc) sl) (by simp) (docI (fun j => (fun j => E j ∧ j < h.size) j ∨ Nw η3 η6 j) wch1) hrch1.rd (fun j hj => hj)
    refine .w 31 .ex <| .w 32 .ex <| .ur' (.stW (vs := [.slice wch1.sa wch1.sl.length wch1.sc, .slice wch1.na wch1.nl.length wch1.nc, .slice wch1.pa wch1.pl.length wch1.pc, .int .i64 wch1.left, .bool wch1.gone, .int .i64 wch1.many]) T.sz69 ok (oneL rfl)) ?_
    rintro η7 ⟨ok, cg⟩
    refine .w 7 .asI <| .nil ?_
    refine .ret ⟨.tuple #[.agg #[.slice wch1.sa wch1.sl.length wch1.sc, .slice wch1.na wch1.nl.length wch1.nc, .slice wch1.pa wch1.pl.length wch1.pc, .int .i64 wch1.left, .bool wch1.gone, .int .i64 wch1.many], .int .i64 ((changeW (RW.abs ⟨sa, sc, sl, na, nc, nl, pa, pc, pl, lf, gn, mn⟩) ⟨1, p, n, ([] : List UInt8)⟩).2 : Int)], Res.many (vs := [.agg #[.slice wch1.sa wch1.sl.length wch1.sc, .slice wch1.na wch1.nl.length wch1.nc, .slice wch1.pa wch1.pl.length wch1.pc, .int .i64 wch1.left, .bool wch1.gone, .int .i64 wch1.many], .int .i64 ((changeW (RW.abs ⟨sa, sc, sl, na, nc, nl, pa, pc, pl, lf, gn, mn⟩) ⟨1, p, n, ([] : List UInt8)⟩).2 : Int)]) rfl ⟨⟨_, rfl, load_ag T.ag69 ok.m0 T.sz69⟩, rfl, trivial⟩ rfl, ⟨wch1, by rw [truncW_d (by exact hw0) (hasW_y (by exact hfd)) (by omega)] <;> rfl, by rw [truncW_d (by exact hw0) (hasW_y (by exact hfd)) (by omega)]; exact hwch1, ok.chg, (ok.r0).mono (ew_up (fun j hj => by rcases hj with h | h; exact .inl h.1; exact .inr (Nat.le_trans hsz0 h.1)) ok.l0)⟩⟩
  obtain rfl := heq.symm
  have hfd := fd_none hmk1
  refine .w 21 .lss <| .nil ?_
  refine .ct <| .seq <| .r <| .w 22 (.ldb T.ag69 ok.m1 T.sz69) <| .ur' (.stW (vs := [.slice sa sl.length sc, .slice na nl.length nc, .slice pa pl.length pc, .int .i64 lf, .bool gn, .int .i64 mn]) T.sz69 ok (oneL rfl)) ?_
  rintro η8 ⟨ok, cg⟩
  refine .w 7 .asI <| .nil ?_
  refine .ret ⟨.tuple #[.agg #[.slice sa sl.length sc, .slice na nl.length nc, .slice pa pl.length pc, .int .i64 lf, .bool gn, .int .i64 mn], .int .i64 4], Res.many (vs := [.agg #[.slice sa sl.length sc, .slice na nl.length nc, .slice pa pl.length pc, .int .i64 lf, .bool gn, .int .i64 mn], .int .i64 4]) rfl ⟨⟨_, rfl, load_ag T.ag69 ok.m0 T.sz69⟩, rfl, trivial⟩ rfl, ⟨⟨sa, sc, sl, na, nc, nl, pa, pc, pl, lf, gn, mn⟩, by rw [truncW_n (by exact hw0) (hasW_n (by exact hfd))] <;> rfl, by rw [truncW_n (by exact hw0) (hasW_n (by exact hfd))], ok.chg, ⟨ok.r0.mono (fun _ h => .inl (And.left h)), ok.r1.mono (fun _ h => .inl (And.left h)), ok.r2.mono (fun _ h => .inl (And.left h))⟩⟩⟩

set_option maxRecDepth 100000 in
set_option maxHeartbeats 2000000 in
theorem rremove_any {h : Heap} {E : Nat → Prop} {sa na pa : Option Addr} {sc nc pc : Nat} {sl nl : List RWF} {pl : List RWC} {lf : Int} {gn : Bool} {mn : Int} {n : List UInt8} (hw : DocW h E ⟨sa, sc, sl, na, nc, nl, pa, pc, pl, lf, gn, mn⟩) (hs : WS (RW.abs ⟨sa, sc, sl, na, nc, nl, pa, pc, pl, lf, gn, mn⟩)) (hl : lf ≤ 9223372036854775807) : HC Try.prog 77 #[.agg #[.slice sa sl.length sc, .slice na nl.length nc, .slice pa pl.length pc, .int .i64 lf, .bool gn, .int .i64 mn], .string (BA n)] h (fun v h' => ∃ w : RW, v = .tuple #[.agg #[.slice w.sa w.sl.length w.sc, .slice w.na w.nl.length w.nc, .slice w.pa w.pl.length w.pc, .int .i64 w.left, .bool w.gone, .int .i64 w.many], .int .i64 ((removeW (RW.abs ⟨sa, sc, sl, na, nc, nl, pa, pc, pl, lf, gn, mn⟩) n).2 : Int)] ∧ w.abs = (removeW (RW.abs ⟨sa, sc, sl, na, nc, nl, pa, pc, pl, lf, gn, mn⟩) n).1 ∧ WRet h E w h') := by
  have hsm := hs.many
  have hsl1 := hs.nowl
  have hsl2 := hs.pendl
  have hsl3 := hs.safel
  simp only [RW.abs, List.length_map] at hsm hsl1 hsl2 hsl3
  have hnb := nowb_of hs.nowb
  have ok := (Hp.nil h none_).old (chwI (fun j => E j ∧ j < h.size) (pa, pl.length, pc) pl) (hw.p.lt (by decide)) (fun j hj => hj.2)
  have ok := ok.old (flwI (fun j => E j ∧ j < h.size) (na, nl.length, nc) nl) (hw.n.lt (by decide)) (fun j hj => hj.2)
  have ok := ok.old (flwI (fun j => E j ∧ j < h.size) (sa, sl.length, sc) sl) (hw.s.lt (by decide)) (fun j hj => hj.2)
  have hcn := hw.n.m
  have hcs := hw.s.m
  have hcp := hw.p.m
  simp only at hcn hcs hcp
  refine HC.go Try.func77 26 ?_
  refine .seq <| .r <| .a' 2 (.bxA (cs := [.slice sa sl.length sc, .slice na nl.length nc, .slice pa pl.length pc, .int .i64 lf, .bool gn, .int .i64 mn]) ok) ?_
  rintro _ η1 ⟨pb1, rfl, ok, xe⟩
  refine .a' 4 (.alA T.zr69 ok) ?_
  rintro _ η2 ⟨pb2, rfl, ok, xe⟩
  refine .w 5 .asI <| .nil ?_
  refine .seq <| .seq <| .r <| .w 7 (.ldb T.ag69 ok.m1 T.sz69) <| .w 8 .mvT <| .c' 9 .func (rwrong_any (n := n) (y := 0) (z := 0)) ?_
  rintro _ η3 ⟨rfl, hx⟩
  have ok := ok.ext hx
  refine .w 6 .asI <| .nil ?_
  refine .seq <| .r <| .w 10 .mvI <| .w 11 .neq <| .nil ?_
  refine .cd (fun C0 => ?_) (fun C0 => ?_)
  · --
    refine .seq <| .r <| .w 12 (.ldb T.ag69 ok.m1 T.sz69) <| .w 13 .mvI <| .ur' (.stW (vs := [.slice sa sl.length sc, .slice na nl.length nc, .slice pa pl.length pc, .int .i64 lf, .bool gn, .int .i64 mn]) T.sz69 ok (oneL rfl)) ?_
    rintro η4 ⟨ok, cg⟩
    refine .w 5 .asI <| .nil ?_
    refine .ret ⟨.tuple #[.agg #[.slice sa sl.length sc, .slice na nl.length nc, .slice pa pl.length pc, .int .i64 lf, .bool gn, .int .i64 mn], .int .i64 (wrongW gn n 0 0 : Int)], Res.many (vs := [.agg #[.slice sa sl.length sc, .slice na nl.length nc, .slice pa pl.length pc, .int .i64 lf, .bool gn, .int .i64 mn], .int .i64 (wrongW gn n 0 0 : Int)]) rfl ⟨⟨_, rfl, load_ag T.ag69 ok.m0 T.sz69⟩, rfl, trivial⟩ rfl, ⟨⟨sa, sc, sl, na, nc, nl, pa, pc, pl, lf, gn, mn⟩, by rw [removeW_w (by exact C0)] <;> rfl, by rw [removeW_w (by exact C0)], ok.chg, ⟨ok.r0.mono (fun _ h => .inl (And.left h)), ok.r1.mono (fun _ h => .inl (And.left h)), ok.r2.mono (fun _ h => .inl (And.left h))⟩⟩⟩
  have hw0 : wrongW gn n 0 0 = 0 := by omega
  refine .skip <| .seq <| .seq <| .r <| .w 14 (.fa T.fd69_1) <| .w 15 (.ldx T.ag66 ok.m1) <| .w 16 .mvT <| .c' 17 .func (find_any (a := na) (c := nc) (l := nl) (n := n) ok.r1) ?_
  rintro _ _ ⟨_, rfl, (⟨k1, hkk1, rfl, hnk1, hmk1⟩ | ⟨rfl, hmk1⟩), heq⟩
  · --
    obtain rfl := heq.symm
    have hfd := fd_some hkk1 hnk1 hmk1
    refine .w 18 .lss <| .nil ?_
    refine .cd (fun C1 => ?_) (fun C1 => ?_)
    · --
      omega
    refine .skip <| .seq <| .r <| .w 20 (.ldb T.ag69 ok.m1 T.sz69) <| .w 21 .mvT <| .w 22 (.bd #[.int .i64 2, .int .i64 0, .string (BA n), .slice none 0 0] T.zr152 T.pl152 rfl) <| ?_
    refine .c' 23 .func (change_any (E := (fun j => E j ∧ j < h.size)) (sa := sa) (na := na) (pa := pa) (sc := sc) (nc := nc) (pc := pc) (sl := sl) (nl := nl) (pl := pl) (lf := lf) (gn := gn) (mn := mn) (xk := 2) (xp := 0) (xn := n) (xl := ([] : List UInt8)) (xa := none) (xc := 0) ⟨(ok.r0), (ok.r1), (ok.r2)⟩ hs hl (RdL.nil _ _ _) (by simp only [List.length_nil]; omega)) ?_
    rintro _ η5 ⟨wch1, rfl, hwch1, hrch1⟩
    have hsz0 := ok.chg.size
    have ok := ok.grow hrch1.ext (r := flwI (fun j => E j ∧ j < h.size) (sa, sl.length, sc) sl) (by simp) (docI (fun j => (fun j => E j ∧ j < h.size) j ∨ Nw η3 η5 j) wch1) hrch1.rd (fun j hj => hj)
    refine .w 24 .ex <| .w 25 .ex <| .ur' (.stW (vs := [.slice wch1.sa wch1.sl.length wch1.sc, .slice wch1.na wch1.nl.length wch1.nc, .slice wch1.pa wch1.pl.length wch1.pc, .int .i64 wch1.left, .bool wch1.gone, .int .i64 wch1.many]) T.sz69 ok (oneL rfl)) ?_
    rintro η6 ⟨ok, cg⟩
    refine .w 5 .asI <| .nil ?_
    refine .ret ⟨.tuple #[.agg #[.slice wch1.sa wch1.sl.length wch1.sc, .slice wch1.na wch1.nl.length wch1.nc, .slice wch1.pa wch1.pl.length wch1.pc, .int .i64 wch1.left, .bool wch1.gone, .int .i64 wch1.many], .int .i64 ((changeW (RW.abs ⟨sa, sc, sl, na, nc, nl, pa, pc, pl, lf, gn, mn⟩) ⟨2, 0, n, ([] : List UInt8)⟩).2 : Int)], Res.many (vs := [.agg #[.slice wch1.sa wch1.sl.length wch1.sc, .slice wch1.na wch1.nl.length wch1.nc, .slice wch1.pa wch1.pl.length wch1.pc, .int .i64 wch1.left, .bool wch1.gone, .int .i64 wch1.many], .int .i64 ((changeW (RW.abs ⟨sa, sc, sl, na, nc, nl, pa, pc, pl, lf, gn, mn⟩) ⟨2, 0, n, ([] : List UInt8)⟩).2 : Int)]) rfl ⟨⟨_, rfl, load_ag T.ag69 ok.m0 T.sz69⟩, rfl, trivial⟩ rfl, ⟨wch1, by rw [removeW_d (by exact hw0) (hasW_y (by exact hfd))] <;> rfl, by rw [removeW_d (by exact hw0) (hasW_y (by exact hfd))]; exact hwch1, ok.chg, (ok.r0).mono (ew_up (fun j hj => by rcases hj with h | h; exact .inl h.1; exact .inr (Nat.le_trans hsz0 h.1)) ok.l0)⟩⟩
  obtain rfl := heq.symm
  have hfd := fd_none hmk1
  refine .w 18 .lss <| .nil ?_
  refine .ct <| .seq <| .r <| .w 19 (.ldb T.ag69 ok.m1 T.sz69) <| .ur' (.stW (vs := [.slice sa sl.length sc, .slice na nl.length nc, .slice pa pl.length pc, .int .i64 lf, .bool gn, .int .i64 mn]) T.sz69 ok (oneL rfl)) ?_
  rintro η7 ⟨ok, cg⟩
  refine .w 5 .asI <| .nil ?_
  refine .ret ⟨.tuple #[.agg #[.slice sa sl.length sc, .slice na nl.length nc, .slice pa pl.length pc, .int .i64 lf, .bool gn, .int .i64 mn], .int .i64 4], Res.many (vs := [.agg #[.slice sa sl.length sc, .slice na nl.length nc, .slice pa pl.length pc, .int .i64 lf, .bool gn, .int .i64 mn], .int .i64 4]) rfl ⟨⟨_, rfl, load_ag T.ag69 ok.m0 T.sz69⟩, rfl, trivial⟩ rfl, ⟨⟨sa, sc, sl, na, nc, nl, pa, pc, pl, lf, gn, mn⟩, by rw [removeW_n (by exact hw0) (hasW_n (by exact hfd))] <;> rfl, by rw [removeW_n (by exact hw0) (hasW_n (by exact hfd))], ok.chg, ⟨ok.r0.mono (fun _ h => .inl (And.left h)), ok.r1.mono (fun _ h => .inl (And.left h)), ok.r2.mono (fun _ h => .inl (And.left h))⟩⟩⟩

end Go.Proofs.Ytpebbkhainpfaaa
