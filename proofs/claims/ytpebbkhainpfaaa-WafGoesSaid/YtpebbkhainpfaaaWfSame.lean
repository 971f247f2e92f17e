/- Rows of frames that are read; the document's Same, and few. Conditions: the rows are readable. -/
import Derived.Test.YtpebbkhainpfaaaWfRScan
import Derived.Test.YtpebbkhainpfaaaWfLat
namespace Go.Proofs.Ytpebbkhainpfaaa
open Go Go.HL
@[reducible] def vfN (l : List Fr) (xa : Nat → Option Addr) (xc : Nat → Nat) (i : Nat) : List Value := [.int .i64 (frN l i).page, .int .i64 (frN l i).commit, .slice (xa i) (frN l i).b.length (xc i)]
theorem vfN_len (l : List Fr) (xa : Nat → Option Addr) (xc : Nat → Nat) (i : Nat) : (vfN l xa xc i).length = 3 := rfl
structure Frs (h : Heap) (F E : Nat → Prop) (x : SV) (l : List Fr) (xa : Nat → Option Addr) (xc : Nat → Nat) : Prop where
  rd : RdL h F E x l
  sl : Sl h 3 (sv x) ((List.range l.length).flatMap (vfN l xa xc))
  b : ∀ i, i < l.length → RdL h E E (xa i, (frN l i).b.length, xc i) (frN l i).b
theorem Frs.st {G : Nat → Prop} {h h' : Heap} {F E : Nat → Prop} {x : SV} {l : List Fr} {xa : Nat → Option Addr} {xc : Nat → Nat} (c : Chg G h h') (hF : ∀ j, F j → ¬ G j) (hE : ∀ j, E j → ¬ G j) (r : Frs h F E x l xa xc) : Frs h' F E x l xa xc := by
  refine ⟨r.rd.st c hF hE, ?_, fun i hi => (r.b i hi).st c hE hE⟩
  obtain ⟨a, n, cc, hv, h1, h2, h3, h4⟩ := r.sl
  refine ⟨a, n, cc, hv, h1, h2, h3, fun hn => ?_⟩
  obtain ⟨b, o, e, hc⟩ := h4 hn
  have hx : x = (a, n, cc) := by
    obtain ⟨x1, x2, x3⟩ := x
    injection hv with g1 g2 g3
    simp only at g1 g2 g3
    rw [g1, g2, g3]
  have hl : 0 < l.length := by have := r.rd.n; rw [hx] at this; simp only at this; omega
  obtain ⟨b2, o2, e2, hb, _⟩ := r.rd.at' hl
  rw [hx, e] at e2
  injection e2 with e2; injection e2 with e2 e3; subst e2
  exact ⟨b, o, e, fun i v hi => c.cell (hc i v hi) (hF b hb)⟩
@[reducible] def frsI (F E : Nat → Prop) (x : SV) (l : List Fr) (xa : Nat → Option Addr) (xc : Nat → Nat) : Itm := ⟨fun h => Frs h F E x l xa xc, fun j => F j ∨ E j, fun _ _ _ c d r => r.st c (fun j hj => d j (.inl hj)) (fun j hj => d j (.inr hj))⟩
theorem RdL.frs {h : Heap} {F E : Nat → Prop} {x : SV} {l : List Fr} (r : RdL h F E x l) : ∃ xa xc, Frs h F E x l xa xc := by
  obtain ⟨css, h1, h2⟩ := r.cells
  have hex : ∀ i, ∃ y : Option Addr × Nat, i < l.length → css[i]? = some [.int .i64 (frN l i).page, .int .i64 (frN l i).commit, .slice y.1 (frN l i).b.length y.2] ∧ RdL h E E (y.1, (frN l i).b.length, y.2) (frN l i).b := by
    intro i
    by_cases hi : i < l.length
    · have hic : i < css.length := by have := h2.1; omega
      obtain ⟨y, e, hr⟩ := h2.2 i hic hi
      obtain ⟨a, c, rfl, _⟩ := hr.form
      have hf : frN l i = l[i] := by simp [frN, hi]
      refine ⟨(a, c), fun _ => ⟨?_, by rw [hf]; exact hr⟩⟩
      rw [List.getElem?_eq_getElem hic, e, hf]
      rfl
    · exact ⟨(none, 0), fun h => absurd h hi⟩
  obtain ⟨y, hy⟩ := Classical.axiomOfChoice hex
  refine ⟨fun i => (y i).1, fun i => (y i).2, r, ?_, fun i hi => (hy i hi).2⟩
  have : css.flatten = (List.range l.length).flatMap (vfN l (fun i => (y i).1) fun i => (y i).2) := by
    rw [List.flatMap_def]
    congr 1
    apply List.ext_getElem?
    intro i
    by_cases hi : i < l.length
    · rw [(hy i hi).1]; simp [hi, vfN]
    · rw [List.getElem?_eq_none (by have := h2.1; omega), List.getElem?_eq_none (by simp; omega)]
  rw [← this]; exact h1
theorem frs_at {h : Heap} {l : List Fr} {xa : Nat → Option Addr} {xc : Nat → Nat} {b o n c : Nat} (r : Sl h 3 (.slice (some ⟨b, o, none⟩) n c) ((List.range l.length).flatMap (vfN l xa xc))) {i j : Nat} (hi : i < l.length) {v : Value} (hv : (vfN l xa xc i)[j]? = some v) : cell h b (o + i * 3 + j) = some v :=
  sl_at (vfN_len l xa xc) r (i := i) (by simpa using hi) (by simpa using hv)
theorem frs_ats {h : Heap} {l : List Fr} {xa : Nat → Option Addr} {xc : Nat → Nat} {b o n c : Nat} (r : Sl h 3 (.slice (some ⟨b, o, none⟩) n c) ((List.range l.length).flatMap (vfN l xa xc))) {i : Nat} (hi : i < l.length) : ∀ j v, (vfN l xa xc i)[j]? = some v → cell h b (o + i * 3 + j) = some v := fun _ _ hv => frs_at r hi hv
theorem fr_ext {f g : Fr} (h1 : f.page = g.page) (h2 : f.commit = g.commit) (h3 : f.b = g.b) : f = g := by cases f; cases g; simp_all
def fewN (l : List Fr) : Bool := decide (l.length ≤ 40) && l.all fun f => decide (f.b.length ≤ 8192)
theorem fewN_iff {l : List Fr} : fewN l = true ↔ l.length ≤ 40 ∧ ∀ i, i < l.length → (frN l i).b.length ≤ 8192 := by
  simp only [fewN, Bool.and_eq_true, decide_eq_true_eq, List.all_eq_true]
  refine ⟨fun ⟨h1, h2⟩ => ⟨h1, fun i hi => ?_⟩, fun ⟨h1, h2⟩ => ⟨h1, fun f hf => ?_⟩⟩
  · have := h2 _ (List.getElem_mem hi); simpa [frN, hi] using this
  · obtain ⟨i, hi, rfl⟩ := List.mem_iff_getElem.1 hf
    have := h2 i hi; simpa [frN, hi] using this
theorem frN_lt {l : List Fr} {i : Nat} (h : i < l.length) : frN l i = l[i] := by simp [frN, h]
theorem Frs.pos {h : Heap} {F E : Nat → Prop} {a : Option Addr} {n c : Nat} {l : List Fr} {xa : Nat → Option Addr} {xc : Nat → Nat} (r : Frs h F E (a, n, c) l xa xc) (hp : 0 < l.length) : ∃ b o, a = some ⟨b, o, none⟩ ∧ F b := r.rd.pos hp

set_option maxRecDepth 100000 in
set_option maxHeartbeats 2000000 in
theorem fsame_any {h : Heap} {F E F' E' : Nat → Prop} {a b : Option Addr} {c d : Nat} {l l2 : List Fr} (hl : RdL h F E (a, l.length, c) l) (hm : RdL h F' E' (b, l2.length, d) l2) :
    HC Try.prog 16 #[.slice a l.length c, .slice b l2.length d] h (fun v h' => v = .bool (decide (l = l2)) ∧ h' = h) := by
  have hc2 := hl.m
  have hc1 : l.length ≤ c := hl.c
  simp only at hc2
  obtain ⟨xa, xc, hf⟩ := RdL.frs hl
  have hd2 := hm.m
  have hd1 : l2.length ≤ d := hm.c
  simp only at hd2
  obtain ⟨xb, xd, hf2⟩ := RdL.frs hm
  refine HC.go Try.func16 55 ?_
  refine .seq <| .r <| .w 4 .asB <| .nil ?_
  refine .seq <| .seq <| .r <| .w 6 .mvS <| .w 7 (.len T.el24) <| .w 8 .mvS <| .w 9 (.len T.el24) <| .w 10 .neq <| .nil ?_
  refine .cd (fun C0 => ?_) (fun C0 => ?_)
  · --
    refine .seq <| .r <| .w 4 .asB <| .nil ?_
    refine .ret ⟨.bool false, Res.one rfl rfl, ⟨by rw [decide_eq_false]; intro e; subst e; exact C0 rfl, rfl⟩⟩
  refine .skip <| .seq <| .seq <| .r <| .w 5 .asI <| .nil ?_
  refine .block fun K0 hK0 => .loop (fun m s hh => ∃ (i : Nat), Has s [(0, .slice a l.length c), (1, .slice b l2.length d), (5, .int .i64 (i : Int))] ∧ h = hh ∧ i ≤ l.length ∧ l.length = l2.length ∧ l.take i = l2.take i ∧ m = l.length - i) ?_ ?_
  · exact ⟨_, 0, ⟨rfl, rfl, rfl, trivial⟩, rfl, Nat.zero_le _, by omega, rfl, rfl⟩
  rintro _ _ _ ⟨i, hs, rfl, hi, hlm, ht, rfl⟩ J0 hJ0
  refine .frame hs fun τ => ?_
  refine .seq <| .seq <| .r <| .w 11 .mvI <| .w 12 .mvS <| .w 13 (.len T.el24) <| .w 14 .lss <| .nil ?_
  refine .cdr (fun C1 => ?_) (fun C1 => ?_)
  · --
    have hil : i = l.length := by omega
    have him : i = l2.length := by omega
    refine .exit <| hK0 _ _ <| .seq <| .r <| .w 4 .asB <| .nil ?_
    refine .ret ⟨.bool true, Res.one rfl rfl, ⟨by rw [decide_eq_true]; have := ht; rw [hil, List.take_length] at this; rw [this, ← hil, him, List.take_length], rfl⟩⟩
  have hil : i < l.length := by omega
  have him : i < l2.length := by omega
  refine .skip <| .seq <| .block fun K1 hK1 => .seq <| .q (hm := mixed) <| .w 17 .mvS <| .w 18 .mvI <| ?_
  obtain ⟨bb1, oo1, rfl, fb1⟩ := hf.pos (n := l.length) (by omega)
  refine .w 19 (.ix i T.el24 T.sz38) <| .w 20 (.fa T.fd38_0) <| .w 21 (.ld T.ag3 (frs_at (hf).sl (i := i) (j := 0) (by omega) rfl)) <| .w 22 .mvS <| .w 23 .mvI <| ?_
  obtain ⟨bb2, oo2, rfl, fb2⟩ := hf2.pos (n := l2.length) (by omega)
  refine .w 24 (.ix i T.el24 T.sz38) <| .w 25 (.fa T.fd38_0) <| .w 26 (.ld T.ag3 (frs_at (hf2).sl (i := i) (j := 0) (by omega) rfl)) <| .w 27 .neq <| .w 28 .mvB <| .sd (fun G28 => ?_) (fun G28 => ?_)
  ·
    refine .x 29 <| .x 30 <| .x 31 <| .x 32 <| .x 33 <| .x 34 <| .x 35 <| .x 36 <| .x 37 <| .x 38 <| .x 39 <| .w 40 .pkt <| .w 41 .mvB <| .x 42 <| .x 43 <| .x 44 <| .x 45 <| .x 46 <| .x 47 <| .x 48 <| .x 49 <| .x 50 <| .x 51 <| .x 52 <| .x 53 <| .w 54 .pkt <| .nil ?_
    refine .ct <| .seq <| .r <| .w 4 .asB <| .nil ?_
    refine .ret ⟨.bool false, Res.one rfl rfl, ⟨by rw [decide_eq_false]; intro e; subst e; first | (exact absurd rfl G28) | (exact absurd rfl G41) | (exact absurd rfl C2), rfl⟩⟩
  refine .w 29 .mvS <| .w 30 .mvI <| .w 31 (.ix i T.el24 T.sz38) <| .w 32 (.fa T.fd38_1) <| .w 33 (.ld T.ag3 (frs_at (hf).sl (i := i) (j := 1) (by omega) rfl)) <| .w 34 .mvS <| .w 35 .mvI <| .w 36 (.ix i T.el24 T.sz38) <| .w 37 (.fa T.fd38_1) <| .w 38 (.ld T.ag3 (frs_at (hf2).sl (i := i) (j := 1) (by omega) rfl)) <| .w 39 .neq <| .w 40 .pkf <| .w 41 .mvB <| .sd (fun G41 => ?_) (fun G41 => ?_)
  ·
    refine .x 42 <| .x 43 <| .x 44 <| .x 45 <| .x 46 <| .x 47 <| .x 48 <| .x 49 <| .x 50 <| .x 51 <| .x 52 <| .x 53 <| .w 54 .pkt <| .nil ?_
    refine .ct <| .seq <| .r <| .w 4 .asB <| .nil ?_
    refine .ret ⟨.bool false, Res.one rfl rfl, ⟨by rw [decide_eq_false]; intro e; subst e; first | (exact absurd rfl G28) | (exact absurd rfl G41) | (exact absurd rfl C2), rfl⟩⟩
  refine .w 42 .mvS <| .w 43 .mvI <| .w 44 (.ix i T.el24 T.sz38) <| .w 45 (.fa T.fd38_2) <| ?_
  have hk1 : RdL h E E ((xa i), (frN l i).b.length, (xc i)) ((frN l i).b) := (hf).b i (by omega)
  refine .w 46 (.ld T.ag22 (frs_at (hf).sl (i := i) (j := 2) (by omega) rfl)) <| .w 47 .mvS <| .w 48 .mvI <| .w 49 (.ix i T.el24 T.sz38) <| .w 50 (.fa T.fd38_2) <| ?_
  have hk2 : RdL h E' E' ((xb i), (frN l2 i).b.length, (xd i)) ((frN l2 i).b) := (hf2).b i (by omega)
  refine .w 51 (.ld T.ag22 (frs_at (hf2).sl (i := i) (j := 2) (by omega) rfl)) <| .k 52 .func (same_any (a := (xa i)) (c := (xc i)) (l := (frN l i).b) (b := (xb i)) (d := (xd i)) (l2 := (frN l2 i).b) hk1 hk2) <| .w 53 .notd <| .w 54 .pkf <| .nil ?_
  refine .cd (fun C2 => ?_) (fun C2 => ?_)
  · --
    refine .seq <| .r <| .w 4 .asB <| .nil ?_
    refine .ret ⟨.bool false, Res.one rfl rfl, ⟨by rw [decide_eq_false]; intro e; subst e; first | (exact absurd rfl G28) | (exact absurd rfl G41) | (exact absurd rfl C2), rfl⟩⟩
  refine .skip <| .end <| hK1 _ _ <| .r <| .w 15 .mvI <| .w 16 (.addI (b := 1)) <| .w 5 .asI <| .nil ?_
  refine .end <| hJ0 _ _ _ ⟨i + 1, ⟨rfl, rfl, rfl, trivial⟩, rfl, by omega, by omega, by rw [take_next hil, take_next him, ht, ← frN_lt hil, ← frN_lt him]; congr 2; exact fr_ext (by omega) (by omega) (by simpa using C2), rfl⟩ (by omega)

set_option maxRecDepth 100000 in
set_option maxHeartbeats 2000000 in
theorem few_any {h : Heap} {F E : Nat → Prop} {a : Option Addr} {c : Nat} {l : List Fr} (hl : RdL h F E (a, l.length, c) l) :
    HC Try.prog 17 #[.slice a l.length c] h (fun v h' => v = .bool (fewN l) ∧ h' = h) := by
  have hc2 := hl.m
  have hc1 : l.length ≤ c := hl.c
  simp only at hc2
  obtain ⟨xa, xc, hf⟩ := RdL.frs hl
  refine HC.go Try.func17 20 ?_
  refine .seq <| .r <| .w 2 .asB <| .nil ?_
  refine .seq <| .seq <| .r <| .w 4 .mvS <| .w 5 (.len T.el24) <| .w 6 .gtr <| .nil ?_
  refine .cd (fun C0 => ?_) (fun C0 => ?_)
  · --
    refine .seq <| .r <| .w 2 .asB <| .nil ?_
    refine .ret ⟨.bool false, Res.one rfl rfl, ⟨congrArg _ (Bool.eq_false_iff.2 fun h2 => by have := (fewN_iff.1 h2).1; omega).symm, rfl⟩⟩
  refine .skip <| .seq <| .seq <| .r <| .w 3 .asI <| .nil ?_
  refine .block fun K0 hK0 => .loop (fun m s hh => ∃ (i : Nat), Has s [(0, .slice a l.length c), (3, .int .i64 (i : Int))] ∧ h = hh ∧ i ≤ l.length ∧ l.length ≤ 40 ∧ (∀ j, j < i → (frN l j).b.length ≤ 8192) ∧ m = l.length - i) ?_ ?_
  · exact ⟨_, 0, ⟨rfl, rfl, trivial⟩, rfl, Nat.zero_le _, by omega, fun j h => by omega, rfl⟩
  rintro _ _ _ ⟨i, hs, rfl, hi, h40, hj, rfl⟩ J0 hJ0
  refine .frame hs fun τ => ?_
  refine .seq <| .seq <| .r <| .w 7 .mvI <| .w 8 .mvS <| .w 9 (.len T.el24) <| .w 10 .lss <| .nil ?_
  refine .cdr (fun C1 => ?_) (fun C1 => ?_)
  · --
    have hil : i = l.length := by omega
    refine .exit <| hK0 _ _ <| .seq <| .r <| .w 2 .asB <| .nil ?_
    refine .ret ⟨.bool true, Res.one rfl rfl, ⟨congrArg _ (fewN_iff.2 ⟨h40, fun j h => hj j (by omega)⟩).symm, rfl⟩⟩
  have hil : i < l.length := by omega
  refine .skip <| .seq <| .block fun K1 hK1 => .seq <| .r <| .w 13 .mvS <| .w 14 .mvI <| ?_
  obtain ⟨bb1, oo1, rfl, fb1⟩ := hf.pos (n := l.length) (by omega)
  refine .w 15 (.ix i T.el24 T.sz38) <| .w 16 (.fa T.fd38_2) <| ?_
  have hk1 : RdL h E E ((xa i), (frN l i).b.length, (xc i)) ((frN l i).b) := (hf).b i (by omega)
  refine .w 17 (.ld T.ag22 (frs_at (hf).sl (i := i) (j := 2) (by omega) rfl)) <| .w 18 (.len T.el22) <| .w 19 .gtr <| .nil ?_
  refine .cd (fun C2 => ?_) (fun C2 => ?_)
  · --
    refine .seq <| .r <| .w 2 .asB <| .nil ?_
    refine .ret ⟨.bool false, Res.one rfl rfl, ⟨congrArg _ (Bool.eq_false_iff.2 fun h2 => by have := (fewN_iff.1 h2).2 i hil; omega).symm, rfl⟩⟩
  refine .skip <| .end <| hK1 _ _ <| .r <| .w 11 .mvI <| .w 12 (.addI (b := 1)) <| .w 3 .asI <| .nil ?_
  refine .end <| hJ0 _ _ _ ⟨i + 1, ⟨rfl, rfl, trivial⟩, rfl, by omega, h40, (fun j hj2 => (Nat.lt_succ_iff_lt_or_eq.1 hj2).elim (hj j) (fun e => (by subst e; omega))), rfl⟩ (by omega)

end Go.Proofs.Ytpebbkhainpfaaa
