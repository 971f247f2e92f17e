/- The call of CachePlays returns true and turns nothing old. Conditions: the calls of the input are readable. -/
import Derived.Test.YtdbiggfnnhmpiaaCaRP3
import Derived.Test.YtdbiggfnnhmpiaaCaOpen
namespace Go.Proofs.Ytdbiggfnnhmpiaa
open Go Go.HL

@[reducible] def cI (F : Nat → Prop) (p : Nat) (room : Int) (L : List AP) : Itm := ⟨fun h => CRep h F p room L, F, fun _ _ _ c d r => r.chg c d⟩
@[reducible] def rcI (E : Nat → Prop) (x : SV) (L : List AP) : Itm := ⟨fun h => RC h E x L, E, fun _ _ _ c d r => r.st c d⟩
/-- A call of the input, all of whose blocks are old. -/
structure OpIn (n0 : Nat) (h : Heap) (o : OpC5) (x : AOp) : Prop where
  is : OpIs h o x
  old : ∀ j, blk (sv o.b) j ∨ blk (sv o.l) j → j < n0
@[reducible] def opsI (n0 : Nat) (os : List OpC5) (M : List AOp) : Itm := ⟨fun h => All2 (OpIn n0 h) os M, fun j => j < n0, fun _ _ _ c d r => r.mono fun _ _ q =>
  ⟨⟨q.is.kind, q.is.no, Sl.chg c q.is.b fun j hj => d j (q.old j (.inl hj)), q.is.d, Sl.chg c q.is.l fun j hj => d j (q.old j (.inr hj))⟩, q.old⟩⟩
theorem OpIn.of {h : Heap} {o : OpC5} {x : AOp} (r : OpIs h o x) : OpIn h.size h o x := ⟨r, fun j hj => hj.elim (blk_lt (by omega) r.b j) (blk_lt (by omega) r.l j)⟩
/-- What the pages' numbers are. -/
def Iv (i : Nat) (L : List AP) : Prop := (∀ x ∈ L, 1 ≤ x.no ∧ InI x.no) ∧ L.length ≤ i
theorem Iv.zero : Iv 0 [] := ⟨by simp, by simp⟩
theorem Iv.mono {i j : Nat} {L : List AP} (r : Iv i L) (h : i ≤ j) : Iv j L := ⟨r.1, Nat.le_trans r.2 h⟩
theorem Iv.sub {i : Nat} {L L' : List AP} (r : Iv i L) (hs : ∀ x ∈ L', x ∈ L) (hl : L'.length ≤ L.length) : Iv i L' := ⟨fun x hx => r.1 x (hs x hx), Nat.le_trans hl r.2⟩
theorem Iv.get {i : Nat} {L : List AP} (r : Iv i L) (no : Int) : Iv (i + 1) (getL no L) := by
  unfold getL
  cases e : hit no L with
  | none => exact r.mono (by omega)
  | some x =>
    obtain ⟨hx, hxn⟩ := hit_some e
    exact ⟨fun y hy => by
      rcases List.mem_cons.1 hy with rfl | hy
      · exact r.1 _ hx
      · exact r.1 y (mem_rid.1 hy).1, by have := rid_len no L; have := r.2; simp; omega⟩
theorem Iv.put1 {i : Nat} {L : List AP} (r : Iv i L) {no : Int} (hn : 1 ≤ no) (hi : InI no) (b : List UInt8) (d : Bool) : Iv (i + 1) (putL1 no b d L) :=
  ⟨fun y hy => by
    rcases List.mem_cons.1 hy with rfl | hy
    · exact ⟨hn, hi⟩
    · exact r.1 y (mem_rid.1 hy).1, by have := putL1_len no b d L; have := r.2; omega⟩
theorem Iv.put {i : Nat} {L : List AP} (r : Iv i L) (room : Int) {no : Int} (hi : InI no) (b : List UInt8) (d : Bool) : Iv (i + 1) (putL room no b d L) := by
  unfold putL
  split
  · exact r.mono (by omega)
  · rename_i hn
    have h1 := r.put1 (by omega) hi b d
    split
    · exact h1
    · exact h1.sub (fun x hx => List.dropLast_subset _ hx) (by simp)
theorem mem_rev {l : List Int} {L : List AP} {x : AP} (hx : x ∈ L) : (x.no ∈ if l = [] then (nos L).reverse else l) ↔ asked l x.no = true := by
  unfold asked
  by_cases h : l = []
  · simp only [h, if_pos]
    have : x.no ∈ nos L := List.mem_map.2 ⟨x, hx, rfl⟩
    simp [this]
  · simp [h]
theorem cl_eq (l : List Int) (L : List AP) : cl (if l = [] then (nos L).reverse else l) L = L.map (clA l) := by
  unfold cl
  apply List.map_congr_left
  intro x hx
  have := mem_rev (l := l) hx
  unfold clA
  by_cases h : asked l x.no = true
  · rw [if_pos (this.2 h)]; simp [h]
  · rw [if_neg (fun e => h (this.1 e))]; simp [h]
theorem dr_eq (l : List Int) (L : List AP) : dr (if l = [] then (nos L).reverse else l) L = L.filter fun x => !asked l x.no := by
  unfold dr
  apply List.filter_congr
  intro x hx
  have := mem_rev (l := l) hx
  by_cases h : asked l x.no = true
  · have h2 := this.2 h
    rw [decide_eq_false (by simpa using h2), h]; rfl
  · have h2 : ¬ (x.no ∈ if l = [] then (nos L).reverse else l) := fun e => h (this.1 e)
    rw [decide_eq_true h2]
    simp [h]
theorem Iv.cl {i : Nat} {L : List AP} (r : Iv i L) (l : List Int) : Iv (i + 1) (L.map (clA l)) := ⟨fun x hx => by
  obtain ⟨y, hy, rfl⟩ := List.mem_map.1 hx
  exact r.1 y hy, by have := r.2; simp; omega⟩
theorem Iv.dr {i : Nat} {L : List AP} (r : Iv i L) (l : List Int) : Iv (i + 1) (L.filter fun x => !asked l x.no) := (r.sub (fun x hx => (List.mem_filter.1 hx).1) (List.length_filter_le _ _)).mono (by omega)
theorem strict_eq : ∀ {A B : List Int}, A.Pairwise (· < ·) → B.Pairwise (· < ·) → (∀ k, k ∈ A ↔ k ∈ B) → A = B
  | [], [], _, _, _ => rfl
  | [], b :: B, _, _, h => by have := (h b).2 List.mem_cons_self; simp at this
  | a :: A, [], _, _, h => by have := (h a).1 List.mem_cons_self; simp at this
  | a :: A, b :: B, hA, hB, h => by
    have h1 := List.pairwise_cons.1 hA
    have h2 := List.pairwise_cons.1 hB
    have hab : a = b := by
      have h3 := (h a).1 List.mem_cons_self
      have h4 := (h b).2 List.mem_cons_self
      rcases List.mem_cons.1 h3 with e | h3
      · exact e
      · rcases List.mem_cons.1 h4 with e | h4
        · exact e.symm
        · have := h2.1 a h3; have := h1.1 b h4; omega
    subst hab
    rw [strict_eq h1.2 h2.2 fun k => by
      have h3 := h k
      constructor
      · intro hk
        rcases List.mem_cons.1 (h3.1 (List.mem_cons_of_mem _ hk)) with e | h4
        · subst e; exact absurd (h1.1 k hk) (by omega)
        · exact h4
      · intro hk
        rcases List.mem_cons.1 (h3.2 (List.mem_cons_of_mem _ hk)) with e | h4
        · subst e; exact absurd (h2.1 k hk) (by omega)
        · exact h4]
/-- What both tell of the dirty pages. -/
theorem dirty_eq {L : List AP} (hn : (nos L).Nodup) {Q T : List Int} (hQ : Q.Perm (nos L)) (hs : Q.Pairwise (· ≤ ·)) (hT : T.Pairwise (· < ·)) (hd : ∀ k, k ∈ T ↔ ∃ x ∈ L, x.no = k ∧ x.d = true) : dirtyS Q L = dirtyS T L := by
  have h1 : Q.Pairwise (· < ·) := by
    have hnd : Q.Nodup := hQ.nodup_iff.2 hn
    exact (hs.and hnd).imp fun ⟨h1, h2⟩ => by omega
  let f : Int → Bool := fun k => ((hit k L).map fun x => x.d).getD false
  have h2 : dirtyS Q L = dirtyS (Q.filter f) L := by
    unfold dirtyS
    clear hQ hs h1
    induction Q with
    | nil => rfl
    | cons a q ih =>
      rw [List.flatMap_cons, List.filter_cons, ih]
      cases hf : f a with
      | true => rw [if_pos rfl, List.flatMap_cons]
      | false =>
        rw [if_neg (by simp)]
        have : dirty1 L a = [] := by
          unfold dirty1
          show toldL (hit a L) = []
          have hf' : ((hit a L).map fun x => x.d).getD false = false := hf
          cases e : hit a L with
          | none => rfl
          | some x => rw [e] at hf'; exact told_no (by simpa using hf')
        rw [this]; rfl
  rw [h2]
  congr 1
  refine strict_eq (h1.sublist List.filter_sublist) hT fun k => ?_
  rw [hd k, List.mem_filter]
  constructor
  · rintro ⟨hk, hf⟩
    obtain ⟨x, hx⟩ := hit_mem (hQ.mem_iff.1 hk)
    have hf' : ((hit k L).map fun x => x.d).getD false = true := hf
    rw [hx] at hf'
    exact ⟨x, (hit_some hx).1, (hit_some hx).2, by simpa using hf'⟩
  · rintro ⟨x, hx, hk, hxd⟩
    refine ⟨hQ.mem_iff.2 (List.mem_map.2 ⟨x, hx, hk⟩), ?_⟩
    obtain ⟨y, hy⟩ := hit_mem (no := k) (L := L) (List.mem_map.2 ⟨x, hx, hk⟩)
    have : y = x := nos_inj hn (hit_some hy).1 hx (by rw [(hit_some hy).2, hk])
    subst this
    show ((hit k L).map fun x => x.d).getD false = true
    rw [hy]; simpa using hxd
theorem Frames.form3 {h : Heap} {v : Value} {A : List AFr} (r : Frames h v A) : ∃ a n c, v = .slice a n c := let ⟨_, h1, _⟩ := r; let ⟨a, n, c, e, _⟩ := h1; ⟨a, n, c, e⟩
/-- Frames lie in no block of two cells of which one is a slice and one an int. -/
theorem Frames.box {h h' : Heap} {v : Value} {A : List AFr} {t : TypeId} {b : Nat} {x : Int} {a : Option Addr} {n c : Nat} (r : Frames h v A) (hb : h[b]? = some (.cells #[.int .i64 x, .slice a n c] t (0, 0))) (p : Chg (fun j => j = b) h h') : Frames h' v A := by
  obtain ⟨fl, h1, h2⟩ := r
  refine ⟨fl, h1.chg p fun j hj e => ?_, h2.1, fun i hi1 hi2 => ?_⟩
  · subst e
    obtain ⟨o, n', c', rfl, hn⟩ := hj
    have hl := h1.cells.1
    rw [flat_len fr_len] at hl
    obtain ⟨b', o', he, hc⟩ := h1.cells.pos hn
    injection he with he; injection he with e1 e2; subst e1 e2
    have hc2 := cell_at fr_len (i := 0) (j := 2) (v := sv (fl[0]'(by omega)).b) hc (by omega) rfl
    rw [cell_of hb] at hc2
    have := (Array.getElem?_eq_some_iff.1 hc2).1
    simp at this
    omega
  · have h3 := h2.2 i hi1 hi2
    refine ⟨h3.page, h3.commit, Sl.chg p h3.b fun j hj e => ?_⟩
    subst e
    obtain ⟨o, n', c', hv, hn⟩ := hj
    have hb2 : Sl h 1 (sv fl[i].b) (A[i].b.map bv) := h3.b
    rw [hv] at hb2
    have hl := hb2.cells.len
    obtain ⟨b', o', he, hc⟩ := hb2.cells.pos hn
    injection he with he; injection he with e1 e2; subst e1 e2
    have hl0 : 0 < A[i].b.length := by simp at hl; omega
    have hc2 := hc 0 (bv (A[i].b)[0]) (by simp [hl0])
    rw [cell_of hb] at hc2
    have h4 := Array.mem_of_getElem? hc2
    simp at h4
    rcases h4 with h4 | h4 <;> cases h4

set_option maxRecDepth 100000 in
set_option maxHeartbeats 2000000 in
theorem plays_any {h : Heap} {room : Int} {lv : SV} {M : List AOp} (hM : Ops h (sv lv) M) (hMi : ∀ o ∈ M, InI o.no ∧ ∀ z ∈ o.l, InI z) :
    HC Try.prog 5 #[.int .i64 room, sv lv] h (fun v h' => v = .bool true ∧ Ext h h') := by
  obtain ⟨la, ln, lc⟩ := lv
  obtain ⟨os, hs0, hall⟩ := hM
  have hs1 : Sl h 5 (.slice la ln lc) (os.flatMap opc) := hs0
  obtain ⟨hon, hlc, hlm⟩ := hs1.sz opc_len (by omega)
  have ok := ((Hp.nil h none_).old (rowI 5 (la, ln, lc) (os.flatMap opc)) hs0 (blk_lt (by omega) hs0)).old (opsI h.size os M) (hall.mono fun _ _ q => OpIn.of q) fun _ h => h
  have hMl := hall.1
  refine HC.go Try.func5 219 ?_
  refine .seq <| .r <| .w 4 .asB <| .nil ?_
  refine .seq <| .r <| .w 22 .mvI <| .c' 23 .func new_any ?_
  rintro _ η1 (⟨hrm, rfl, rfl⟩ | ⟨hrm, p, F, rfl, rp, hx, fg⟩)
  · --
    have ok := ok.ext (Ext.refl _)
    refine .w 21 .mvU <| .w 24 .ex <| .w 25 .ex <| .w 5 .asP <| .w 6 .asI <| .nil ?_
    refine .seq <| .r <| .w 27 .mvI <| .c' 28 .func rnew_any ?_
    rintro _ η2 ⟨(⟨hr1, rfl⟩ | ⟨hr1, hr2, rfl⟩), hx⟩
    · --
      have ok := ok.ext hx
      refine .w 26 .mvU <| .w 29 .ex <| .w 30 .ex <| .a' 7 (.alA T.zr49 ok) ?_
      rintro _ η3 ⟨pb1, rfl, ok, xe⟩
      refine .ur' (.stW (vs := [.int .i64 0, .slice none 0 0]) T.sz49 ok (oneL rfl)) ?_
      rintro η4 ⟨ok, cg⟩
      refine .w 8 .asI <| .nil ?_
      refine .seq <| .seq <| .r <| .w 31 .mvI <| .w 32 .mvI <| .w 33 .neq <| .w 34 .mvB <| .sd (fun G34 => ?_) (fun G34 => ?_)
      ·
        exact absurd rfl G34
      refine .w 35 .mvP <| .w 36 (.pEqN T.pt23) <| .w 37 .mvI <| .w 38 .neq <| .w 39 (.bNe T.bo4) <| .w 40 .pkf <| .nil ?_
      refine .cond (fun C0 => ?_) (fun C0 => ?_)
      · --
        simp at C0
      refine .skip <| .seq <| .seq <| .r <| .w 41 .mvP <| .w 42 (.pEqN T.pt23) <| .w 43 .mvB <| .x 44 <| .x 45 <| .x 46 <| .w 47 .pkt <| .nil ?_
      refine .ct <| .seq <| .r <| .c' 48 .func live_any ?_
      rintro _ η5 ⟨rfl, hx⟩
      have ok := ok.ext hx
      refine .w 4 .asB <| .nil ?_
      refine .ret ⟨.bool true, Res.one rfl rfl, ⟨rfl, ok.chg⟩⟩
    exact absurd ⟨hr1, hr2⟩ hrm
  have ok := ok.newM hx (cI F p room []) rp fun j hj => ⟨fg j hj, rp.lt j hj⟩
  refine .w 21 .mvU <| .w 24 .ex <| .w 25 .ex <| .w 5 .asP <| .w 6 .asI <| .nil ?_
  refine .seq <| .r <| .w 27 .mvI <| .c' 28 .func rnew_any ?_
  rintro _ η6 ⟨(⟨hr1, rfl⟩ | ⟨hr1, hr2, rfl⟩), hx⟩
  · --
    exact absurd hrm hr1
  have ok := ok.ext hx
  refine .w 26 .mvU <| .w 29 .ex <| .w 30 .ex <| .a' 7 (.alA T.zr49 ok) ?_
  rintro _ η7 ⟨pb2, rfl, ok, xe⟩
  refine .ur' (.stW (vs := [.int .i64 room, .slice none 0 0]) T.sz49 ok (oneL rfl)) ?_
  rintro η8 ⟨ok, cg⟩
  refine .w 8 .asI <| .nil ?_
  refine .seq <| .seq <| .r <| .w 31 .mvI <| .w 32 .mvI <| .w 33 .neq <| .w 34 .mvB <| .sd (fun G34 => ?_) (fun G34 => ?_)
  ·
    exact absurd rfl G34
  refine .w 35 .mvP <| .w 36 (.pEqS T.pt23) <| .w 37 .mvI <| .w 38 .neq <| .w 39 (.bNe T.bo4) <| .w 40 .pkf <| .nil ?_
  refine .cond (fun C0 => ?_) (fun C0 => ?_)
  · --
    simp at C0
  refine .skip <| .seq <| .seq <| .r <| .w 41 .mvP <| .w 42 (.pEqS T.pt23) <| .w 43 .mvB <| .w 44 .mvS <| .c' 45 .func (small_any (lv := (la, ln, lc)) ⟨os, ok.r1, (ok.r0).mono fun _ _ q => q.is⟩) ?_
  rintro _ _ ⟨sb, rfl, hsm, rfl⟩
  refine .w 46 .not <| .w 47 .pkf <| .nil ?_
  refine .cond (fun C1 => ?_) (fun C1 => ?_)
  · --
    refine .seq <| .r <| .c' 48 .func live_any ?_
    rintro _ η9 ⟨rfl, hx⟩
    have ok := ok.ext hx
    refine .w 4 .asB <| .nil ?_
    refine .ret ⟨.bool true, Res.one rfl rfl, ⟨rfl, ok.chg⟩⟩
  refine .skip <| .seq <| .seq <| ?_
  have hf : Few M := hsm (by cases sb <;> simp_all)
  have ok := ok.dE (rcI none_ (none, 0, 0) []) ⟨⟨[], Sl.nil _ _, All2.nil⟩, fun j ⟨o, n, c, e, _⟩ => by (cases e), fun _ f => f.elim⟩ fun _ f => f
  refine .r <| .w 9 .asI <| .nil ?_
  refine .block fun K0 hK0 => .loop (fun m s hh => ∃ (i : Nat) (p : Nat) (F E : Nat → Prop) (L : List AP) (wa : Option Addr) (wn wc : Nat), Has s [(1, .slice la ln lc), (5, .pointer (some ⟨p, 0, none⟩)), (7, .pointer (some ⟨pb2, 0, none⟩)), (9, .int .i64 (i : Int))] ∧ Hp h none_ [cI F p room L, boxI pb2 49 [.int .i64 room, .slice wa wn wc]] [rcI E (wa, wn, wc) L, opsI h.size os M, rowI 5 (la, ln, lc) (os.flatMap opc)] hh ∧ i ≤ ln ∧ Iv i L ∧ m = ln - i) ?_ ?_
  · exact ⟨_, 0, _, _, none_, [], _, _, _, ⟨rfl, rfl, rfl, rfl, trivial⟩, ok.n1, Nat.zero_le _, Iv.zero, rfl⟩
  rintro _ _ η10 ⟨i, p, F, E, L, wa, wn, wc, hs, ok, hi, hiv, rfl⟩ J0 hJ0
  refine .frame hs fun τ => ?_
  refine .seq <| .seq <| .r <| .w 49 .mvI <| .w 50 .mvS <| .w 51 (.len T.el22) <| .w 52 .lss <| .nil ?_
  refine .cdr (fun C2 => ?_) (fun C2 => ?_)
  · --
    refine .exit <| hK0 _ _ <| .seq <| .r <| .c' 218 .func live_any ?_
    rintro _ η11 ⟨rfl, hx⟩
    have ok := ok.ext hx
    refine .w 4 .asB <| .nil ?_
    refine .ret ⟨.bool true, Res.one rfl rfl, ⟨rfl, ok.chg⟩⟩
  have hio : i < os.length := by omega
  have hiM : i < M.length := by omega
  have hop := (ok.r1.2 i hio hiM)
  have hbl := bytes_len hop.is.b
  have hll := ints_len hop.is.l
  have hfb := (hf.2 _ (List.getElem_mem hiM)).1
  have hin := (hMi _ (List.getElem_mem hiM)).1
  have hM100 := hf.1
  have hno := hop.is.no
  have hd := hop.is.d
  have ok := ok.der (r := opsI h.size os M) (by simp) (rdI (blk (sv os[i].b)) none_ (os[i].b.1, os[i].b.2.1, os[i].b.2.2) M[i].b) (RdL.ofBytes hop.is.b) fun j hj => hj.elim (fun h => hop.old j (.inl h)) fun f => f.elim
  refine .skip <| .seq <| .block fun K1 hK1 => .seq <| .seq <| .r <| .w 55 .mvS <| .w 56 .mvI <| ?_
  obtain ⟨bb1, oo1, rfl, fb1⟩ := ok.r3.pos (n := ln) (by omega)
  refine .w 57 (.ix i T.el22 T.sz33) <| .w 58 (.fa T.fd33_0) <| .w 59 (.ld T.ag5 (sl_at opc_len ok.r3 (i := i) (j := 0) (by omega) rfl)) <| .w 60 .rem <| .nil ?_
  refine .join (fun s hh => ∃ (p2 : Nat) (F2 E2 : Nat → Prop) (L2 : List AP) (wa2 : Option Addr) (wn2 wc2 : Nat), Has s [(1, .slice (some ⟨bb1, oo1, none⟩) ln lc), (5, .pointer (some ⟨p2, 0, none⟩)), (7, .pointer (some ⟨pb2, 0, none⟩)), (9, .int .i64 (i : Int))] ∧ Hp h none_ [cI F2 p2 room L2, boxI pb2 49 [.int .i64 room, .slice wa2 wn2 wc2]] [rcI E2 (wa2, wn2, wc2) L2, opsI h.size os M, rowI 5 (some ⟨bb1, oo1, none⟩, ln, lc) (os.flatMap opc)] hh ∧ Iv (i + 1) L2) ?_ ?_
  · --
    refine .block fun K2 hK2 => .seq <| .r <| .w 62 .eql <| .w 61 .asB <| .nil ?_
    refine .cd (fun C3 => ?_) (fun C3 => ?_)
    · --
      refine .seq <| .r <| .a' 63 (.lit [] (cs := []) T.el30 T.sz5 T.zr5 ok trivial) ?_
      rintro _ η12 ⟨pb3, rfl, ok, xe⟩
      refine .w 64 .mvS <| .w 65 .mvI <| .w 66 (.ix i T.el22 T.sz33) <| .w 67 (.fa T.fd33_2) <| .w 68 (.ld T.ag30 (sl_at opc_len ok.r3 (i := i) (j := 2) (by omega) rfl)) <| .a' 69 (.app (news := (M[i].b).map bv) T.el30 T.sz5 T.by5 T.zr5 ok (ok.r0).by bv_all (by simp; omega)) ?_
      rintro _ η13 ⟨ya1, yn1, yc1, rfl, ok, ap⟩
      have ok := ok.cx (ys := M[i].b.map bv) (by simp)
      refine .w 10 .asS <| .nil ?_
      refine .seq <| .t 12 mixed ?_
      simp only [List.take_succ_cons, List.take_zero, List.drop_succ_cons, List.drop_zero]
      refine .w 70 .mvP <| .w 71 .mvS <| .w 72 .mvI <| .w 73 (.ix i T.el22 T.sz33) <| .w 74 (.fa T.fd33_1) <| .w 75 (.ld T.ag3 (sl_at opc_len ok.r3 (i := i) (j := 1) (by omega) rfl)) <| .w 76 .mvS <| .w 77 .mvS <| .w 78 .mvI <| .w 79 (.ix i T.el22 T.sz33) <| .w 80 (.fa T.fd33_3) <| .w 81 (.ld T.ag4 (sl_at opc_len ok.r3 (i := i) (j := 3) (by omega) rfl)) <| .nil ?_
      refine .c' 82 .func (put_any ok.n1.m0 (by have := hiv.2; omega) (os[i].no) (bs := (ya1, yn1, yc1)) (l := M[i].b) ((ok.n1.m1).sl) (by first | omega | simp) os[i].d hrm.1) ?_
      rintro _ η14 ⟨G1, rp, sp, fr82⟩
      have ok := ok.n1.upd sp.chg (fun _ x => x) (cI G1 p room (putL room (os[i].no) (M[i].b) os[i].d L)) rp fun j hj => (sp.place j hj).imp id fun h => ⟨h, rp.lt j hj⟩
      obtain ⟨ya2, yn2, yc2, rfl⟩ := fr82.form3
      refine .w 11 .asS <| .nil ?_
      refine .seq <| .r <| .w 12 .asS <| .nil ?_
      refine .seq <| .a 12 (fun fl hh => cond fl True (Hp h none_ [cI G1 p room (putL room (os[i].no) (M[i].b) os[i].d L), capI 1 5 (ya1, yn1, yc1) (M[i].b.map bv), boxI pb2 49 [.int .i64 room, .slice wa wn wc]] [rdI (blk (sv os[i].b)) none_ (os[i].b.1, os[i].b.2.1, os[i].b.2.2) (M[i].b), rcI E (wa, wn, wc) L, opsI h.size os M, rowI 5 (some ⟨bb1, oo1, none⟩, ln, lc) (os.flatMap opc)] hh)) mixed ?_
      have hS := ok
      refine .l 0 false rfl 84 hS (fun _ hS => .ldb T.ag49 hS.m2 T.sz49) <| .g 1 false rfl 85 hS (fun _ => .mvS) <| .g 2 false rfl 86 hS (fun _ => .mvI) <| .g 3 false rfl 87 hS (fun _ => .ix i T.el22 T.sz33) <| .g 4 false rfl 88 hS (fun _ => .fa T.fd33_1) <| .l 5 false rfl 89 hS (fun _ hS => .ld T.ag3 (sl_at opc_len hS.r3 (i := i) (j := 1) (by omega) rfl)) <| .g 6 false rfl 90 hS (fun _ => .mvS) <| .g 7 false rfl 91 hS (fun _ => .mvS) <| .g 8 false rfl 92 hS (fun _ => .mvI) <| .g 9 false rfl 93 hS (fun _ => .ix i T.el22 T.sz33) <| .g 10 false rfl 94 hS (fun _ => .fa T.fd33_3) <| .l 11 false rfl 95 hS (fun _ hS => .ld T.ag4 (sl_at opc_len hS.r3 (i := i) (j := 3) (by omega) rfl)) <| .o1 12 <| .c' true rfl 96 .func (rput_any ok.r1 (by have := hiv.2; omega) room (os[i].no) (bs := (ya1, yn1, yc1)) ((ok.m1).sl) (by first | omega | simp) os[i].d) ?_
      rintro _ η15 ⟨⟨ya3, yn3, yc3⟩, ⟨ya4, yn4, yc4⟩, rfl, hx, rr, fr96⟩
      have fr82 := fr82.ext hx
      have ok := ok.grow hx (r := rcI E (wa, wn, wc) L) (by simp) (rcI (fun j => (E) j ∨ Nw η14 η15 j) (ya3, yn3, yc3) (putL room (os[i].no) (M[i].b) os[i].d L)) rr fun _ x => x
      have hbw := ok.m2
      refine ⟨trivial, ?_⟩
      refine .g 13 true rfl 83 trivial (fun _ => .mvU) <| .g 14 true rfl 97 trivial (fun _ => .ex) <| .g 15 true rfl 98 trivial (fun _ => .ex) <| .o1 16 <| .ur' true rfl (.stW (vs := [.int .i64 room, .slice ya3 yn3 yc3]) T.sz49 ok.n2 (oneL rfl)) ?_
      rintro η16 ⟨ok, cg⟩
      refine ⟨trivial, ?_⟩
      refine .g 17 true rfl 12 trivial (fun _ => .asS) <| .e ?_
      refine .seq <| .seq <| ?_
      have fr82 := fr82.box hbw cg
      have fr96 := fr96.box hbw cg
      refine .r <| .w 99 .mvS <| .w 100 .mvS <| .k 101 .func (sameFrames_any fr82 fr96) <| .w 102 .notd <| .nil ?_
      refine .cd (fun C4 => ?_) (fun C4 => ?_)
      · --
        exact absurd rfl C4
      refine .skip <| .seq <| .r <| .w 13 .asI <| .nil ?_
      refine .block fun K3 hK3 => .loop (fun m s hh => ∃ (k : Nat) (zs : List UInt8), Has s [(1, .slice (some ⟨bb1, oo1, none⟩) ln lc), (5, .pointer (some ⟨p, 0, none⟩)), (7, .pointer (some ⟨pb2, 0, none⟩)), (9, .int .i64 (i : Int)), (10, .slice ya1 yn1 yc1), (13, .int .i64 (k : Int))] ∧ Hp h none_ [capI 1 5 (ya1, yn1, yc1) (zs.map bv), boxI pb2 49 [.int .i64 room, .slice ya3 yn3 yc3], cI G1 p room (putL room (os[i].no) (M[i].b) os[i].d L)] [rcI (fun j => (E) j ∨ Nw η14 η15 j) (ya3, yn3, yc3) (putL room (os[i].no) (M[i].b) os[i].d L), rdI (blk (sv os[i].b)) none_ (os[i].b.1, os[i].b.2.1, os[i].b.2.2) (M[i].b), rcI E (wa, wn, wc) L, opsI h.size os M, rowI 5 (some ⟨bb1, oo1, none⟩, ln, lc) (os.flatMap opc)] hh ∧ k ≤ yn1 ∧ zs.length = yn1 ∧ m = yn1 - k) ?_ ?_
      · exact ⟨_, 0, M[i].b, ⟨rfl, rfl, rfl, rfl, rfl, rfl, trivial⟩, ok.n1.n1.n2.cx (by simp), Nat.zero_le _, by have h1 := (ok.m2).sl.cells.1; simpa using h1, rfl⟩
      rintro _ _ η17 ⟨k, zs, hs, ok, hk, hzs, rfl⟩ J1 hJ1
      refine .frame hs fun τ => ?_
      refine .seq <| .seq <| .r <| .w 103 .mvI <| .w 104 .mvS <| .w 105 (.len T.el30) <| .w 106 .lss <| .nil ?_
      refine .cdr (fun C5 => ?_) (fun C5 => ?_)
      · --
        refine .exit <| hK3 _ _ <| .end <| hK2 _ _ <| .end <| ⟨_, _, _, _, _, _, _, ⟨rfl, rfl, rfl, rfl, trivial⟩, ok.n1.n2.k2.f4.f4.f2.e3, hiv.put room (by rw [hno]; exact hin) _ _⟩
      have hkz : k < zs.length := by omega
      have hcb : yn1 ≤ yc1 ∧ yc1 ≤ 9223372036854775807 := ⟨ok.m0.le, ok.m0.bd⟩
      refine .skip <| .seq <| .block fun K4 hK4 => .r <| .w 109 .mvS <| .w 110 .mvI <| ?_
      obtain ⟨bb2, oo2, rfl, fb2⟩ := ok.m0.pos (n := yn1) (by omega)
      refine .w 111 (.ix1 k T.el30 T.sz5) <| .w 112 (.ld T.ag5 (Cap.u8 ok.m0 (i := k) (by omega))) <| .w 113 .addw <| .w 114 (.ix1 k T.el30 T.sz5) <| .ur' (.sxI (q := k) T.sz5 ok) ?_
      rintro η18 ⟨ok, cg⟩
      refine .nil ?_
      refine .end <| hK4 _ _ <| .r <| .w 107 .mvI <| .w 108 .add <| .w 13 .asI <| .nil ?_
      refine .end <| hJ1 _ _ _ ⟨k + 1, zs.set k (zs[k] + 1), ⟨rfl, rfl, rfl, rfl, rfl, rfl, trivial⟩, ok.n2.n2.n2.cx (by first | rfl | (rw [List.map_set, u8_succ]; rfl)), by omega, by simp [hzs], rfl⟩ (by omega)
    refine .seq <| .r <| .w 116 .eql <| .w 115 .asB <| .nil ?_
    refine .cd (fun C6 => ?_) (fun C6 => ?_)
    · --
      refine .seq <| .r <| .w 118 .mvP <| .w 119 .mvS <| .w 120 .mvI <| .w 121 (.ix i T.el22 T.sz33) <| .w 122 (.fa T.fd33_1) <| .w 123 (.ld T.ag3 (sl_at opc_len ok.r3 (i := i) (j := 1) (by omega) rfl)) <| .c' 124 .func (get_any ok.m0 (os[i].no)) ?_
      rintro _ η19 ⟨⟨ya5, yn5, yc5⟩, G2, rfl, rp, sp, cg, fg⟩
      have ok := ok.newBeside sp.chg (fun _ x => x) (a' := cI G2 p room (getL (os[i].no) L)) rp (fun j hj => (sp.place j hj).imp id fun h => ⟨h, rp.lt j hj⟩) (capI 1 5 (ya5, yn5, yc5) ((gotL (os[i].no) L).map bv)) cg fun j hj => ⟨(fg j hj).1, cg.lt hj, (fg j hj).2⟩
      refine .w 117 .mvU <| .w 125 .ex <| .w 126 .ex <| .w 14 .asS <| .w 15 .asB <| .nil ?_
      refine .seq <| .a 6 (fun fl hh => cond fl True (Hp h none_ [capI 1 5 (ya5, yn5, yc5) ((gotL (os[i].no) L).map bv), cI G2 p room (getL (os[i].no) L), boxI pb2 49 [.int .i64 room, .slice wa wn wc]] [rdI (blk (sv os[i].b)) none_ (os[i].b.1, os[i].b.2.1, os[i].b.2.2) (M[i].b), rcI E (wa, wn, wc) L, opsI h.size os M, rowI 5 (some ⟨bb1, oo1, none⟩, ln, lc) (os.flatMap opc)] hh)) mixed ?_
      have hS := ok
      refine .l 0 false rfl 128 hS (fun _ hS => .ldb T.ag49 hS.m2 T.sz49) <| .g 1 false rfl 129 hS (fun _ => .mvS) <| .g 2 false rfl 130 hS (fun _ => .mvI) <| .g 3 false rfl 131 hS (fun _ => .ix i T.el22 T.sz33) <| .g 4 false rfl 132 hS (fun _ => .fa T.fd33_1) <| .l 5 false rfl 133 hS (fun _ hS => .ld T.ag3 (sl_at opc_len hS.r3 (i := i) (j := 1) (by omega) rfl)) <| .o2 6 11 ?_ ?_
      ·
        refine .c' true rfl 134 .func (rget_any ok.r1 (by have := hiv.2; omega) room (os[i].no)) ?_
        rintro _ η20 ⟨⟨ya6, yn6, yc6⟩, ⟨ya7, yn7, yc7⟩, rfl, hx, rr, gr⟩
        have ok := (ok.grow hx (r := rcI E (wa, wn, wc) L) (by simp) (rcI (fun j => (E) j ∨ Nw η19 η20 j) (ya6, yn6, yc6) (getL (os[i].no) L)) rr fun _ x => x)
        have ok := ok.der (r := rcI (fun j => (E) j ∨ Nw η19 η20 j) (ya6, yn6, yc6) (getL (os[i].no) L)) (by simp) (rdI (fun j => (E) j ∨ Nw η19 η20 j) (fun j => (E) j ∨ Nw η19 η20 j) (ya7, yn7, yc7) (gotL (os[i].no) L)) (gr.mono (fun _ h => .inl h) fun _ h => .inl h) fun _ h => h.elim id id
        refine ⟨trivial, ?_⟩
        refine .g 7 true rfl 127 trivial (fun _ => .mvU) <| .g 8 true rfl 135 trivial (fun _ => .ex) <| .g 9 true rfl 136 trivial (fun _ => .ex) <| .g 10 true rfl 137 trivial (fun _ => .ex) <| .o1 11 <| .a' true rfl 16 (.alA T.zr49 ok) ?_
        rintro _ η21 ⟨pb4, rfl, ok, xe⟩
        refine ⟨trivial, ?_⟩
        refine .o1 12 <| .ur' true rfl (.stW (vs := [.int .i64 room, .slice ya6 yn6 yc6]) T.sz49 ok (oneL rfl)) ?_
        rintro η22 ⟨ok, cg⟩
        refine ⟨trivial, ?_⟩
        refine .g 13 true rfl 17 trivial (fun _ => .asS) <| .g 14 true rfl 18 trivial (fun _ => .asB) <| .e ?_
        refine .seq <| .r <| .w 138 (.ldb T.ag49 ok.m0 T.sz49) <| .ur' (.stW (vs := [.int .i64 room, .slice ya6 yn6 yc6]) T.sz49 ok.n3 (oneL rfl)) ?_
        rintro η23 ⟨ok, cg⟩
        refine .nil ?_
        refine .seq <| .seq <| .r <| .w 139 .mvS <| .w 140 .mvS <| .k 141 .func (same_any (ok.m2).sl (ok.r0).by) <| .w 142 .notd <| .w 143 .mvB <| .sd (fun G143 => ?_) (fun G143 => ?_)
        ·
          exact absurd rfl G143
        refine .w 144 .mvB <| .w 145 .mvB <| .w 146 (.bNe T.bo4) <| .w 147 .pkf <| .nil ?_
        refine .cond (fun C7 => ?_) (fun C7 => ?_)
        · --
          simp at C7
        refine .skip <| .seq <| .r <| .w 19 .asI <| .nil ?_
        refine .block fun K5 hK5 => .loop (fun m s hh => ∃ (k : Nat) (zs : List UInt8), Has s [(1, .slice (some ⟨bb1, oo1, none⟩) ln lc), (5, .pointer (some ⟨p, 0, none⟩)), (7, .pointer (some ⟨pb2, 0, none⟩)), (9, .int .i64 (i : Int)), (14, .slice ya5 yn5 yc5), (19, .int .i64 (k : Int))] ∧ Hp h none_ [capI 1 5 (ya5, yn5, yc5) (zs.map bv), boxI pb2 49 [.int .i64 room, .slice ya6 yn6 yc6], boxI pb4 49 [.int .i64 room, .slice ya6 yn6 yc6], cI G2 p room (getL (os[i].no) L)] [rdI (fun j => (E) j ∨ Nw η19 η20 j) (fun j => (E) j ∨ Nw η19 η20 j) (ya7, yn7, yc7) (gotL (os[i].no) L), rcI (fun j => (E) j ∨ Nw η19 η20 j) (ya6, yn6, yc6) (getL (os[i].no) L), rdI (blk (sv os[i].b)) none_ (os[i].b.1, os[i].b.2.1, os[i].b.2.2) (M[i].b), rcI E (wa, wn, wc) L, opsI h.size os M, rowI 5 (some ⟨bb1, oo1, none⟩, ln, lc) (os.flatMap opc)] hh ∧ k ≤ yn5 ∧ zs.length = yn5 ∧ m = yn5 - k) ?_ ?_
        · exact ⟨_, 0, gotL (os[i].no) L, ⟨rfl, rfl, rfl, rfl, rfl, rfl, trivial⟩, ok.n3.n2.n2.n3.cx (by simp), Nat.zero_le _, by have h1 := (ok.m2).sl.cells.1; simpa using h1, rfl⟩
        rintro _ _ η24 ⟨k, zs, hs, ok, hk, hzs, rfl⟩ J2 hJ2
        refine .frame hs fun τ => ?_
        refine .seq <| .seq <| .r <| .w 148 .mvI <| .w 149 .mvS <| .w 150 (.len T.el30) <| .w 151 .lss <| .nil ?_
        refine .cdr (fun C8 => ?_) (fun C8 => ?_)
        · --
          refine .exit <| hK5 _ _ <| .end <| hK2 _ _ <| .end <| ⟨_, _, _, _, _, _, _, ⟨rfl, rfl, rfl, rfl, trivial⟩, ok.n1.n3.k2.f5.f5.f3.e3, hiv.get _⟩
        have hkz : k < zs.length := by omega
        have hcb : yn5 ≤ yc5 ∧ yc5 ≤ 9223372036854775807 := ⟨ok.m0.le, ok.m0.bd⟩
        refine .skip <| .seq <| .block fun K6 hK6 => .r <| .w 154 .mvS <| .w 155 .mvI <| ?_
        obtain ⟨bb3, oo3, rfl, fb3⟩ := ok.m0.pos (n := yn5) (by omega)
        refine .w 156 (.ix1 k T.el30 T.sz5) <| .w 157 (.ld T.ag5 (Cap.u8 ok.m0 (i := k) (by omega))) <| .w 158 .addw <| .w 159 (.ix1 k T.el30 T.sz5) <| .ur' (.sxI (q := k) T.sz5 ok) ?_
        rintro η25 ⟨ok, cg⟩
        refine .nil ?_
        refine .end <| hK6 _ _ <| .r <| .w 152 .mvI <| .w 153 .add <| .w 19 .asI <| .nil ?_
        refine .end <| hJ2 _ _ _ ⟨k + 1, zs.set k (zs[k] + 1), ⟨rfl, rfl, rfl, rfl, rfl, rfl, trivial⟩, ok.n3.n3.n3.n3.cx (by first | rfl | (rw [List.map_set, u8_succ]; rfl)), by omega, by simp [hzs], rfl⟩ (by omega)
      ·
        refine .a' false rfl 16 (.alA T.zr49 ok) ?_
        rintro _ η26 ⟨pb5, rfl, ok, xe⟩
        refine ⟨ok.n3.n3.n3.k3, ?_⟩
        have hS := ok.n3.n3.n3.k3
        refine .o1 6 <| .c' true rfl 134 .func (rget_any ok.r1 (by have := hiv.2; omega) room (os[i].no)) ?_
        rintro _ η27 ⟨⟨ya8, yn8, yc8⟩, ⟨ya9, yn9, yc9⟩, rfl, hx, rr, gr⟩
        have ok := (ok.grow hx (r := rcI E (wa, wn, wc) L) (by simp) (rcI (fun j => (E) j ∨ Nw η26 η27 j) (ya8, yn8, yc8) (getL (os[i].no) L)) rr fun _ x => x)
        have ok := ok.der (r := rcI (fun j => (E) j ∨ Nw η26 η27 j) (ya8, yn8, yc8) (getL (os[i].no) L)) (by simp) (rdI (fun j => (E) j ∨ Nw η26 η27 j) (fun j => (E) j ∨ Nw η26 η27 j) (ya9, yn9, yc9) (gotL (os[i].no) L)) (gr.mono (fun _ h => .inl h) fun _ h => .inl h) fun _ h => h.elim id id
        refine ⟨trivial, ?_⟩
        refine .g 7 true rfl 127 trivial (fun _ => .mvU) <| .g 8 true rfl 135 trivial (fun _ => .ex) <| .g 9 true rfl 136 trivial (fun _ => .ex) <| .g 10 true rfl 137 trivial (fun _ => .ex) <| .o1 12 <| .ur' true rfl (.stW (vs := [.int .i64 room, .slice ya8 yn8 yc8]) T.sz49 ok (oneL rfl)) ?_
        rintro η28 ⟨ok, cg⟩
        refine ⟨trivial, ?_⟩
        refine .g 13 true rfl 17 trivial (fun _ => .asS) <| .g 14 true rfl 18 trivial (fun _ => .asB) <| .e ?_
        refine .seq <| .r <| .w 138 (.ldb T.ag49 ok.m0 T.sz49) <| .ur' (.stW (vs := [.int .i64 room, .slice ya8 yn8 yc8]) T.sz49 ok.n3 (oneL rfl)) ?_
        rintro η29 ⟨ok, cg⟩
        refine .nil ?_
        refine .seq <| .seq <| .r <| .w 139 .mvS <| .w 140 .mvS <| .k 141 .func (same_any (ok.m2).sl (ok.r0).by) <| .w 142 .notd <| .w 143 .mvB <| .sd (fun G143 => ?_) (fun G143 => ?_)
        ·
          exact absurd rfl G143
        refine .w 144 .mvB <| .w 145 .mvB <| .w 146 (.bNe T.bo4) <| .w 147 .pkf <| .nil ?_
        refine .cond (fun C7 => ?_) (fun C7 => ?_)
        · --
          simp at C7
        refine .skip <| .seq <| .r <| .w 19 .asI <| .nil ?_
        refine .block fun K5 hK5 => .loop (fun m s hh => ∃ (k : Nat) (zs : List UInt8), Has s [(1, .slice (some ⟨bb1, oo1, none⟩) ln lc), (5, .pointer (some ⟨p, 0, none⟩)), (7, .pointer (some ⟨pb2, 0, none⟩)), (9, .int .i64 (i : Int)), (14, .slice ya5 yn5 yc5), (19, .int .i64 (k : Int))] ∧ Hp h none_ [capI 1 5 (ya5, yn5, yc5) (zs.map bv), boxI pb2 49 [.int .i64 room, .slice ya8 yn8 yc8], boxI pb5 49 [.int .i64 room, .slice ya8 yn8 yc8], cI G2 p room (getL (os[i].no) L)] [rdI (fun j => (E) j ∨ Nw η26 η27 j) (fun j => (E) j ∨ Nw η26 η27 j) (ya9, yn9, yc9) (gotL (os[i].no) L), rcI (fun j => (E) j ∨ Nw η26 η27 j) (ya8, yn8, yc8) (getL (os[i].no) L), rdI (blk (sv os[i].b)) none_ (os[i].b.1, os[i].b.2.1, os[i].b.2.2) (M[i].b), rcI E (wa, wn, wc) L, opsI h.size os M, rowI 5 (some ⟨bb1, oo1, none⟩, ln, lc) (os.flatMap opc)] hh ∧ k ≤ yn5 ∧ zs.length = yn5 ∧ m = yn5 - k) ?_ ?_
        · exact ⟨_, 0, gotL (os[i].no) L, ⟨rfl, rfl, rfl, rfl, rfl, rfl, trivial⟩, ok.n3.n2.n2.n3.cx (by simp), Nat.zero_le _, by have h1 := (ok.m2).sl.cells.1; simpa using h1, rfl⟩
        rintro _ _ η30 ⟨k, zs, hs, ok, hk, hzs, rfl⟩ J2 hJ2
        refine .frame hs fun τ => ?_
        refine .seq <| .seq <| .r <| .w 148 .mvI <| .w 149 .mvS <| .w 150 (.len T.el30) <| .w 151 .lss <| .nil ?_
        refine .cdr (fun C8 => ?_) (fun C8 => ?_)
        · --
          refine .exit <| hK5 _ _ <| .end <| hK2 _ _ <| .end <| ⟨_, _, _, _, _, _, _, ⟨rfl, rfl, rfl, rfl, trivial⟩, ok.n1.n3.k2.f5.f5.f3.e3, hiv.get _⟩
        have hkz : k < zs.length := by omega
        have hcb : yn5 ≤ yc5 ∧ yc5 ≤ 9223372036854775807 := ⟨ok.m0.le, ok.m0.bd⟩
        refine .skip <| .seq <| .block fun K6 hK6 => .r <| .w 154 .mvS <| .w 155 .mvI <| ?_
        obtain ⟨bb4, oo4, rfl, fb4⟩ := ok.m0.pos (n := yn5) (by omega)
        refine .w 156 (.ix1 k T.el30 T.sz5) <| .w 157 (.ld T.ag5 (Cap.u8 ok.m0 (i := k) (by omega))) <| .w 158 .addw <| .w 159 (.ix1 k T.el30 T.sz5) <| .ur' (.sxI (q := k) T.sz5 ok) ?_
        rintro η31 ⟨ok, cg⟩
        refine .nil ?_
        refine .end <| hK6 _ _ <| .r <| .w 152 .mvI <| .w 153 .add <| .w 19 .asI <| .nil ?_
        refine .end <| hJ2 _ _ _ ⟨k + 1, zs.set k (zs[k] + 1), ⟨rfl, rfl, rfl, rfl, rfl, rfl, trivial⟩, ok.n3.n3.n3.n3.cx (by first | rfl | (rw [List.map_set, u8_succ]; rfl)), by omega, by simp [hzs], rfl⟩ (by omega)
    refine .seq <| .r <| .w 161 .eql <| .w 160 .asB <| .nil ?_
    refine .cd (fun C9 => ?_) (fun C9 => ?_)
    · --
      refine .seq <| .r <| .w 162 .mvP <| .w 163 .mvS <| .w 164 .mvI <| .w 165 (.ix i T.el22 T.sz33) <| .w 166 (.fa T.fd33_4) <| .w 167 (.ld T.ag31 (sl_at opc_len ok.r3 (i := i) (j := 4) (by omega) rfl)) <| .c' 168 .func (clean_any ok.m0 (lv := (os[i].l.1, os[i].l.2.1, os[i].l.2.2)) (l := M[i].l) (ok.r2.2 i hio hiM).is.l (by have := (hf.2 _ (List.getElem_mem hiM)).2; omega)) ?_
      rintro _ η32 ⟨rfl, rp, sp⟩
      rw [cl_eq] at rp
      have ok := ok.upd sp (fun _ x => x) (cI F p room (L.map (clA M[i].l))) rp fun _ hj => .inl hj
      refine .nil ?_
      refine .t 6 mixed ?_
      simp only [List.take_succ_cons, List.take_zero, List.drop_succ_cons, List.drop_zero]
      refine .w 169 (.ldb T.ag49 ok.m1 T.sz49) <| .w 170 .mvS <| .w 171 .mvI <| .w 172 (.ix i T.el22 T.sz33) <| .w 173 (.fa T.fd33_4) <| .w 174 (.ld T.ag31 (sl_at opc_len ok.r3 (i := i) (j := 4) (by omega) rfl)) <| .nil ?_
      refine .c' 175 .func (rclean_any ok.r1 (by have := hiv.2; omega) room (lv := (os[i].l.1, os[i].l.2.1, os[i].l.2.2)) (ok.r2.2 i hio hiM).is.l) ?_
      rintro _ η33 ⟨⟨ya10, yn10, yc10⟩, rfl, hx, rr⟩
      have ok := ok.grow hx (r := rcI E (wa, wn, wc) L) (by simp) (rcI (fun j => (E) j ∨ Nw η32 η33 j) (ya10, yn10, yc10) (L.map (clA M[i].l))) rr fun _ x => x
      refine .ur' (.stW (vs := [.int .i64 room, .slice ya10 yn10 yc10]) T.sz49 ok.n1 (oneL rfl)) ?_
      rintro η34 ⟨ok, cg⟩
      refine .nil ?_
      refine .end <| hK2 _ _ <| .end <| ⟨_, _, _, _, _, _, _, ⟨rfl, rfl, rfl, rfl, trivial⟩, ok.n1.f4.f4.f2.e3, hiv.cl _⟩
    refine .seq <| .r <| .w 177 .eql <| .w 176 .asB <| .nil ?_
    refine .cd (fun C10 => ?_) (fun C10 => ?_)
    · --
      refine .seq <| .r <| .w 178 .mvP <| .w 179 .mvS <| .w 180 .mvI <| .w 181 (.ix i T.el22 T.sz33) <| .w 182 (.fa T.fd33_4) <| .w 183 (.ld T.ag31 (sl_at opc_len ok.r3 (i := i) (j := 4) (by omega) rfl)) <| .c' 184 .func (dropl_any ok.m0 (lv := (os[i].l.1, os[i].l.2.1, os[i].l.2.2)) (l := M[i].l) (ok.r2.2 i hio hiM).is.l (by have := (hf.2 _ (List.getElem_mem hiM)).2; omega) (fun b hb f => by have := (ok.fresh b f).1; have := (ok.r2.2 i hio hiM).old b (.inr hb); omega)) ?_
      rintro _ η35 ⟨G3, rfl, rp, sp⟩
      rw [dr_eq] at rp
      have ok := ok.upd sp.chg (fun _ x => x) (cI G3 p room (L.filter fun x => !asked M[i].l x.no)) rp fun j hj => (sp.place j hj).imp id fun h => ⟨h, rp.lt j hj⟩
      refine .nil ?_
      refine .t 6 mixed ?_
      simp only [List.take_succ_cons, List.take_zero, List.drop_succ_cons, List.drop_zero]
      refine .w 185 (.ldb T.ag49 ok.m1 T.sz49) <| .w 186 .mvS <| .w 187 .mvI <| .w 188 (.ix i T.el22 T.sz33) <| .w 189 (.fa T.fd33_4) <| .w 190 (.ld T.ag31 (sl_at opc_len ok.r3 (i := i) (j := 4) (by omega) rfl)) <| .nil ?_
      refine .c' 191 .func (rdrop_any ok.r1 (by have := hiv.2; omega) room (lv := (os[i].l.1, os[i].l.2.1, os[i].l.2.2)) (ok.r2.2 i hio hiM).is.l) ?_
      rintro _ η36 ⟨⟨ya11, yn11, yc11⟩, rfl, hx, rr⟩
      have ok := ok.grow hx (r := rcI E (wa, wn, wc) L) (by simp) (rcI (fun j => (E) j ∨ Nw η35 η36 j) (ya11, yn11, yc11) (L.filter fun x => !asked M[i].l x.no)) rr fun _ x => x
      refine .ur' (.stW (vs := [.int .i64 room, .slice ya11 yn11 yc11]) T.sz49 ok.n1 (oneL rfl)) ?_
      rintro η37 ⟨ok, cg⟩
      refine .nil ?_
      refine .end <| hK2 _ _ <| .end <| ⟨_, _, _, _, _, _, _, ⟨rfl, rfl, rfl, rfl, trivial⟩, ok.n1.f4.f4.f2.e3, hiv.dr _⟩
    refine .seq <| .r <| .w 193 .eql <| .w 192 .asB <| .nil ?_
    refine .cd (fun C11 => ?_) (fun C11 => ?_)
    · --
      refine .seq <| .r <| .w 194 .mvP <| .w 20 .asP <| .nil ?_
      refine .seq <| .r <| .w 195 .mvP <| .c' 196 .func (copy_any ok.m0) ?_
      rintro _ η38 ⟨p1, G4, rfl, rp, hx, fg⟩
      have ok := ok.newM hx (cI G4 p1 room L) rp fun j hj => ⟨fg j hj, rp.lt j hj⟩
      refine .w 5 .asP <| .nil ?_
      refine .seq <| .seq <| .r <| .w 197 .mvP <| .w 198 (.pEqS T.pt23) <| .nil ?_
      refine .cf <| .skip <| .seq <| .r <| .w 199 .mvP <| .a' 200 (.lit [.const (.int .u8 1)] (cs := [.int .u8 1]) T.el30 T.sz5 T.zr5 ok ⟨rfl, trivial⟩) ?_
      rintro _ η39 ⟨pb6, rfl, ok, xe⟩
      refine .c' 201 .func (put_any ok.n2.m0 (by have := hiv.2; omega) 77 (bs := (some ⟨pb6, 0, none⟩, 1, 1)) (l := [1]) ((ok.n2.m1).sl) (by first | omega | simp) true hrm.1) ?_
      rintro _ η40 ⟨G5, rp, sp, fr201⟩
      have ok := ok.n2.upd sp.chg (fun _ x => x) (cI G5 p room (putL room 77 [1] true L)) rp fun j hj => (sp.place j hj).imp id fun h => ⟨h, rp.lt j hj⟩
      obtain ⟨ya12, yn12, yc12, rfl⟩ := fr201.form3
      refine .nil ?_
      refine .r <| .w 202 .mvP <| .c' 203 .func (clean_any ok.m0 (lv := (none, 0, 0)) (l := []) (Sl.nil _ 1) (by simp)) ?_
      rintro _ η41 ⟨rfl, rp, sp⟩
      rw [cl_eq] at rp
      have ok := ok.upd sp (fun _ x => x) (cI G5 p room ((putL room 77 [1] true L).map (clA []))) rp fun _ hj => .inl hj
      refine .nil ?_
      refine .end <| hK2 _ _ <| .end <| ⟨_, _, _, _, _, _, _, ⟨rfl, rfl, rfl, rfl, trivial⟩, ok.n3.n3.k2.tR, hiv.mono (by omega)⟩
    refine .skip <| .end <| hK2 _ _ <| .end <| ⟨_, _, _, _, _, _, _, ⟨rfl, rfl, rfl, rfl, trivial⟩, ok.n1.n1.tR, hiv.mono (by omega)⟩
  rintro s η42 ⟨p2, F2, E2, L2, wa2, wn2, wc2, hs, ok, hiv⟩
  refine .frame hs fun τ => ?_
  refine .seq <| ?_
  have hnd := ok.m0.nd
  have hrg : ∀ k ∈ nos L2, -9223372036854775808 ≤ k ∧ k ≤ 9223372036854775807 := fun k hk => by
    obtain ⟨x, hx, rfl⟩ := List.mem_map.1 hk
    exact (hiv.1 x hx).2
  refine .a 14 (fun fl hh => Hp h none_ [cI F2 p2 room L2, boxI pb2 49 [.int .i64 room, .slice wa2 wn2 wc2]] [rcI E2 (wa2, wn2, wc2) L2, opsI h.size os M, rowI 5 (some ⟨bb1, oo1, none⟩, ln, lc) (os.flatMap opc)] hh) mixed ?_
  have hS := ok
  refine .g 0 false rfl 204 hS (fun _ => .mvP) <| .lw 2 false rfl 206 hS (fun _ _ hS => .ldb T.ag49 hS.m1 T.sz49) <| .o1 1 <| .c' false rfl 205 .func (dirty_any ok.m0 hrg) ?_
  rintro _ η43 ⟨Q, hQ1, hQ2, fr205, hx⟩
  have ok := ok.ext hx
  obtain ⟨ya13, yn13, yc13, rfl⟩ := fr205.form3
  refine ⟨ok, ?_⟩
  have hS := ok
  refine .o1 3 <| .c' false rfl 207 .func (rdirty_any ok.r0 (by have := hiv.2; omega) hnd (fun x hx => (hiv.1 x hx).1) room) ?_
  rintro _ η44 ⟨W1, hT1, hT2, fr207, hx⟩
  have fr205 := fr205.ext hx
  have ok := ok.ext hx
  obtain ⟨ya14, yn14, yc14, rfl⟩ := fr207.form3
  refine ⟨ok, ?_⟩
  have hS := ok
  refine .o1 4 <| .k false rfl 208 .func (sameFrames_any fr205 fr207) hS <| .g 5 false rfl 209 hS (fun _ => .notd) <| .g 6 false rfl 210 hS (fun _ => .mvB) <| .sd (fun G210 => ?_) (fun G210 => ?_)
  ·
    exact absurd (dirty_eq hnd hQ1 hQ2 hT1 hT2) G210
  refine .g 7 false rfl 211 hS (fun _ => .mvP) <| .lw 9 false rfl 213 hS (fun _ _ hS => .ldb T.ag49 hS.m1 T.sz49) <| .o1 8 <| .c' false rfl 212 .func (pages_any ok.m0) ?_
  rintro _ η45 own
  obtain ⟨ya15, yn15, yc15, rfl⟩ := own.form3
  have ok := ok.own own
  refine ⟨ok.n2.n2.k2, ?_⟩
  have hS := ok.n2.n2.k2
  refine .o1 10 <| .c' false rfl 214 .func (rpages_any ok.r0 (by have := hiv.2; omega) room) ?_
  rintro _ η46 own
  obtain ⟨ya16, yn16, yc16, rfl⟩ := own.form3
  have ok := ok.own own
  refine ⟨ok.n3.n3.k2, ?_⟩
  have hS := ok.n3.n3.k2
  refine .o1 11 <| .k false rfl 215 .func (sameInts_any (ok.m1).sl (ok.m0).sl) hS <| .g 12 false rfl 216 hS (fun _ => .notd) <| .g 13 false rfl 217 hS (fun _ => .pkf) <| .e ?_
  refine .cd (fun C13 => ?_) (fun C13 => ?_)
  · --
    exact absurd rfl C13
  refine .skip <| .end <| hK1 _ _ <| .r <| .w 53 .mvI <| .w 54 .add <| .w 9 .asI <| .nil ?_
  refine .end <| hJ0 _ _ _ ⟨i + 1, _, _, _, _, _, _, _, ⟨rfl, rfl, rfl, rfl, trivial⟩, ok.n3.n3.k2, by omega, hiv, rfl⟩ (by omega)

end Go.Proofs.Ytdbiggfnnhmpiaa
