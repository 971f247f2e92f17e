/- The program's Latest: the latest frame of each page. Conditions: the row is readable, its pages are numbers of 64 bits. -/
import Derived.Test.YtpebbkhainpfaaaWfSame
import Derived.Test.YtpebbkhainpfaaaWfSort
namespace Go.Proofs.Ytpebbkhainpfaaa
open Go Go.HL Go.MapKept
@[reducible] def gvN (l : List Fr) (xa : Nat → Option Addr) (xc : Nat → Nat) (p : Int × Nat) : Int × Value := (p.1, .agg (vfN l xa xc p.2).toArray)
def latF (l : List Fr) : List Fr := (latO l l.length).map (frN l)
theorem map_some {α β : Type} {f : α → β} {l : List α} {i : Nat} {p : β} (h : (l.map f)[i]? = some p) : ∃ q, l[i]? = some q ∧ f q = p := by
  rw [List.getElem?_map] at h
  cases hq : l[i]? with
  | none => rw [hq] at h; cases h
  | some q => rw [hq] at h; injection h with h; exact ⟨q, rfl, h⟩
/-- A frame whose bytes are its own. -/
structure FrO where
  f : Fr
instance : Rep FrO where
  k := 3
  rd h F cs a := ∃ x : SV, cs = [iv a.f.page, iv a.f.commit, sv x] ∧ Cap h 1 5 (sv x) (a.f.b.map bv) ∧ ∀ j, blkC (sv x) j → F j
  kpos := by omega
  len := fun ⟨_, h, _⟩ => by rw [h]; rfl
  one := fun ⟨_, h, _⟩ u hu => by
    rw [h] at hu
    simp only [List.mem_cons, List.not_mem_nil, or_false] at hu
    rcases hu with rfl | rfl | rfl <;> rfl
  st := fun c d ⟨x, e, r, hF⟩ => ⟨x, e, r.chg c (fun j hj => d j (hF j hj)), hF⟩
  mono := fun d ⟨x, e, r, hF⟩ => ⟨x, e, r, fun j hj => d j (hF j hj)⟩
  lt := fun ⟨x, e, r, hF⟩ => ⟨x, e, r, fun j hj => ⟨hF j hj, r.lt hj⟩⟩
theorem FrO.rd_cap {h : Heap} {z1 z2 : Int} {a : Option Addr} {n c : Nat} {l : List UInt8} (r : Cap h 1 5 (.slice a n c) (l.map bv)) : Rep.rd h (blkC (.slice a n c)) [.int .i64 z1, .int .i64 z2, .slice a n c] (⟨⟨z1, z2, l⟩⟩ : FrO) := ⟨(a, n, c), rfl, r, fun _ h => h⟩
theorem FrO.toFr {h : Heap} {E : Nat → Prop} {cs : List Value} {a : FrO} (r : Rep.rd h E cs a) : Rep.rd h E cs a.f := by
  obtain ⟨x, e, c, hF⟩ := r
  exact ⟨x, e, (RdL.of_cap1 (f := bv) (x := x) (l := a.f.b) rfl (fun _ _ _ => rfl) c).mono hF (fun _ h => h)⟩
theorem Acc.toFr {h : Heap} {e : TypeId} {x : SV} {E : Nat → Prop} {l : List FrO} (a : Acc h e x (none, 0, 0) E l []) : Acc h e x (none, 0, 0) E (l.map FrO.f) [] := by
  obtain ⟨css, h1, h2⟩ := a.cap
  exact ⟨⟨css, h1, ⟨by rw [List.length_map]; exact h2.1, fun i g1 g2 => by
    rw [List.getElem_map]; exact FrO.toFr (h2.2 i g1 (by simpa using g2))⟩⟩, RdL.nil _ _ _, fun _ _ _ _ _ _ _ e => (by cases e), a.apart⟩
section
variable {l : List Fr} {xa : Nat → Option Addr} {xc : Nat → Nat}
theorem aput_gv (m : List (Int × Nat)) (k : Int) (i : Nat) : aput (m.map (gvN l xa xc)) k (.agg (vfN l xa xc i).toArray) = (iput m k i).map (gvN l xa xc) := aput_map (fun i => .agg (vfN l xa xc i).toArray) k i m
theorem adel_gv (m : List (Int × Nat)) (k : Int) : adel (m.map (gvN l xa xc)) k = (m.filter fun p => decide (p.1 ≠ k)).map (gvN l xa xc) := by
  unfold adel; rw [List.filter_map]; rfl
theorem lkM_eq {m : List (Int × Nat)} (hn : (m.map (·.1)).Nodup) {p : Int × Nat} (hp : p ∈ m) : lkM m p.1 = p.2 := by
  have h3 := lkM_mem (m := m) (k := p.1) (List.mem_map.2 ⟨p, hp, rfl⟩)
  obtain ⟨x, hx⟩ := List.mem_iff_getElem?.1 h3
  obtain ⟨y, hy⟩ := List.mem_iff_getElem?.1 hp
  have hxy : x = y := by
    have a1 : (m.map (·.1))[x]? = some p.1 := by rw [List.getElem?_map, hx]; rfl
    have a2 : (m.map (·.1))[y]? = some p.1 := by rw [List.getElem?_map, hy]; rfl
    exact (List.getElem?_inj (List.getElem?_eq_some_iff.1 a1).1 hn).1 (by rw [a1, a2])
  subst hxy
  rw [hx] at hy
  injection hy with hy
  rw [← hy]
theorem gv_keys {m : List (Int × Nat)} (hn : (m.map (·.1)).Nodup) : m.map (gvN l xa xc) = (m.map (·.1)).map fun k => (k, .agg (vfN l xa xc (lkM m k)).toArray) := by
  rw [List.map_map]
  refine List.map_congr_left fun p hp => ?_
  simp only [Function.comp, lkM_eq hn hp]
theorem aget_gv {m : List (Int × Nat)} {k : Int} (h : k ∈ m.map (·.1)) : aget (m.map (gvN l xa xc)) k = some (.agg (vfN l xa xc (lkM m k)).toArray) := by
  unfold aget lkM
  rw [List.find?_map]
  have : ((fun p : Int × Value => decide (p.1 = k)) ∘ gvN l xa xc) = fun p : Int × Nat => decide (p.1 = k) := rfl
  rw [this]
  cases hf : m.find? fun p => decide (p.1 = k) with
  | none =>
    obtain ⟨p, hp, rfl⟩ := List.mem_map.1 h
    rw [List.find?_eq_none] at hf
    exact absurd (by simp) (hf p hp)
  | some q => rfl
theorem erase_mem {td : List (Int × Nat)} {i : Nat} {p q : Int × Nat} (hp : p ∈ td) (hq : td[i]? = some q) (hne : p ≠ q) : p ∈ td.eraseIdx i := by
  rw [List.mem_eraseIdx_iff_getElem?]
  obtain ⟨j, hj⟩ := List.mem_iff_getElem?.1 hp
  refine ⟨j, fun e => ?_, hj⟩
  subst e; rw [hj] at hq; injection hq with hq; exact hne hq
theorem filt2 {L : List (Int × Nat)} {c k : Int} (h : c < k) : (L.filter fun p => decide (p.1 ≠ k)).filter (fun p => decide (p.1 ≤ c)) = L.filter fun p => decide (p.1 ≤ c) := by
  rw [List.filter_filter]
  refine List.filter_congr fun p _ => ?_
  by_cases h1 : p.1 ≤ c
  · have : p.1 ≠ k := by omega
    simp [h1, this]
  · simp [h1]
theorem latM_len (l : List Fr) (k : Nat) : (latM l k).length ≤ k := by
  induction k with
  | zero => simp [latM]
  | succ k ih =>
    have h : (iput (latM l k) (frN l k).page k).length ≤ k + 1 := by
      have := congrArg List.length (iput_keys (frN l k).page k (latM l k))
      rw [List.length_map] at this
      rw [this]; split <;> simp <;> omega
    rw [latM_succ]; unfold stepM
    split
    · exact h
    · exact Nat.le_trans (List.length_filter_le _ _) h
end

theorem _root_.Go.HL.Hp.accL {α : Type} [Rep α] {h0 h : Heap} {D : Nat → Prop} {M R : List Itm} {e : TypeId} {x8 x3 : SV} {E : Nat → Prop} {all all2 l : List α} (ok : Hp h0 D (accI e x8 x3 E all l :: M) R h) (q : all = all2) : Hp h0 D (accI e x8 x3 E all2 l :: M) R h := q ▸ ok

set_option maxRecDepth 100000 in
set_option maxHeartbeats 2000000 in
theorem latestO_any {h : Heap} {F E : Nat → Prop} {a : Option Addr} {c : Nat} {l : List Fr} (hl : RdL h F E (a, l.length, c) l) (hN : l.length ≤ 100000) (hB : ∀ i, i < l.length → (frN l i).b.length ≤ 1000000) (hpr : ∀ i, i < l.length → -9223372036854775808 ≤ (frN l i).page ∧ (frN l i).page ≤ 9223372036854775807) :
    HC Try.prog 18 #[.slice a l.length c] h (fun v h' => ∃ x E', v = .tuple #[sv x, .int .i64 (latC l l.length)] ∧ Ext h h' ∧ Acc h' 38 x (none, 0, 0) E' ((latF l).map FrO.mk) [] ∧ ∀ j, (blkC (sv x) j ∨ E' j) → Nw h h' j) := by
  have hc2 := hl.m
  have hc1 : l.length ≤ c := hl.c
  simp only at hc2
  obtain ⟨xa, xc, hf⟩ := RdL.frs hl.lt
  have ok := (Hp.nil h none_).old (frsI (fun j => F j ∧ j < h.size) (fun j => E j ∧ j < h.size) (a, l.length, c) l xa xc) hf (fun _ hj => hj.elim (·.2) (·.2))
  refine HC.go Try.func18 63 ?_
  refine .seq <| .r <| .w 2 .asS <| .w 3 .asI <| .nil ?_
  refine .seq <| .r <| .a' 13 (.mkm (Value.int .i64) ok) ?_
  rintro _ η1 ⟨mb1, rfl, ok⟩
  refine .w 4 .asM <| .nil ?_
  refine .seq <| .r <| .w 5 .asI <| .nil ?_
  refine .seq <| .seq <| .r <| .w 14 .mvS <| .w 15 (.len T.el24) <| .w 16 .mvI <| .nil ?_
  refine .block fun K0 hK0 => .loop (fun m s hh => ∃ (i : Nat) (mm : List (Int × Nat)) (cc : Int), Has s [(4, .map (some mb1)), (5, .int .i64 cc), (14, .slice a l.length c), (15, .int .i64 (l.length : Int)), (16, .int .i64 (i : Int))] ∧ Hp h none_ [mapI (Value.int .i64) mb1 (mm.map (gvN l xa xc))] [frsI (fun j => F j ∧ j < h.size) (fun j => E j ∧ j < h.size) (a, l.length, c) l xa xc] hh ∧ i ≤ l.length ∧ mm = latM l i ∧ cc = latC l i ∧ m = l.length - i) ?_ ?_
  · exact ⟨_, 0, [], 0, ⟨rfl, rfl, rfl, rfl, rfl, trivial⟩, ok, Nat.zero_le _, rfl, rfl, rfl⟩
  rintro _ _ η2 ⟨i, mm, cc, hs, ok, hi, hmm, hcc, rfl⟩ J0 hJ0
  refine .frame hs fun τ => ?_
  refine .seq <| .r <| .w 17 .lss <| .nil ?_
  refine .seq <| .cdr (fun C0 => ?_) (fun C0 => ?_)
  · --
    obtain rfl : i = l.length := by omega
    have hlat := lat l l.length
    have hnod : (mm.map (·.1)).Nodup := by rw [hmm]; exact hlat.nod
    have hkr : ∀ k ∈ mm.map (·.1), -9223372036854775808 ≤ k ∧ k ≤ 9223372036854775807 := fun k hk => by
      obtain ⟨p, hp, rfl⟩ := List.mem_map.1 hk
      rw [hmm] at hp
      rw [hlat.key p hp]; exact hpr _ (latM_lt l hp)
    have hkl : (mm.map (·.1)).length ≤ 1000000000000 := by rw [List.length_map, hmm]; have := latM_len l l.length; omega
    refine .exit <| hK0 _ _ <| .seq <| .r <| .w 9 .asS <| ?_
    have ok := ok.accNil 38 FrO
    refine .nil ?_
    refine .seq <| .seq <| .r <| .w 41 .mvM <| .c' 42 .func keys_any ?_
    rintro _ _ ⟨rfl, rfl⟩
    have hmt := ok.m1
    rw [gv_keys hnod] at hmt
    have ok := ok.ext (Ext.push _ (.cells #[.map (some mb1)] 100 (0, 0)))
    refine .c' 43 .func (sorted_any hmt hkr hkl) ?_
    rintro _ η3 ⟨S, hSp, hSs, own⟩
    obtain ⟨aS, nS, cS, rfl⟩ := own.form3
    have ok := (ok.own own).frzI rfl
    obtain rfl : nS = S.length := ok.r0.n
    have hSm := ok.r0.m
    have hSc := ok.r0.c
    simp only at hSm hSc
    refine .w 44 (.len T.el101) <| .w 45 .mvI <| .nil ?_
    refine .block fun K4 hK4 => .loop (fun m s hh => ∃ (j : Nat) (a9 : Option Addr) (n9 c9 : Nat) (E2 : Nat → Prop), Has s [(4, .map (some mb1)), (5, .int .i64 cc), (9, .slice a9 n9 c9), (43, .slice aS S.length cS), (44, .int .i64 (S.length : Int)), (45, .int .i64 (j : Int))] ∧ Hp h none_ [accI 38 (a9, n9, c9) (none, 0, 0) E2 ((S.take j).map fun k => FrO.mk (frN l (lkM mm k))) ([] : List FrO), mapI (Value.int .i64) mb1 (mm.map (gvN l xa xc))] [rdI (blkC (sv (aS, S.length, cS))) none_ (aS, S.length, cS) S, frsI (fun j => F j ∧ j < h.size) (fun j => E j ∧ j < h.size) (a, l.length, c) l xa xc] hh ∧ j ≤ S.length ∧ m = S.length - j) ?_ ?_
    · exact ⟨_, 0, none, 0, 0, none_, ⟨rfl, rfl, rfl, rfl, rfl, rfl, trivial⟩, ok.n1.n1, Nat.zero_le _, rfl⟩
    rintro _ _ η4 ⟨j, a9, n9, c9, E2, hs, ok, hj, rfl⟩ J2 hJ2
    refine .frame hs fun τ => ?_
    refine .seq <| .r <| .w 46 .lss <| .nil ?_
    refine .seq <| .cdr (fun C4 => ?_) (fun C4 => ?_)
    · --
      obtain rfl : j = S.length := by omega
      rw [List.take_length] at ok
      have hfin : (S.map fun k => FrO.mk (frN l (lkM mm k))) = (latF l).map FrO.mk := by
        rw [hmm] at hSp
        rw [latF, ← lat_sorted l hSp hSs, List.map_map, List.map_map, hmm]; rfl
      rw [hfin] at ok
      refine .exit <| hK4 _ _ <| .seq <| .r <| .w 61 .mvS <| .w 62 .mvI <| .w 2 .asS <| .w 3 .asI <| .nil ?_
      refine .ret ⟨.tuple #[.slice a9 n9 c9, .int .i64 cc], Res.two rfl rfl rfl, (a9, n9, c9), E2, by rw [hcc], ok.chg, ok.m0, fun j hj => ok.fresh j (hj.elim .inl fun h => .inr (.inr h))⟩
    have hjS : j < S.length := by omega
    have hSk : S[j] ∈ mm.map (·.1) := hSp.mem_iff.1 (List.getElem_mem hjS)
    have hSl : lkM mm S[j] < l.length := latM_lt l (by rw [← hmm]; exact lkM_mem hSk)
    have hSn : S.length ≤ 100000 := by rw [hSp.length_eq, List.length_map, hmm]; have := latM_len l l.length; omega
    refine .skip <| .seq <| .block fun K5 hK5 => .seq <| .r <| ?_
    obtain ⟨bb1, oo1, rfl, fb1⟩ := ok.r0.pos (by omega)
    refine .w 47 (.ix1 j T.el101 T.sz3) <| .w 48 (.ld T.ag3 (ok.r0.i64 (i := j) (by omega))) <| .w 11 .asI <| .nil ?_
    refine .seq <| .r <| .w 49 .mvM <| .w 50 .mvI <| .w 51 (.lk (KV.int .i64) (S[j]) (v := .agg #[.int .i64 ((frN l (lkM mm S[j])).page), .int .i64 ((frN l (lkM mm S[j])).commit), .slice (xa (lkM mm S[j])) ((frN l (lkM mm S[j])).b.length) (xc (lkM mm S[j]))]) T.mp100 (inB_iff T.in3) T.zr38 ok.m1 (by rw [aget_gv hSk]; rfl)) <| ?_
    have ok := ok.d1 (rdI (fun j => E j ∧ j < h.size) (fun j => E j ∧ j < h.size) ((xa (lkM mm S[j])), (frN l (lkM mm S[j])).b.length, (xc (lkM mm S[j]))) ((frN l (lkM mm S[j])).b)) ((ok.r1).b (lkM mm S[j]) hSl) (fun _ h => .inr (h.elim id id))
    refine .a' 12 (.alA T.zr38 ok) ?_
    rintro _ η5 ⟨pb1, rfl, ok, xe⟩
    refine .ur' (.stW (vs := [.int .i64 ((frN l (lkM mm S[j])).page), .int .i64 ((frN l (lkM mm S[j])).commit), .slice (xa (lkM mm S[j])) ((frN l (lkM mm S[j])).b.length) (xc (lkM mm S[j]))]) T.sz38 ok (oneL rfl)) ?_
    rintro η6 ⟨ok, cg⟩
    refine .nil ?_
    refine .seq <| .r <| .w 52 (.fa T.fd38_2) <| .w 53 (.ldx T.ag22 ok.m0) <| .c' 54 .func (sclone_any (a := (xa (lkM mm S[j]))) (c := (xc (lkM mm S[j]))) (l := (frN l (lkM mm S[j])).b) ok.r0 (by have := hB _ hSl; omega)) ?_
    rintro _ η7 own
    obtain ⟨ya1, yc1, rfl⟩ := own.formB
    have ok := ok.own own
    refine .w 55 (.fa T.fd38_2) <| .ur' (.stS T.sz22 ok.n1) ?_
    rintro η8 ⟨ok, cg⟩
    refine .nil ?_
    refine .r <| .w 56 .mvS <| .w 57 (.ldb T.ag38 ok.m0 T.sz38) <| .a' 58 (.lit [.tmp 57] (cs := [.int .i64 ((frN l (lkM mm S[j])).page), .int .i64 ((frN l (lkM mm S[j])).commit), .slice ya1 (((frN l (lkM mm S[j])).b).length) yc1]) T.el24 T.sz38 T.zr38 ok ⟨rfl, trivial⟩) ?_
    rintro _ η9 ⟨pb2, rfl, ok, xe⟩
    refine .a' 59 (.appA (FrO.mk (frN l (lkM mm S[j]))) T.el24 T.sz38 T.by38 T.zr38 (ok.n2.n3) ((ok.n2.n3.m2).sl) (FrO.rd_cap (ok.n2.n3).m1) (by simp; omega)) ?_
    rintro _ η10 ⟨az1, nz1, cz1, rfl, ok⟩
    have ok := ok.accL (all2 := (S.take (j + 1)).map fun k => FrO.mk (frN l (lkM mm k))) (by rw [take_next hjS, List.map_append]; rfl)
    refine .w 9 .asS <| .nil ?_
    refine .end <| hK5 _ _ <| .r <| .w 60 (.addI (b := 1)) <| .w 45 .mvI <| .nil ?_
    refine .end <| hJ2 _ _ _ ⟨j + 1, az1, nz1, cz1, _, ⟨rfl, rfl, rfl, rfl, rfl, rfl, trivial⟩, ok.n3.n1.k2.tR, by omega, rfl⟩ (by omega)
  have hil : i < l.length := by omega
  refine .skip <| .seq <| .join (fun s hh => ∃ (m2 : List (Int × Nat)) (c2 : Int), Has s [(4, .map (some mb1)), (5, .int .i64 c2), (14, .slice a l.length c), (15, .int .i64 (l.length : Int)), (16, .int .i64 (i : Int))] ∧ Hp h none_ [mapI (Value.int .i64) mb1 (m2.map (gvN l xa xc))] [frsI (fun j => F j ∧ j < h.size) (fun j => E j ∧ j < h.size) (a, l.length, c) l xa xc] hh ∧ m2 = latM l (i + 1) ∧ c2 = latC l (i + 1)) ?_ ?_
  · --
    refine .block fun K1 hK1 => .seq <| .r <| ?_
    obtain ⟨bb2, oo2, rfl, fb2⟩ := ok.r0.pos (by omega)
    refine .w 18 (.ix i T.el24 T.sz38) <| ?_
    have ok := ok.d0 (rdI (fun j => E j ∧ j < h.size) (fun j => E j ∧ j < h.size) ((xa i), (frN l i).b.length, (xc i)) ((frN l i).b)) ((ok.r0).b i (by omega)) (fun _ h => .inr (h.elim id id))
    refine .w 19 (.ldc (vs := vfN l xa xc i) T.ag38 (frs_ats (ok.r1).sl (i := i) (by omega)) T.sz38) <| .a' 7 (.alA T.zr38 ok) ?_
    rintro _ η11 ⟨pb3, rfl, ok, xe⟩
    refine .ur' (.stW (vs := [.int .i64 ((frN l i).page), .int .i64 ((frN l i).commit), .slice (xa i) ((frN l i).b.length) (xc i)]) T.sz38 ok (oneL rfl)) ?_
    rintro η12 ⟨ok, cg⟩
    refine .nil ?_
    refine .seq <| .r <| .w 20 .mvM <| .w 21 (.fa T.fd38_0) <| .w 22 (.ldx T.ag3 ok.m0) <| .w 23 (.ldb T.ag38 ok.m0 T.sz38) <| .ur' (.mpu (KV.int .i64) V.sbI ((frN l i).page) (v := .agg (vfN l xa xc i).toArray) T.mp100 (inB_iff T.in3) ok.n1) ?_
    rintro η13 ok
    rw [aput_gv] at ok
    refine .nil ?_
    refine .seq <| .seq <| .r <| .w 24 (.fa T.fd38_1) <| .w 25 (.ldx T.ag3 ok.m1) <| .w 26 .eql <| .nil ?_
    refine .cd (fun C1 => ?_) (fun C1 => ?_)
    · --
      refine .exit <| hK1 _ _ <| .end <| ⟨(iput mm (frN l i).page i), cc, ⟨rfl, rfl, rfl, rfl, rfl, trivial⟩, ok.k1.tR, by rw [latM_succ, ← hmm]; exact (if_pos C1).symm, by rw [latC_succ, ← hcc]; exact (if_pos C1).symm⟩
    refine .skip <| .seq <| .r <| .w 27 (.fa T.fd38_1) <| .w 28 (.ldx T.ag3 ok.m1) <| .w 5 .asI <| .nil ?_
    refine .seq <| .r <| .w 29 .mvM <| .a' 30 (.rng T.mp100 ok) ?_
    rintro _ η14 ⟨ib1, rfl, ok⟩
    refine .nil ?_
    refine .block fun K2 hK2 => .loop (fun m s hh => ∃ (L td : List (Int × Nat)), Has s [(4, .map (some mb1)), (5, .int .i64 ((frN l i).commit)), (14, .slice (some ⟨bb2, oo2, none⟩) l.length c), (15, .int .i64 (l.length : Int)), (16, .int .i64 (i : Int)), (30, .pointer (some ⟨ib1, 0, none⟩))] ∧ Hp h none_ [itI (Value.int .i64) ib1 mb1 (L.map (gvN l xa xc)) (td.map (gvN l xa xc)), boxI pb3 38 [.int .i64 ((frN l i).page), .int .i64 ((frN l i).commit), .slice (xa i) ((frN l i).b.length) (xc i)]] [rdI (fun j => E j ∧ j < h.size) (fun j => E j ∧ j < h.size) ((xa i), (frN l i).b.length, (xc i)) ((frN l i).b), frsI (fun j => F j ∧ j < h.size) (fun j => E j ∧ j < h.size) (some ⟨bb2, oo2, none⟩, l.length, c) l xa xc] hh ∧ L.filter (fun p => decide (p.1 ≤ (frN l i).commit)) = (iput mm (frN l i).page i).filter (fun p => decide (p.1 ≤ (frN l i).commit)) ∧ (∀ p ∈ L, p.1 ≤ (frN l i).commit ∨ p ∈ td) ∧ m = td.length) ?_ ?_
    · exact ⟨_, (iput mm (frN l i).page i), (iput mm (frN l i).page i), ⟨rfl, rfl, rfl, rfl, rfl, rfl, trivial⟩, ok.n1.n1, rfl, fun p h => .inr h, rfl⟩
    rintro _ _ η15 ⟨L, td, hs, ok, hLf, hLt, rfl⟩ J1 hJ1
    refine .frame hs fun τ => ?_
    refine .seq <| .r <| .a' 31 (.nxt ok) ?_
    rintro _ η16 (⟨hnil, rfl, ok⟩ | ⟨ipq1, pq1, hpq1, rfl, ok⟩)
    · --
      have htd : td = [] := by simpa using hnil
      have hLe : L.filter (fun p => decide (p.1 ≤ (frN l i).commit)) = L := List.filter_eq_self.2 fun p hp => decide_eq_true ((hLt p hp).resolve_right (by rw [htd]; simp))
      have ok := ok.itm
      refine .w 32 .ex <| .nil ?_
      refine .seq <| .cf <| .exit <| hK2 _ _ <| .end <| hK1 _ _ <| .end <| ⟨L, ((frN l i).commit), ⟨rfl, rfl, rfl, rfl, rfl, trivial⟩, ok.k1.tR, by rw [latM_succ, ← hmm]; unfold stepM; rw [if_neg C1, ← hLf]; exact hLe.symm, by rw [latC_succ, ← hcc]; exact (if_neg C1).symm⟩
    obtain ⟨q, hq, hpe⟩ := map_some hpq1
    have hk1 : pq1.1 = q.1 := by rw [← hpe]
    rw [← map_erase] at ok
    refine .w 32 .ex <| .nil ?_
    refine .seq <| .ct <| .skip <| .block fun K3 hK3 => .seq <| .r <| .w 33 (.ent (ok.m0).2) <| .w 34 .ex <| .w 8 .asI <| .nil ?_
    refine .seq <| .r <| .w 35 .mvI <| .w 36 .mvI <| .w 37 .gtr <| .nil ?_
    refine .cd (fun C3 => ?_) (fun C3 => ?_)
    · --
      refine .r <| .w 38 .mvM <| .w 39 .mvI <| .a0' (.delC (KV.int .i64) T.mp100 (inB_iff T.in3) ok) ?_
      rintro _ η17 ⟨rfl, ok⟩
      rw [adel_gv, hk1] at ok
      refine .nil ?_
      refine .end <| hK3 _ _ <| .end <| hJ1 _ _ _ ⟨L.filter (fun p => decide (p.1 ≠ q.1)), td.eraseIdx ipq1, ⟨rfl, rfl, rfl, rfl, rfl, rfl, trivial⟩, ok.n1.n1, by rw [filt2 (by omega)]; exact hLf, fun p hp => (hLt p (List.mem_filter.1 hp).1).imp id fun h => erase_mem h hq (fun e => by have := (List.mem_filter.1 hp).2; rw [e] at this; simp at this), rfl⟩ (by rw [List.length_eraseIdx_of_lt (List.getElem?_eq_some_iff.1 hq).1]; have := (List.getElem?_eq_some_iff.1 hq).1; omega)
    have ok := (ok).itc
    refine .skip <| .end <| hK3 _ _ <| .end <| hJ1 _ _ _ ⟨L, td.eraseIdx ipq1, ⟨rfl, rfl, rfl, rfl, rfl, rfl, trivial⟩, ok.n1.n1, hLf, fun p hp => (hLt p hp).elim .inl fun h => if e : p = q then .inl (by rw [e]; omega) else .inr (erase_mem h hq e), rfl⟩ (by rw [List.length_eraseIdx_of_lt (List.getElem?_eq_some_iff.1 hq).1]; have := (List.getElem?_eq_some_iff.1 hq).1; omega)
  rintro s η18 ⟨m2, c2, hs, ok, hm2, hc2x⟩
  refine .frame hs fun τ => ?_
  refine .r <| .w 40 (.addI (b := 1)) <| .w 16 .mvI <| .nil ?_
  refine .end <| hJ0 _ _ _ ⟨i + 1, m2, c2, ⟨rfl, rfl, rfl, rfl, rfl, trivial⟩, ok, by omega, hm2, hc2x, rfl⟩ (by omega)

theorem latest_any {h : Heap} {F E : Nat → Prop} {a : Option Addr} {c : Nat} {l : List Fr} (hl : RdL h F E (a, l.length, c) l) (hN : l.length ≤ 100000) (hB : ∀ i, i < l.length → (frN l i).b.length ≤ 1000000) (hpr : ∀ i, i < l.length → -9223372036854775808 ≤ (frN l i).page ∧ (frN l i).page ≤ 9223372036854775807) :
    HC Try.prog 18 #[.slice a l.length c] h (fun v h' => ∃ x E', v = .tuple #[sv x, .int .i64 (latC l l.length)] ∧ Ext h h' ∧ Acc h' 38 x (none, 0, 0) E' (latF l) [] ∧ ∀ j, (blkC (sv x) j ∨ E' j) → Nw h h' j) :=
  (latestO_any hl hN hB hpr).mono fun v h' ⟨x, E', e, hx, ha, hn⟩ => ⟨x, E', e, hx, by have := Acc.toFr ha; rwa [List.map_map, show FrO.f ∘ FrO.mk = id from rfl, List.map_id] at this, hn⟩

end Go.Proofs.Ytpebbkhainpfaaa
