/- The document's Latest. Conditions: the row is readable. -/
import Derived.Test.YtpebbkhainpfaaaWfLatI
namespace Go.Proofs.Ytpebbkhainpfaaa
open Go Go.HL
theorem ins_len (l : List Fr) (i : Nat) : ∀ r : List Nat, (ins l i r).length ≤ r.length + 1
  | [] => by simp [ins]
  | k :: r => by
    have := ins_len l i r
    unfold ins
    split
    · simp; omega
    · split <;> simp
theorem latO_len (l : List Fr) (k : Nat) : (latO l k).length ≤ k := by
  induction k with
  | zero => simp [latO]
  | succ k ih =>
    have h : (insI l (latO l k) k).length ≤ k + 1 := by rw [insI_eq l (lat l k).srt]; have := ins_len l k (latO l k); omega
    rw [latO_succ]; unfold stepO
    split
    · exact h
    · exact Nat.le_trans (List.length_filter_le _ _) h
theorem vfs_rd {h h' : Heap} {F E : Nat → Prop} {x : SV} {l : List Fr} {xa : Nat → Option Addr} {xc : Nat → Nat} (hf : Frs h F E x l xa xc) (hx : Ext h h') {O : List Nat} (hO : ∀ i ∈ O, i < l.length) {y : SV} (o : Own h h' 3 38 (sv y) (O.flatMap (vfN l xa xc))) : RdL h' (Nw h h') E y (O.map (frN l)) := by
  refine (RdL.of_cap (α := Fr) (E := E) (css := O.map (vfN l xa xc)) (by rw [← List.flatMap_def]; exact o.cap) ⟨by simp, fun i h1 h2 => ?_⟩).mono (fun j hj => ⟨o.fresh j hj, o.cap.lt hj⟩) (fun _ h => h)
  simp only [List.length_map] at h1
  simp only [List.getElem_map]
  exact ⟨(xa O[i], _, xc O[i]), rfl, (hf.b _ (hO _ (List.getElem_mem h1))).ext hx⟩

set_option maxRecDepth 100000 in
set_option maxHeartbeats 2000000 in
theorem rlatest_any {h : Heap} {F E : Nat → Prop} {a : Option Addr} {c : Nat} {l : List Fr} (hl : RdL h F E (a, l.length, c) l) (hN : l.length ≤ 100000) :
    HC Try.prog 19 #[.slice a l.length c] h (fun v h' => ∃ x, v = .tuple #[sv x, .int .i64 (latC l l.length)] ∧ Ext h h' ∧ RdL h' (Nw h h') (fun j => E j ∧ j < h.size) x (latF l)) := by
  have hc2 := hl.m
  have hc1 : l.length ≤ c := hl.c
  simp only at hc2
  obtain ⟨xa, xc, hf⟩ := RdL.frs hl.lt
  have hfv := vfN_len l xa xc
  have ok := (Hp.nil h none_).old (frsI (fun j => F j ∧ j < h.size) (fun j => E j ∧ j < h.size) (a, l.length, c) l xa xc) hf (fun _ hj => hj.elim (·.2) (·.2))
  refine HC.go Try.func19 108 ?_
  refine .seq <| .r <| .w 2 .asS <| .w 3 .asI <| .nil ?_
  refine .seq <| .r <| .w 4 .asS <| ?_
  have ok := ok.nilC (k := 3) (e := 38)
  refine .nil ?_
  refine .seq <| .r <| .w 5 .asI <| .nil ?_
  refine .seq <| .seq <| .r <| .w 6 .asI <| .nil ?_
  refine .block fun K0 hK0 => .loop (fun m s hh => ∃ (i : Nat) (O : List Nat) (cc : Int) (a4 : Option Addr) (c4 : Nat), Has s [(0, .slice a l.length c), (4, .slice a4 O.length c4), (5, .int .i64 cc), (6, .int .i64 (i : Int))] ∧ Hp h none_ [capI 3 38 (a4, O.length, c4) (O.flatMap (vfN l xa xc))] [frsI (fun j => F j ∧ j < h.size) (fun j => E j ∧ j < h.size) (a, l.length, c) l xa xc] hh ∧ i ≤ l.length ∧ O = latO l i ∧ cc = latC l i ∧ m = l.length - i) ?_ ?_
  · exact ⟨_, 0, [], 0, none, 0, ⟨rfl, rfl, rfl, rfl, trivial⟩, ok.cx (by simp), Nat.zero_le _, rfl, rfl, rfl⟩
  rintro _ _ η1 ⟨i, O, cc, a4, c4, hs, ok, hi, hO, hcc, rfl⟩ J0 hJ0
  refine .frame hs fun τ => ?_
  refine .seq <| .seq <| .r <| .w 12 .mvI <| .w 13 .mvS <| .w 14 (.len T.el24) <| .w 15 .lss <| .nil ?_
  refine .cdr (fun C0 => ?_) (fun C0 => ?_)
  · --
    obtain rfl : i = l.length := by omega
    refine .exit <| hK0 _ _ <| .seq <| .r <| .w 106 .mvS <| .w 107 .mvI <| .w 2 .asS <| .w 3 .asI <| .nil ?_
    refine .ret ⟨.tuple #[.slice a4 O.length c4, .int .i64 cc], Res.two rfl rfl rfl, (a4, O.length, c4), by rw [hcc], ok.chg, by have h9 := vfs_rd hf ok.chg (fun i hi => latO_lt l _ i (hO ▸ hi)) ok.toOwn; unfold latF; rw [← hO]; exact h9⟩
  have hil : i < l.length := by omega
  have hOl := latO_len l i
  rw [← hO] at hOl
  refine .skip <| .seq <| .block fun K1 hK1 => .seq <| .r <| .w 7 .asS <| ?_
  have ok := ok.nilC (k := 3) (e := 38)
  refine .nil ?_
  refine .seq <| .r <| .w 8 .asB <| .nil ?_
  refine .seq <| .seq <| .r <| .w 9 .asI <| .nil ?_
  refine .block fun K2 hK2 => .loop (fun m s hh => ∃ (k : Nat) (N : List Nat) (put : Bool) (a7 : Option Addr) (c7 : Nat), Has s [(0, .slice a l.length c), (4, .slice a4 O.length c4), (5, .int .i64 cc), (6, .int .i64 (i : Int)), (7, .slice a7 N.length c7), (8, .bool put), (9, .int .i64 (k : Int))] ∧ Hp h none_ [capI 3 38 (a7, N.length, c7) (N.flatMap (vfN l xa xc)), capI 3 38 (a4, O.length, c4) (O.flatMap (vfN l xa xc))] [frsI (fun j => F j ∧ j < h.size) (fun j => E j ∧ j < h.size) (a, l.length, c) l xa xc] hh ∧ k ≤ O.length ∧ (N, put) = (O.take k).foldl (stepI l i) ([], false) ∧ N.length ≤ 2 * k ∧ m = O.length - k) ?_ ?_
  · exact ⟨_, 0, [], false, none, 0, ⟨rfl, rfl, rfl, rfl, rfl, rfl, rfl, trivial⟩, (ok.n1.n1).k2, Nat.zero_le _, rfl, Nat.zero_le _, rfl⟩
  rintro _ _ η2 ⟨k, N, put, a7, c7, hs, ok, hk, hfo, hNl, rfl⟩ J1 hJ1
  refine .frame hs fun τ => ?_
  refine .seq <| .seq <| ?_
  have hszO := Sl.sz (Cap.sl ok.m1) hfv (by decide)
  refine .r <| .w 18 .mvI <| .w 19 .mvS <| .w 20 (.len T.el24) <| .w 21 .lss <| .nil ?_
  refine .cdr (fun C1 => ?_) (fun C1 => ?_)
  · --
    have hkE : k = O.length := by omega
    rw [hkE, List.take_length] at hfo
    refine .exit <| hK2 _ _ <| .seq <| .seq <| .r <| .w 64 .mvB <| .w 65 .not <| .nil ?_
    refine .join (fun s hh => ∃ (N2 : List Nat) (a7c : Option Addr) (c7c : Nat), Has s [(0, .slice a l.length c), (5, .int .i64 cc), (6, .int .i64 (i : Int)), (7, .slice a7c N2.length c7c)] ∧ Hp h none_ [capI 3 38 (a7c, N2.length, c7c) (N2.flatMap (vfN l xa xc))] [frsI (fun j => F j ∧ j < h.size) (fun j => E j ∧ j < h.size) (a, l.length, c) l xa xc] hh ∧ N2 = insI l O i ∧ N2.length ≤ 2 * O.length + 1) ?_ ?_
    · --
      refine .cond (fun C4 => ?_) (fun C4 => ?_)
      · --
        refine .r <| .w 66 .mvS <| .w 67 .mvS <| .w 68 .mvI <| ?_
        obtain ⟨bb1, oo1, rfl, fb1⟩ := ok.r0.pos (n := l.length) (by omega)
        refine .w 69 (.ix i T.el24 T.sz38) <| ?_
        have ok := ok.d0 (rdI (fun j => E j ∧ j < h.size) (fun j => E j ∧ j < h.size) ((xa i), (frN l i).b.length, (xc i)) ((frN l i).b)) ((ok.r0).b i (by omega)) (fun _ h => .inr (h.elim id id))
        refine .w 70 (.ldc (vs := vfN l xa xc i) T.ag38 (frs_ats (ok.r1).sl (i := i) (by omega)) T.sz38) <| .a' 71 (.lit [.tmp 70] (cs := [.int .i64 ((frN l i).page), .int .i64 ((frN l i).commit), .slice (xa i) ((frN l i).b.length) (xc i)]) T.el24 T.sz38 T.zr38 ok ⟨rfl, trivial⟩) ?_
        rintro _ η3 ⟨pb1, rfl, ok, xe⟩
        refine .a' 72 (.app (news := [.int .i64 ((frN l i).page), .int .i64 ((frN l i).commit), .slice (xa i) ((frN l i).b.length) (xc i)]) T.el24 T.sz38 T.by38 T.zr38 ok.n1 (ok.n1.m1).sl (oneL rfl) (by rw [flat_len hfv]; simp only [List.length_cons, List.length_nil]; omega)) ?_
        rintro _ η4 ⟨ya1, yn1, yc1, rfl, ok, ap⟩
        have ok := ok.cx (snocF (f := (vfN l xa xc)) (l := N) (x := i))
        obtain rfl : yn1 = (N ++ [i]).length := (Sl.sz (Cap.sl ok.m0) hfv (by decide)).1.symm
        refine .w 7 .asS <| .nil ?_
        refine .end <| ⟨(N ++ [i]), ya1, yc1, ⟨rfl, rfl, rfl, rfl, trivial⟩, (ok).k1.tR, by unfold insI; rw [← hfo]; simp only; rw [if_neg (by rw [show put = false by simpa using C4]; decide)], by first | omega | (simp only [List.length_append, List.length_singleton]; omega)⟩
      refine .skip <| .end <| ⟨(N), a7, c7, ⟨rfl, rfl, rfl, rfl, trivial⟩, (ok).k1, by unfold insI; rw [← hfo]; simp only; rw [if_pos (by simpa using C4)], by omega⟩
    rintro s η5 ⟨N2, a7c, c7c, hs, ok, hN2, hN2l⟩
    refine .frame hs fun τ => ?_
    refine .seq <| .r <| .w 73 .mvS <| .w 4 .asS <| .nil ?_
    refine .seq <| .r <| .w 74 .mvS <| .w 75 .mvI <| ?_
    obtain ⟨bb2, oo2, rfl, fb2⟩ := ok.r0.pos (n := l.length) (by omega)
    refine .w 76 (.ix i T.el24 T.sz38) <| .w 77 (.fa T.fd38_1) <| .w 78 (.ld T.ag3 (frs_at (ok.r0).sl (i := i) (j := 1) (by omega) rfl)) <| .w 79 .neq <| .nil ?_
    refine .cd (fun C5 => ?_) (fun C5 => ?_)
    · --
      refine .seq <| .r <| .w 80 .mvS <| .w 81 .mvI <| .w 82 (.ix i T.el24 T.sz38) <| .w 83 (.fa T.fd38_1) <| .w 84 (.ld T.ag3 (frs_at (ok.r0).sl (i := i) (j := 1) (by omega) rfl)) <| .w 5 .asI <| .nil ?_
      refine .seq <| .r <| .w 10 .asS <| ?_
      have ok := ok.nilC (k := 3) (e := 38)
      refine .nil ?_
      refine .seq <| .seq <| .r <| .w 11 .asI <| .nil ?_
      refine .block fun K4 hK4 => .loop (fun m s hh => ∃ (k : Nat) (Y : List Nat) (a10 : Option Addr) (c10 : Nat), Has s [(0, .slice (some ⟨bb2, oo2, none⟩) l.length c), (4, .slice a7c N2.length c7c), (5, .int .i64 ((frN l i).commit)), (6, .int .i64 (i : Int)), (10, .slice a10 Y.length c10), (11, .int .i64 (k : Int))] ∧ Hp h none_ [capI 3 38 (a10, Y.length, c10) (Y.flatMap (vfN l xa xc)), capI 3 38 (a7c, N2.length, c7c) (N2.flatMap (vfN l xa xc))] [frsI (fun j => F j ∧ j < h.size) (fun j => E j ∧ j < h.size) (some ⟨bb2, oo2, none⟩, l.length, c) l xa xc] hh ∧ k ≤ N2.length ∧ Y = (N2.take k).filter (fun q => decide ((frN l q).page ≤ (frN l i).commit)) ∧ Y.length ≤ k ∧ m = N2.length - k) ?_ ?_
      · exact ⟨_, 0, [], none, 0, ⟨rfl, rfl, rfl, rfl, rfl, rfl, trivial⟩, (ok.n1.n1).k2, Nat.zero_le _, rfl, Nat.le_refl _, rfl⟩
      rintro _ _ η6 ⟨k, Y, a10, c10, hs, ok, hk2, hT, hTl, rfl⟩ J2 hJ2
      refine .frame hs fun τ => ?_
      refine .seq <| .seq <| ?_
      have hszN := Sl.sz (Cap.sl ok.m1) hfv (by decide)
      refine .r <| .w 85 .mvI <| .w 86 .mvS <| .w 87 (.len T.el24) <| .w 88 .lss <| .nil ?_
      refine .cdr (fun C6 => ?_) (fun C6 => ?_)
      · --
        have hkE2 : k = N2.length := by omega
        rw [hkE2, List.take_length] at hT
        refine .exit <| hK4 _ _ <| .r <| .w 105 .mvS <| .w 4 .asS <| .nil ?_
        refine .end <| hK1 _ _ <| .r <| .w 16 .mvI <| .w 17 (.addI (b := 1)) <| .w 6 .asI <| .nil ?_
        refine .end <| hJ0 _ _ _ ⟨i + 1, Y, (frN l i).commit, a10, c10, ⟨rfl, rfl, rfl, rfl, trivial⟩, (ok).k1, by omega, by rw [latO_succ, ← hO]; unfold stepO; rw [if_neg C5, ← hN2]; exact hT, by rw [latC_succ, ← hcc]; exact (if_neg C5).symm, rfl⟩ (by omega)
      have hkN : k < N2.length := by omega
      have hzl : ∀ z ∈ N2, z < l.length := fun z hz => by
        rw [hN2, insI_eq l (by rw [hO]; exact (lat l i).srt), mem_ins l (by rw [hO]; exact (lat l i).srt)] at hz
        rcases hz with hz | hz
        · omega
        · have := latO_lt l i _ (hO ▸ hz.1); omega
      have hN1x : N2[k] < l.length := hzl _ (List.getElem_mem hkN)
      refine .skip <| .seq <| .block fun K5 hK5 => .seq <| .r <| .w 91 .mvS <| .w 92 .mvI <| ?_
      obtain ⟨bb3, oo3, rfl, fb3⟩ := ok.m1.pos (n := N2.length) (by omega)
      refine .w 93 (.ix k T.el24 T.sz38) <| .w 94 (.fa T.fd38_0) <| .w 95 (.ld T.ag3 (sl_at hfv (ok.m1).sl (i := k) (j := 0) (by omega) rfl)) <| .w 96 .mvI <| .w 97 .leq <| .nil ?_
      refine .cd (fun C7 => ?_) (fun C7 => ?_)
      · --
        refine .r <| .w 98 .mvS <| .w 99 .mvS <| .w 100 .mvI <| .w 101 (.ix k T.el24 T.sz38) <| .w 102 (.ldc (vs := (vfN l xa xc) N2[k]) T.ag38 (sl_ats hfv (ok.m1).sl (i := k) (by omega)) T.sz38) <| .a' 103 (.lit [.tmp 102] (cs := [.int .i64 ((frN l N2[k]).page), .int .i64 ((frN l N2[k]).commit), .slice (xa N2[k]) ((frN l N2[k]).b.length) (xc N2[k])]) T.el24 T.sz38 T.zr38 ok ⟨rfl, trivial⟩) ?_
        rintro _ η7 ⟨pb2, rfl, ok, xe⟩
        refine .a' 104 (.app (news := [.int .i64 ((frN l N2[k]).page), .int .i64 ((frN l N2[k]).commit), .slice (xa N2[k]) ((frN l N2[k]).b.length) (xc N2[k])]) T.el24 T.sz38 T.by38 T.zr38 ok.n1 (ok.n1.m1).sl (oneL rfl) (by rw [flat_len hfv]; simp only [List.length_cons, List.length_nil]; omega)) ?_
        rintro _ η8 ⟨ya2, yn2, yc2, rfl, ok, ap⟩
        have ok := ok.cx (snocF (f := (vfN l xa xc)) (l := Y) (x := N2[k]))
        obtain rfl : yn2 = (Y ++ [N2[k]]).length := (Sl.sz (Cap.sl ok.m0) hfv (by decide)).1.symm
        refine .w 10 .asS <| .nil ?_
        refine .end <| hK5 _ _ <| .r <| .w 89 .mvI <| .w 90 (.addI (b := 1)) <| .w 11 .asI <| .nil ?_
        refine .end <| hJ2 _ _ _ ⟨k + 1, Y ++ [N2[k]], ya2, yc2, ⟨rfl, rfl, rfl, rfl, rfl, rfl, trivial⟩, (ok.n2.n1).k2, by omega, by rw [take_next hkN, List.filter_append, ← hT]; simp [C7], by first | omega | (simp only [List.length_append, List.length_singleton]; omega), rfl⟩ (by omega)
      refine .skip <| .end <| hK5 _ _ <| .r <| .w 89 .mvI <| .w 90 (.addI (b := 1)) <| .w 11 .asI <| .nil ?_
      refine .end <| hJ2 _ _ _ ⟨k + 1, Y, a10, c10, ⟨rfl, rfl, rfl, rfl, rfl, rfl, trivial⟩, (ok.n1.n1).k2, by omega, by rw [take_next hkN, List.filter_append, ← hT]; simp [C7], by omega, rfl⟩ (by omega)
    refine .skip <| .end <| hK1 _ _ <| .r <| .w 16 .mvI <| .w 17 (.addI (b := 1)) <| .w 6 .asI <| .nil ?_
    refine .end <| hJ0 _ _ _ ⟨i + 1, N2, cc, a7c, c7c, ⟨rfl, rfl, rfl, rfl, trivial⟩, (ok).k1, by omega, by rw [latO_succ, ← hO]; unfold stepO; rw [if_pos (by omega), ← hN2], by rw [latC_succ, ← hcc]; exact (if_pos (by omega)).symm, rfl⟩ (by omega)
  have hkO : k < O.length := by omega
  have hO1 : O[k] < l.length := by have := latO_lt l i O[k] (by rw [← hO]; exact List.getElem_mem hkO); omega
  refine .skip <| .seq <| .block fun K3 hK3 => .seq <| .seq <| .q (hm := mixed) <| .w 24 .mvB <| .w 25 .not <| .w 26 .mvB <| .spl (fun G26 => ?_) (fun G26 => ?_)
  ·
    refine .w 27 .mvS <| .w 28 .mvI <| ?_
    obtain ⟨bb4, oo4, rfl, fb4⟩ := ok.m1.pos (n := O.length) (by omega)
    refine .w 29 (.ix k T.el24 T.sz38) <| .w 30 (.fa T.fd38_0) <| .w 31 (.ld T.ag3 (sl_at hfv (ok.m1).sl (i := k) (j := 0) (by omega) rfl)) <| .w 32 .mvS <| .w 33 .mvI <| ?_
    obtain ⟨bb5, oo5, rfl, fb5⟩ := ok.r0.pos (n := l.length) (by omega)
    refine .w 34 (.ix i T.el24 T.sz38) <| .w 35 (.fa T.fd38_0) <| .w 36 (.ld T.ag3 (frs_at (ok.r0).sl (i := i) (j := 0) (by omega) rfl)) <| .w 37 .geq <| .w 38 .pkt <| .nil ?_
    refine .join (fun s hh => ∃ (N1 : List Nat) (p1 : Bool) (a7b : Option Addr) (c7b : Nat), Has s [(0, .slice (some ⟨bb5, oo5, none⟩) l.length c), (4, .slice (some ⟨bb4, oo4, none⟩) O.length c4), (5, .int .i64 cc), (6, .int .i64 (i : Int)), (7, .slice a7b N1.length c7b), (8, .bool p1), (9, .int .i64 (k : Int))] ∧ Hp h none_ [capI 3 38 (a7b, N1.length, c7b) (N1.flatMap (vfN l xa xc)), capI 3 38 (some ⟨bb4, oo4, none⟩, O.length, c4) (O.flatMap (vfN l xa xc))] [frsI (fun j => F j ∧ j < h.size) (fun j => E j ∧ j < h.size) (some ⟨bb5, oo5, none⟩, l.length, c) l xa xc] hh ∧ (N1, p1) = (if put = false ∧ (frN l i).page ≤ (frN l O[k]).page then (N ++ [i], true) else (N, put)) ∧ N1.length ≤ 2 * k + 1) ?_ ?_
    · --
      refine .cd (fun C2 => ?_) (fun C2 => ?_)
      · --
        refine .seq <| .r <| .w 39 .mvS <| .w 40 .mvS <| .w 41 .mvI <| .w 42 (.ix i T.el24 T.sz38) <| ?_
        have ok := ok.d0 (rdI (fun j => E j ∧ j < h.size) (fun j => E j ∧ j < h.size) ((xa i), (frN l i).b.length, (xc i)) ((frN l i).b)) ((ok.r0).b i (by omega)) (fun _ h => .inr (h.elim id id))
        refine .w 43 (.ldc (vs := vfN l xa xc i) T.ag38 (frs_ats (ok.r1).sl (i := i) (by omega)) T.sz38) <| .a' 44 (.lit [.tmp 43] (cs := [.int .i64 ((frN l i).page), .int .i64 ((frN l i).commit), .slice (xa i) ((frN l i).b.length) (xc i)]) T.el24 T.sz38 T.zr38 ok ⟨rfl, trivial⟩) ?_
        rintro _ η9 ⟨pb3, rfl, ok, xe⟩
        refine .a' 45 (.app (news := [.int .i64 ((frN l i).page), .int .i64 ((frN l i).commit), .slice (xa i) ((frN l i).b.length) (xc i)]) T.el24 T.sz38 T.by38 T.zr38 ok.n1 (ok.n1.m1).sl (oneL rfl) (by rw [flat_len hfv]; simp only [List.length_cons, List.length_nil]; omega)) ?_
        rintro _ η10 ⟨ya3, yn3, yc3, rfl, ok, ap⟩
        have ok := ok.cx (snocF (f := (vfN l xa xc)) (l := N) (x := i))
        obtain rfl : yn3 = (N ++ [i]).length := (Sl.sz (Cap.sl ok.m0) hfv (by decide)).1.symm
        refine .w 7 .asS <| .nil ?_
        refine .r <| .w 8 .asB <| .nil ?_
        refine .end <| ⟨(N ++ [i]), true, ya3, yc3, ⟨rfl, rfl, rfl, rfl, rfl, rfl, rfl, trivial⟩, (ok.n2.n1).k2.tR, (if_pos ⟨by simpa using G26, C2⟩).symm, by first | omega | (simp only [List.length_append, List.length_singleton]; omega)⟩
      refine .skip <| .end <| ⟨(N), put, a7, c7, ⟨rfl, rfl, rfl, rfl, rfl, rfl, rfl, trivial⟩, (ok.n1.n1).k2, (if_neg (fun h => by first | (exact C2 h.2) | (rw [h.1] at G26; cases G26))).symm, by omega⟩
    rintro s η11 ⟨N1, p1, a7b, c7b, hs, ok, hN1, hN1l⟩
    refine .frame hs fun τ => ?_
    refine .seq <| ?_
    have hst : stepI l i (N, put) O[k] = if (frN l O[k]).page ≠ (frN l i).page then (N1 ++ [O[k]], p1) else (N1, p1) := by simp only [stepI]; rw [← hN1]
    refine .q (hm := mixed) <| .w 46 .mvS <| .w 47 .mvI <| .w 48 (.ix k T.el24 T.sz38) <| .w 49 (.fa T.fd38_0) <| .w 50 (.ld T.ag3 (sl_at hfv (ok.m1).sl (i := k) (j := 0) (by omega) rfl)) <| .w 51 .mvS <| .w 52 .mvI <| .w 53 (.ix i T.el24 T.sz38) <| .w 54 (.fa T.fd38_0) <| .w 55 (.ld T.ag3 (frs_at (ok.r0).sl (i := i) (j := 0) (by omega) rfl)) <| .w 56 .neq <| .nil ?_
    refine .cd (fun C3 => ?_) (fun C3 => ?_)
    · --
      refine .r <| .w 57 .mvS <| .w 58 .mvS <| .w 59 .mvI <| .w 60 (.ix k T.el24 T.sz38) <| .w 61 (.ldc (vs := (vfN l xa xc) O[k]) T.ag38 (sl_ats hfv (ok.m1).sl (i := k) (by omega)) T.sz38) <| .a' 62 (.lit [.tmp 61] (cs := [.int .i64 ((frN l O[k]).page), .int .i64 ((frN l O[k]).commit), .slice (xa O[k]) ((frN l O[k]).b.length) (xc O[k])]) T.el24 T.sz38 T.zr38 ok ⟨rfl, trivial⟩) ?_
      rintro _ η12 ⟨pb4, rfl, ok, xe⟩
      refine .a' 63 (.app (news := [.int .i64 ((frN l O[k]).page), .int .i64 ((frN l O[k]).commit), .slice (xa O[k]) ((frN l O[k]).b.length) (xc O[k])]) T.el24 T.sz38 T.by38 T.zr38 ok.n1 (ok.n1.m1).sl (oneL rfl) (by rw [flat_len hfv]; simp only [List.length_cons, List.length_nil]; omega)) ?_
      rintro _ η13 ⟨ya4, yn4, yc4, rfl, ok, ap⟩
      have ok := ok.cx (snocF (f := (vfN l xa xc)) (l := N1) (x := O[k]))
      obtain rfl : yn4 = (N1 ++ [O[k]]).length := (Sl.sz (Cap.sl ok.m0) hfv (by decide)).1.symm
      refine .w 7 .asS <| .nil ?_
      refine .end <| hK3 _ _ <| .r <| .w 22 .mvI <| .w 23 (.addI (b := 1)) <| .w 9 .asI <| .nil ?_
      refine .end <| hJ1 _ _ _ ⟨k + 1, N1 ++ [O[k]], p1, ya4, yc4, ⟨rfl, rfl, rfl, rfl, rfl, rfl, rfl, trivial⟩, (ok.n2.n1).k2, by omega, by rw [take_next hkO, List.foldl_append, ← hfo]; exact (hst.trans (if_pos C3)).symm, by first | omega | (simp only [List.length_append, List.length_singleton]; omega), rfl⟩ (by omega)
    refine .skip <| .end <| hK3 _ _ <| .r <| .w 22 .mvI <| .w 23 (.addI (b := 1)) <| .w 9 .asI <| .nil ?_
    refine .end <| hJ1 _ _ _ ⟨k + 1, N1, p1, a7b, c7b, ⟨rfl, rfl, rfl, rfl, rfl, rfl, rfl, trivial⟩, (ok.n1.n1).k2, by omega, by rw [take_next hkO, List.foldl_append, ← hfo]; exact (hst.trans (if_neg C3)).symm, by first | omega | (simp only [List.length_append, List.length_singleton]; omega), rfl⟩ (by omega)
  refine .x 27 <| .x 28 <| .x 29 <| .x 30 <| .x 31 <| .x 32 <| .x 33 <| .x 34 <| .x 35 <| .x 36 <| .x 37 <| .w 38 .pkf <| .nil ?_
  refine .join (fun s hh => ∃ (N1 : List Nat) (p1 : Bool) (a7b : Option Addr) (c7b : Nat), Has s [(0, .slice a l.length c), (4, .slice a4 O.length c4), (5, .int .i64 cc), (6, .int .i64 (i : Int)), (7, .slice a7b N1.length c7b), (8, .bool p1), (9, .int .i64 (k : Int))] ∧ Hp h none_ [capI 3 38 (a7b, N1.length, c7b) (N1.flatMap (vfN l xa xc)), capI 3 38 (a4, O.length, c4) (O.flatMap (vfN l xa xc))] [frsI (fun j => F j ∧ j < h.size) (fun j => E j ∧ j < h.size) (a, l.length, c) l xa xc] hh ∧ (N1, p1) = (if put = false ∧ (frN l i).page ≤ (frN l O[k]).page then (N ++ [i], true) else (N, put)) ∧ N1.length ≤ 2 * k + 1) ?_ ?_
  · --
    refine .cf <| .skip <| .end <| ⟨(N), put, a7, c7, ⟨rfl, rfl, rfl, rfl, rfl, rfl, rfl, trivial⟩, (ok.n1.n1).k2, (if_neg (fun h => by first | (exact C2 h.2) | (rw [h.1] at G26; cases G26))).symm, by omega⟩
  rintro s η14 ⟨N1, p1, a7b, c7b, hs, ok, hN1, hN1l⟩
  refine .frame hs fun τ => ?_
  refine .seq <| ?_
  have hst : stepI l i (N, put) O[k] = if (frN l O[k]).page ≠ (frN l i).page then (N1 ++ [O[k]], p1) else (N1, p1) := by simp only [stepI]; rw [← hN1]
  refine .q (hm := mixed) <| .w 46 .mvS <| .w 47 .mvI <| ?_
  obtain ⟨bb6, oo6, rfl, fb6⟩ := ok.m1.pos (n := O.length) (by omega)
  refine .w 48 (.ix k T.el24 T.sz38) <| .w 49 (.fa T.fd38_0) <| .w 50 (.ld T.ag3 (sl_at hfv (ok.m1).sl (i := k) (j := 0) (by omega) rfl)) <| .w 51 .mvS <| .w 52 .mvI <| ?_
  obtain ⟨bb7, oo7, rfl, fb7⟩ := ok.r0.pos (n := l.length) (by omega)
  refine .w 53 (.ix i T.el24 T.sz38) <| .w 54 (.fa T.fd38_0) <| .w 55 (.ld T.ag3 (frs_at (ok.r0).sl (i := i) (j := 0) (by omega) rfl)) <| .w 56 .neq <| .nil ?_
  refine .cd (fun C3 => ?_) (fun C3 => ?_)
  · --
    refine .r <| .w 57 .mvS <| .w 58 .mvS <| .w 59 .mvI <| .w 60 (.ix k T.el24 T.sz38) <| .w 61 (.ldc (vs := (vfN l xa xc) O[k]) T.ag38 (sl_ats hfv (ok.m1).sl (i := k) (by omega)) T.sz38) <| .a' 62 (.lit [.tmp 61] (cs := [.int .i64 ((frN l O[k]).page), .int .i64 ((frN l O[k]).commit), .slice (xa O[k]) ((frN l O[k]).b.length) (xc O[k])]) T.el24 T.sz38 T.zr38 ok ⟨rfl, trivial⟩) ?_
    rintro _ η15 ⟨pb5, rfl, ok, xe⟩
    refine .a' 63 (.app (news := [.int .i64 ((frN l O[k]).page), .int .i64 ((frN l O[k]).commit), .slice (xa O[k]) ((frN l O[k]).b.length) (xc O[k])]) T.el24 T.sz38 T.by38 T.zr38 ok.n1 (ok.n1.m1).sl (oneL rfl) (by rw [flat_len hfv]; simp only [List.length_cons, List.length_nil]; omega)) ?_
    rintro _ η16 ⟨ya5, yn5, yc5, rfl, ok, ap⟩
    have ok := ok.cx (snocF (f := (vfN l xa xc)) (l := N1) (x := O[k]))
    obtain rfl : yn5 = (N1 ++ [O[k]]).length := (Sl.sz (Cap.sl ok.m0) hfv (by decide)).1.symm
    refine .w 7 .asS <| .nil ?_
    refine .end <| hK3 _ _ <| .r <| .w 22 .mvI <| .w 23 (.addI (b := 1)) <| .w 9 .asI <| .nil ?_
    refine .end <| hJ1 _ _ _ ⟨k + 1, N1 ++ [O[k]], p1, ya5, yc5, ⟨rfl, rfl, rfl, rfl, rfl, rfl, rfl, trivial⟩, (ok.n2.n1).k2, by omega, by rw [take_next hkO, List.foldl_append, ← hfo]; exact (hst.trans (if_pos C3)).symm, by first | omega | (simp only [List.length_append, List.length_singleton]; omega), rfl⟩ (by omega)
  refine .skip <| .end <| hK3 _ _ <| .r <| .w 22 .mvI <| .w 23 (.addI (b := 1)) <| .w 9 .asI <| .nil ?_
  refine .end <| hJ1 _ _ _ ⟨k + 1, N1, p1, a7b, c7b, ⟨rfl, rfl, rfl, rfl, rfl, rfl, rfl, trivial⟩, (ok.n1.n1).k2, by omega, by rw [take_next hkO, List.foldl_append, ← hfo]; exact (hst.trans (if_neg C3)).symm, by first | omega | (simp only [List.length_append, List.length_singleton]; omega), rfl⟩ (by omega)

end Go.Proofs.Ytpebbkhainpfaaa
