/- tomeref10.SameFrames and front answer as their plain lists say. Conditions: the slices are readable. -/
import Derived.Test.YtdbiggfnnhmpiaaCaRef
namespace Go.Proofs.Ytdbiggfnnhmpiaa
open Go Go.HL

/-- A frame as its cells read, and what it is. -/
structure Fr where
  page : Int
  commit : Int
  b : SV
@[reducible] def fr (f : Fr) : List Value := [.int .i64 f.page, .int .i64 f.commit, sv f.b]
theorem fr_len (f : Fr) : (fr f).length = 3 := rfl
theorem fr_one (f : Fr) : ∀ u ∈ fr f, u.oneCell' = true := by
  intro u hu; simp [fr] at hu; rcases hu with rfl | rfl | rfl <;> rfl
structure AFr where
  page : Int
  commit : Int
  b : List UInt8
  deriving DecidableEq
structure FrIs (h : Heap) (f : Fr) (x : AFr) : Prop where
  page : f.page = x.page
  commit : f.commit = x.commit
  b : Bytes h (sv f.b) x.b
theorem FrIs.ext {h h' : Heap} (e : Ext h h') {f : Fr} {x : AFr} (r : FrIs h f x) : FrIs h' f x := ⟨r.page, r.commit, r.b.ext e⟩
def Frames (h : Heap) (v : Value) (L : List AFr) : Prop := ∃ l : List Fr, Sl h 3 v (l.flatMap fr) ∧ All2 (FrIs h) l L
theorem Frames.ext {h h' : Heap} (e : Ext h h') {v : Value} {L : List AFr} (r : Frames h v L) : Frames h' v L :=
  let ⟨l, h1, h2⟩ := r; ⟨l, h1.ext e, h2.mono fun _ _ q => q.ext e⟩
theorem Frames.nil (h : Heap) : Frames h (.slice none 0 0) [] := ⟨[], Sl.nil h 3, All2.nil⟩
theorem AFr.ext' {x y : AFr} (h1 : x.page = y.page) (h2 : x.commit = y.commit) (h3 : x.b = y.b) : x = y := by
  cases x; cases y; simp at h1 h2 h3; simp [h1, h2, h3]
theorem b2_ne {b : Bool} (h : (!b) = true) : b = false := by simpa using h

set_option maxRecDepth 100000 in
theorem sameFrames_any {h : Heap} {va vb : Value} {La Lb : List AFr} (ha : Frames h va La) (hb : Frames h vb Lb) :
    HC Try.prog 18 #[va, vb] h (fun v h' => v = .bool (decide (La = Lb)) ∧ h' = h) := by
  obtain ⟨la, hsa, hall⟩ := ha
  obtain ⟨lb, hsb, hall'⟩ := hb
  obtain ⟨a, n, c, rfl, _, hc1, hra⟩ := hsa
  obtain ⟨a', n', c', rfl, _, hc2, hrb⟩ := hsb
  have hla : la.length = n := by have := hra.1; rw [flat_len fr_len] at this; omega
  have hlb : lb.length = n' := by have := hrb.1; rw [flat_len fr_len] at this; omega
  have hLa := hall.1
  have hLb := hall'.1
  refine HC.body Try.func18 rfl (by kernel_rfl) 55 rfl rfl ?_
  refine HW.seq fun K1 hK1 => ?_
  refine HW.region ?_   -- region 0 ref.go:145
  refine HO.v (V.asB rfl) rfl 4 rfl rfl ?_
  refine HO.nil ?_
  refine hK1 _ _ ?_
  refine HW.seq fun K2 hK2 => ?_
  refine HW.seq fun K3 hK3 => ?_
  refine HW.region ?_   -- region 1 ref.go:146
  refine HO.v (V.mvS rfl) rfl 6 rfl rfl ?_
  refine HO.v (V.len rfl T.el36) rfl 7 rfl rfl ?_
  refine HO.v (V.mvS rfl) rfl 8 rfl rfl ?_
  refine HO.v (V.len rfl T.el36) rfl 9 rfl rfl ?_
  refine HO.v (V.neq rfl rfl rfl) rfl 10 rfl rfl ?_
  refine HO.nil ?_
  refine hK3 _ _ ?_
  refine HW.cond rfl (fun hc => ?_) (fun hc => ?_)
  · -- then
    refine HW.seq fun K4 hK4 => ?_
    refine HW.region ?_   -- region 2 ref.go:147
    refine HO.v (V.asB rfl) rfl 4 rfl rfl ?_
    refine HO.nil ?_
    refine hK4 _ _ ?_
    refine HW.ret ?_
    refine ⟨.bool false, Res.one rfl rfl, (by have hne := of_decide_eq_true hc; have : La ≠ Lb := fun e => hne (by rw [← hla, ← hlb, hLa, hLb, e]); simp [this]), rfl⟩
  refine HW.skip ?_
  refine hK2 _ _ ?_
  refine HW.seq fun K5 hK5 => ?_
  refine HW.seq fun K6 hK6 => ?_
  have hnn := of_decide_eq_false hc
  have hnn' : n = n' := by omega
  subst hnn'
  refine HW.region ?_   -- region 3 ref.go:149
  refine HO.v (V.asI rfl) rfl 5 rfl rfl ?_
  refine HO.nil ?_
  refine hK6 _ _ ?_
  refine HW.block ?_   -- block 0
  refine HW.loopm (fun m s hh => ∃ k : Nat, Has s [(0, .slice a n c), (1, .slice a' n c'), (5, .int .i64 k)] ∧ hh = h ∧ k ≤ n ∧ m = n - k ∧ La.take k = Lb.take k) ?_ ?_
  · exact ⟨_, 0, ⟨rfl, rfl, rfl, trivial⟩, rfl, Nat.zero_le _, rfl, rfl⟩
  rintro m s hh ⟨k, hs, rfl, hk, rfl, hp⟩ J7 hJ7
  refine HW.frame hs fun τ => ?_
  refine HW.seq fun K8 hK8 => ?_
  refine HW.seq fun K9 hK9 => ?_
  refine HW.region ?_   -- region 4 ref.go:149
  refine HO.v (V.mvI rfl) rfl 11 rfl rfl ?_
  refine HO.v (V.mvS rfl) rfl 12 rfl rfl ?_
  refine HO.v (V.len rfl T.el36) rfl 13 rfl rfl ?_
  refine HO.v (V.lss rfl rfl rfl) rfl 14 rfl rfl ?_
  refine HO.nil ?_
  refine hK9 _ _ ?_
  refine HW.condr rfl (fun hc => ?_) (fun hc => ?_)
  · -- else
    refine HW.exit ?_
    have hkn := of_decide_eq_false hc
    refine hK5 _ _ ?_
    refine HW.seq fun K10 hK10 => ?_
    refine HW.region ?_   -- region 8 ref.go:154
    refine HO.v (V.asB rfl) rfl 4 rfl rfl ?_
    refine HO.nil ?_
    refine hK10 _ _ ?_
    refine HW.ret ?_
    refine ⟨.bool true, Res.one rfl rfl, (by have h1 : k = n := (by omega); rw [h1, List.take_of_length_le (by omega), List.take_of_length_le (by omega)] at hp; simp [hp]), rfl⟩
  refine HW.skip ?_
  refine hK8 _ _ ?_
  refine HW.seq fun K11 hK11 => ?_
  refine HW.block ?_   -- block 1
  refine HW.seq fun K12 hK12 => ?_
  have hkn := of_decide_eq_true hc
  obtain ⟨b, o, rfl, hcell⟩ := hra.pos (by omega)
  obtain ⟨b', o', rfl, hcell'⟩ := hrb.pos (by omega)
  refine HW.quiet mixed (by kernel_rfl) ?_   -- region 6 ref.go:150
  refine HQ.v (V.mvS rfl) rfl 17 rfl rfl ?_
  refine HQ.v (V.mvI rfl) rfl 18 rfl rfl ?_
  refine HQ.v (V.indexAddr rfl rfl T.el36 T.sz39 (by omega)) rfl 19 rfl rfl ?_
  refine HQ.v (V.fieldAddr rfl T.fd39_0) rfl 20 rfl rfl ?_
  refine HQ.v (V.load rfl (load_one T.ag3 (v := .int .i64 la[k].page) (cell_at fr_len hcell (by omega) rfl))) rfl 21 rfl rfl ?_
  refine HQ.v (V.mvS rfl) rfl 22 rfl rfl ?_
  refine HQ.v (V.mvI rfl) rfl 23 rfl rfl ?_
  refine HQ.v (V.indexAddr rfl rfl T.el36 T.sz39 (by omega)) rfl 24 rfl rfl ?_
  refine HQ.v (V.fieldAddr rfl T.fd39_0) rfl 25 rfl rfl ?_
  refine HQ.v (V.load rfl (load_one T.ag3 (v := .int .i64 lb[k].page) (cell_at fr_len hcell' (by omega) rfl))) rfl 26 rfl rfl ?_
  refine HQ.v (V.neq rfl rfl rfl) rfl 27 rfl rfl ?_
  refine HQ.v (V.mvB rfl) rfl 28 rfl rfl ?_
  refine HQ.spl (fun hb11 => ?_) (fun hb11 => ?_)
  · -- true
    refine HQ.no rfl 29 rfl rfl ?_
    refine HQ.no rfl 30 rfl rfl ?_
    refine HQ.no rfl 31 rfl rfl ?_
    refine HQ.no rfl 32 rfl rfl ?_
    refine HQ.no rfl 33 rfl rfl ?_
    refine HQ.no rfl 34 rfl rfl ?_
    refine HQ.no rfl 35 rfl rfl ?_
    refine HQ.no rfl 36 rfl rfl ?_
    refine HQ.no rfl 37 rfl rfl ?_
    refine HQ.no rfl 38 rfl rfl ?_
    refine HQ.no rfl 39 rfl rfl ?_
    refine HQ.v (V.pick_t rfl rfl) rfl 40 rfl rfl ?_
    refine HQ.v (V.mvB rfl) rfl 41 rfl rfl ?_
    refine HQ.no rfl 42 rfl rfl ?_
    refine HQ.no rfl 43 rfl rfl ?_
    refine HQ.no rfl 44 rfl rfl ?_
    refine HQ.no rfl 45 rfl rfl ?_
    refine HQ.no rfl 46 rfl rfl ?_
    refine HQ.no rfl 47 rfl rfl ?_
    refine HQ.no rfl 48 rfl rfl ?_
    refine HQ.no rfl 49 rfl rfl ?_
    refine HQ.no rfl 50 rfl rfl ?_
    refine HQ.no rfl 51 rfl rfl ?_
    refine HQ.no rfl 52 rfl rfl ?_
    refine HQ.no rfl 53 rfl rfl ?_
    refine HQ.v (V.pick_t rfl rfl) rfl 54 rfl rfl ?_
    refine HQ.nil ?_
    refine hK12 _ _ ?_
    refine HW.cond_t rfl ?_
    refine HW.seq fun K13 hK13 => ?_
    refine HW.region ?_   -- region 7 ref.go:151
    refine HO.v (V.asB rfl) rfl 4 rfl rfl ?_
    refine HO.nil ?_
    refine hK13 _ _ ?_
    refine HW.ret ?_
    refine ⟨.bool false, Res.one rfl rfl, (by have hne : la[k].page ≠ lb[k].page := of_decide_eq_true hb11; rw [(hall.2 k (by omega) (by omega)).page, (hall'.2 k (by omega) (by omega)).page] at hne; have : La ≠ Lb := (by rintro rfl; exact hne rfl); simp [this]), rfl⟩
  · -- false
    refine HQ.v (V.mvS rfl) rfl 29 rfl rfl ?_
    refine HQ.v (V.mvI rfl) rfl 30 rfl rfl ?_
    refine HQ.v (V.indexAddr rfl rfl T.el36 T.sz39 (by omega)) rfl 31 rfl rfl ?_
    refine HQ.v (V.fieldAddr rfl T.fd39_1) rfl 32 rfl rfl ?_
    refine HQ.v (V.load rfl (load_one T.ag3 (v := .int .i64 la[k].commit) (cell_at fr_len hcell (by omega) rfl))) rfl 33 rfl rfl ?_
    refine HQ.v (V.mvS rfl) rfl 34 rfl rfl ?_
    refine HQ.v (V.mvI rfl) rfl 35 rfl rfl ?_
    refine HQ.v (V.indexAddr rfl rfl T.el36 T.sz39 (by omega)) rfl 36 rfl rfl ?_
    refine HQ.v (V.fieldAddr rfl T.fd39_1) rfl 37 rfl rfl ?_
    refine HQ.v (V.load rfl (load_one T.ag3 (v := .int .i64 lb[k].commit) (cell_at fr_len hcell' (by omega) rfl))) rfl 38 rfl rfl ?_
    refine HQ.v (V.neq rfl rfl rfl) rfl 39 rfl rfl ?_
    refine HQ.v (V.pick_f rfl rfl) rfl 40 rfl rfl ?_
    refine HQ.v (V.mvB rfl) rfl 41 rfl rfl ?_
    refine HQ.spl (fun hb24 => ?_) (fun hb24 => ?_)
    · -- true
      refine HQ.no rfl 42 rfl rfl ?_
      refine HQ.no rfl 43 rfl rfl ?_
      refine HQ.no rfl 44 rfl rfl ?_
      refine HQ.no rfl 45 rfl rfl ?_
      refine HQ.no rfl 46 rfl rfl ?_
      refine HQ.no rfl 47 rfl rfl ?_
      refine HQ.no rfl 48 rfl rfl ?_
      refine HQ.no rfl 49 rfl rfl ?_
      refine HQ.no rfl 50 rfl rfl ?_
      refine HQ.no rfl 51 rfl rfl ?_
      refine HQ.no rfl 52 rfl rfl ?_
      refine HQ.no rfl 53 rfl rfl ?_
      refine HQ.v (V.pick_t rfl rfl) rfl 54 rfl rfl ?_
      refine HQ.nil ?_
      refine hK12 _ _ ?_
      refine HW.cond_t rfl ?_
      refine HW.seq fun K14 hK14 => ?_
      refine HW.region ?_   -- region 7 ref.go:151
      refine HO.v (V.asB rfl) rfl 4 rfl rfl ?_
      refine HO.nil ?_
      refine hK14 _ _ ?_
      refine HW.ret ?_
      refine ⟨.bool false, Res.one rfl rfl, (by have hne : la[k].commit ≠ lb[k].commit := of_decide_eq_true hb24; rw [(hall.2 k (by omega) (by omega)).commit, (hall'.2 k (by omega) (by omega)).commit] at hne; have : La ≠ Lb := (by rintro rfl; exact hne rfl); simp [this]), rfl⟩
    · -- false
      refine HQ.v (V.mvS rfl) rfl 42 rfl rfl ?_
      refine HQ.v (V.mvI rfl) rfl 43 rfl rfl ?_
      refine HQ.v (V.indexAddr rfl rfl T.el36 T.sz39 (by omega)) rfl 44 rfl rfl ?_
      refine HQ.v (V.fieldAddr rfl T.fd39_2) rfl 45 rfl rfl ?_
      refine HQ.v (V.load rfl (load_one T.ag30 (v := sv la[k].b) (cell_at fr_len hcell (by omega) rfl))) rfl 46 rfl rfl ?_
      refine HQ.v (V.mvS rfl) rfl 47 rfl rfl ?_
      refine HQ.v (V.mvI rfl) rfl 48 rfl rfl ?_
      refine HQ.v (V.indexAddr rfl rfl T.el36 T.sz39 (by omega)) rfl 49 rfl rfl ?_
      refine HQ.v (V.fieldAddr rfl T.fd39_2) rfl 50 rfl rfl ?_
      refine HQ.v (V.load rfl (load_one T.ag30 (v := sv lb[k].b) (cell_at fr_len hcell' (by omega) rfl))) rfl 51 rfl rfl ?_
      have hcall := same_any (hall.2 k (by omega) (by omega)).b (hall'.2 k (by omega) (by omega)).b
      refine HQ.c OpC.func rfl 52 rfl rfl hcall ?_
      refine HQ.v (V.not rfl) rfl 53 rfl rfl ?_
      refine HQ.v (V.pick_f rfl rfl) rfl 54 rfl rfl ?_
      refine HQ.nil ?_
      refine hK12 _ _ ?_
      refine HW.cond rfl (fun hc => ?_) (fun hc => ?_)
      · -- then
        refine HW.seq fun K15 hK15 => ?_
        refine HW.region ?_   -- region 7 ref.go:151
        refine HO.v (V.asB rfl) rfl 4 rfl rfl ?_
        refine HO.nil ?_
        refine hK15 _ _ ?_
        refine HW.ret ?_
        refine ⟨.bool false, Res.one rfl rfl, (by have hne := of_decide_eq_false (b2_ne hc); have : La ≠ Lb := (by rintro rfl; exact hne rfl); simp [this]), rfl⟩
      refine HW.skip ?_
      refine hK11 _ _ ?_
      refine HW.region ?_   -- region 5 ref.go:149
      refine HO.v (V.mvI rfl) rfl 15 rfl rfl ?_
      refine HO.v (V.add rfl rfl (by omega)) rfl 16 rfl rfl ?_
      refine HO.v (V.asI rfl) rfl 5 rfl rfl ?_
      refine HO.nil ?_
      refine hJ7 _ _ _ ⟨k + 1, ⟨rfl, rfl, rfl, trivial⟩, rfl, by omega, rfl, (by have h1 : la[k].page = lb[k].page := (by have := of_decide_eq_false hb11; omega); have h2 : la[k].commit = lb[k].commit := (by have := of_decide_eq_false hb24; omega); rw [(hall.2 k (by omega) (by omega)).page, (hall'.2 k (by omega) (by omega)).page] at h1; rw [(hall.2 k (by omega) (by omega)).commit, (hall'.2 k (by omega) (by omega)).commit] at h2; have h3 : La[k].b = Lb[k].b := (by simpa using hc); rw [take_next (by omega), take_next (by omega), hp, AFr.ext' h1 h2 h3])⟩ (by omega)

set_option maxRecDepth 100000 in
theorem front_any {h : Heap} {a : Option Addr} {n c : Nat} {l : List Pg} {p : Pg} (hl : Sl h 3 (.slice a n c) (l.flatMap pg)) (hN : l.length ≤ 1000000000) :
    HC Try.prog 34 #[.slice a n c, .agg #[.int .i64 p.no, sv p.b, .bool p.d]] h (fun v h' => Own h h' 3 78 v ((p :: keep p.no l).flatMap pg)) := by
  have hra := hl.cells
  have hcm := hl.bd
  have hla : l.length = n := by have := hra.1; rw [flat_len pg_len] at this; omega
  let h1 := h.push (.cells #[.int .i64 p.no, sv p.b, .bool p.d] 78 (0, 0))
  have hx1 : Ext h h1 := Ext.push _ _
  let h2 := h1.push (.cells #[.int .i64 p.no, sv p.b, .bool p.d] 78 (0, 0))
  have hb1 : h2[h.size]? = some (.cells #[.int .i64 p.no, sv p.b, .bool p.d] 78 (0, 0)) := push_other (push_same _ _)
  have hown : Own h h2 3 78 (.slice (some ⟨h1.size, 0, none⟩) 1 1) (([p] : List Pg).flatMap pg) := Own.new hx1 rfl (by omega)
  have hlt : h.size < h2.size := by simp [h2, h1]; omega
  refine HC.body Try.func34 rfl (by kernel_rfl) 31 rfl rfl ?_
  refine HW.seq fun K1 hK1 => ?_
  refine HW.region ?_   -- region 0 ref.go:41
  refine HO.e (V.boxA rfl) rfl 3 rfl rfl ?_
  refine HO.v (V.asS rfl) rfl 4 rfl rfl ?_
  refine HO.nil ?_
  refine hK1 _ _ ?_
  refine HW.seq fun K2 hK2 => ?_
  refine HW.region ?_   -- region 1 ref.go:42
  refine HO.v (V.load rfl (load_agg [.int .i64 p.no, sv p.b, .bool p.d] T.ag78 T.sz78 (cells0 (push_same _ _)))) rfl 7 rfl rfl ?_
  refine HO.e (V.buildSlice [.tmp 7] (cs := #[.int .i64 p.no, sv p.b, .bool p.d]) T.el47 T.sz78 T.zr78 rfl rfl rfl ⟨rfl, trivial⟩ rfl) rfl 8 rfl rfl ?_
  refine HO.v (V.asS rfl) rfl 5 rfl rfl ?_
  refine HO.nil ?_
  refine hK2 _ _ ?_
  refine HW.seq fun K3 hK3 => ?_
  refine HW.seq fun K4 hK4 => ?_
  refine HW.region ?_   -- region 2 ref.go:43
  refine HO.v (V.asI rfl) rfl 6 rfl rfl ?_
  refine HO.nil ?_
  refine hK4 _ _ ?_
  refine HW.block ?_   -- block 0
  refine HW.loopm (fun m s hh => ∃ (k : Nat) (ov : SV), Has s [(0, .slice a n c), (3, .pointer (some ⟨h.size, 0, none⟩)), (5, sv ov), (6, .int .i64 k)] ∧ k ≤ n ∧ m = n - k ∧ Own h hh 3 78 (sv ov) ((p :: keep p.no (l.take k)).flatMap pg) ∧ hh[h.size]? = some (.cells #[.int .i64 p.no, sv p.b, .bool p.d] 78 (0, 0)) ∧ ¬ blkC (sv ov) h.size) ?_ ?_
  · exact ⟨_, 0, (some ⟨h1.size, 0, none⟩, 1, 1), ⟨rfl, rfl, rfl, rfl, trivial⟩, Nat.zero_le _, rfl, hown, hb1, by rintro ⟨o, n, c, hv⟩; injection hv with e; injection e with e; injection e with e; simp [h1] at e⟩
  rintro m s hh ⟨k, ov, hs, hk, rfl, ho, hb, hnb⟩ J5 hJ5
  refine HW.frame hs fun τ => ?_
  refine HW.seq fun K6 hK6 => ?_
  refine HW.seq fun K7 hK7 => ?_
  refine HW.region ?_   -- region 3 ref.go:43
  refine HO.v (V.mvI rfl) rfl 9 rfl rfl ?_
  refine HO.v (V.mvS rfl) rfl 10 rfl rfl ?_
  refine HO.v (V.len rfl T.el47) rfl 11 rfl rfl ?_
  refine HO.v (V.lss rfl rfl rfl) rfl 12 rfl rfl ?_
  refine HO.nil ?_
  refine hK7 _ _ ?_
  refine HW.condr rfl (fun hc => ?_) (fun hc => ?_)
  · -- else
    refine HW.exit ?_
    have hkn := of_decide_eq_false hc
    refine hK3 _ _ ?_
    refine HW.seq fun K8 hK8 => ?_
    refine HW.region ?_   -- region 7 ref.go:48
    refine HO.v (V.mvS rfl) rfl 30 rfl rfl ?_
    refine HO.v (V.asS rfl) rfl 4 rfl rfl ?_
    refine HO.nil ?_
    refine hK8 _ _ ?_
    refine HW.ret ?_
    refine ⟨sv ov, Res.one rfl rfl, (by have h1 : k = n := (by omega); rw [h1, List.take_of_length_le (by omega)] at ho; exact ho)⟩
  refine HW.skip ?_
  have hkn := of_decide_eq_true hc
  have hrh := hra.ext ho.ext
  obtain ⟨b, o, rfl, hcell⟩ := hrh.pos (by omega)
  refine hK6 _ _ ?_
  refine HW.seq fun K9 hK9 => ?_
  refine HW.block ?_   -- block 1
  refine HW.seq fun K10 hK10 => ?_
  refine HW.quiet mixed (by kernel_rfl) ?_   -- region 5 ref.go:44
  refine HQ.v (V.mvS rfl) rfl 15 rfl rfl ?_
  refine HQ.v (V.mvI rfl) rfl 16 rfl rfl ?_
  refine HQ.v (V.indexAddr rfl rfl T.el47 T.sz78 (by omega)) rfl 17 rfl rfl ?_
  refine HQ.v (V.fieldAddr rfl T.fd78_0) rfl 18 rfl rfl ?_
  refine HQ.v (V.load rfl (load_one T.ag3 (v := .int .i64 l[k].no) (cell_at pg_len hcell (by omega) rfl))) rfl 19 rfl rfl ?_
  refine HQ.v (V.fieldAddr rfl T.fd78_0) rfl 20 rfl rfl ?_
  refine HQ.v (V.load rfl (load_one T.ag3 (v := .int .i64 p.no) (cell_of hb 0))) rfl 21 rfl rfl ?_
  refine HQ.v (V.neq rfl rfl rfl) rfl 22 rfl rfl ?_
  refine HQ.nil ?_
  refine hK10 _ _ ?_
  refine HW.condr rfl (fun hc => ?_) (fun hc => ?_)
  · -- else
    refine HW.skip ?_
    refine hK9 _ _ ?_
    refine HW.region ?_   -- region 4 ref.go:43
    refine HO.v (V.mvI rfl) rfl 13 rfl rfl ?_
    refine HO.v (V.add rfl rfl (by omega)) rfl 14 rfl rfl ?_
    refine HO.v (V.asI rfl) rfl 6 rfl rfl ?_
    refine HO.nil ?_
    refine hJ5 _ _ _ ⟨k + 1, ov, ⟨rfl, rfl, rfl, rfl, trivial⟩, by omega, rfl, (by rw [keep_no (by omega) (by have := of_decide_eq_false hc; omega)]; exact ho), hb, hnb⟩ (by omega)
  refine HW.region ?_   -- region 6 ref.go:45
  refine HO.v (V.mvS rfl) rfl 23 rfl rfl ?_
  refine HO.v (V.mvS rfl) rfl 24 rfl rfl ?_
  refine HO.v (V.mvI rfl) rfl 25 rfl rfl ?_
  refine HO.v (V.indexAddr rfl rfl T.el47 T.sz78 (by omega)) rfl 26 rfl rfl ?_
  refine HO.v (V.load rfl (load_agg [.int .i64 l[k].no, sv l[k].b, .bool l[k].d] T.ag78 T.sz78 (fun j v hj => cell_at pg_len hcell (by omega) hj))) rfl 27 rfl rfl ?_
  have hop := ho.push (Ext.push hh (.cells #[.int .i64 l[k].no, sv l[k].b, .bool l[k].d] 78 (0, 0)))
  refine HO.e (V.buildSlice [.tmp 27] (cs := #[.int .i64 l[k].no, sv l[k].b, .bool l[k].d]) T.el47 T.sz78 T.zr78 rfl rfl rfl ⟨rfl, trivial⟩ rfl) rfl 28 rfl rfl ?_
  refine HO.a (V.append rfl rfl T.el47 T.sz78 T.by78 T.zr78 rfl (hop.cap) (sl_new (n := 1) rfl (by omega)) (pg_one l[k]) (by rw [flat_len pg_len]; have := keep_len p.no (l.take k); simp at this ⊢; omega)) rfl 29 rfl rfl ?_
  rintro _ _ hap
  obtain ⟨ov', rfl⟩ := hap.cap.form
  refine HO.v (V.asS rfl) rfl 5 rfl rfl ?_
  refine HO.nil ?_
  refine hK9 _ _ ?_
  refine HW.region ?_   -- region 4 ref.go:43
  refine HO.v (V.mvI rfl) rfl 13 rfl rfl ?_
  refine HO.v (V.add rfl rfl (by omega)) rfl 14 rfl rfl ?_
  refine HO.v (V.asI rfl) rfl 6 rfl rfl ?_
  refine HO.nil ?_
  refine hJ5 _ _ _ ⟨k + 1, ov', ⟨rfl, rfl, rfl, rfl, trivial⟩, by omega, rfl, ?_, ?_, ?_⟩ (by omega)
  · rw [keep_yes (by omega) (of_decide_eq_true hc)]
    have := hop.app hap
    simp only [List.flatMap_cons, List.flatMap_append, List.flatMap_nil, List.append_nil, List.append_assoc] at this ⊢
    exact this
  · exact hap.chg.block (push_other hb) hnb
  · intro hx
    rcases hap.place _ hx with hx | hx
    · exact hnb hx
    · have := hop.ext.size
      have := block_lt hb
      simp at hx; omega

end Go.Proofs.Ytdbiggfnnhmpiaa
