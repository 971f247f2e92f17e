/- tomeref10.SameInts, in and find answer as their plain lists say. Conditions: the slices are readable. -/
import Derived.Test.YtdbiggfnnhmpiaaWa
namespace Go.Proofs.Ytdbiggfnnhmpiaa
open Go Go.HL

/-- A page of the document's cache, as its cells read. -/
structure Pg where
  no : Int
  b : SV
  d : Bool
@[reducible] def pg (p : Pg) : List Value := [.int .i64 p.no, sv p.b, .bool p.d]
theorem pg_len (p : Pg) : (pg p).length = 3 := rfl
theorem pg_one (p : Pg) : ∀ u ∈ pg p, u.oneCell' = true := by
  intro u hu; simp [pg] at hu; rcases hu with rfl | rfl | rfl <;> rfl
theorem iv_one (x : Int) : ∀ u ∈ [iv x], u.oneCell' = true := by
  intro u hu; simp at hu; subst hu; rfl

/-- Where the first page of a number stands; -1: nowhere. -/
def fnd (no : Int) : List Pg → Int
  | [] => -1
  | p :: l => if p.no = no then 0 else (if fnd no l < 0 then -1 else fnd no l + 1)
theorem fnd_none {no : Int} : ∀ {l : List Pg}, (∀ p ∈ l, p.no ≠ no) → fnd no l = -1
  | [], _ => rfl
  | p :: l, h => by
    unfold fnd
    rw [if_neg (h p List.mem_cons_self), fnd_none (l := l) (fun q hq => h q (List.mem_cons_of_mem _ hq))]
    rfl
theorem fnd_some {no : Int} : ∀ {l : List Pg} {k : Nat} (hk : k < l.length), (∀ j (hj : j < k), (l[j]'(by omega)).no ≠ no) → l[k].no = no → fnd no l = k
  | p :: l, 0, _, _, h => by simp at h; simp [fnd, h]
  | p :: l, k + 1, hk, ha, h => by
    have h0 := ha 0 (by omega)
    simp at h0
    have := fnd_some (l := l) (k := k) (by simpa using hk) (fun j hj => by have := ha (j + 1) (by omega); simpa using this) (by simpa using h)
    unfold fnd
    rw [if_neg h0, this, if_neg (by omega)]
    omega
def keep (no : Int) (l : List Pg) : List Pg := l.filter fun p => decide (p.no ≠ no)
theorem keep_len (no : Int) (l : List Pg) : (keep no l).length ≤ l.length := List.length_filter_le _ _
theorem keep_yes {no : Int} {l : List Pg} {k : Nat} (hk : k < l.length) (h : l[k].no ≠ no) : keep no (l.take (k + 1)) = keep no (l.take k) ++ [l[k]] := by
  unfold keep
  rw [List.take_succ_eq_append_getElem hk, List.filter_append]; simp [h]
theorem keep_no {no : Int} {l : List Pg} {k : Nat} (hk : k < l.length) (h : l[k].no = no) : keep no (l.take (k + 1)) = keep no (l.take k) := by
  unfold keep
  rw [List.take_succ_eq_append_getElem hk, List.filter_append]; simp [h]

set_option maxRecDepth 100000 in
theorem sameInts_any {h : Heap} {va vb : Value} {la lb : List Int} (ha : Ints h va la) (hb : Ints h vb lb) :
    HC Try.prog 13 #[va, vb] h (fun v h' => v = .bool (decide (la = lb)) ∧ h' = h) := by
  obtain ⟨a, n, c, rfl, _, hc1, hra⟩ := ha
  obtain ⟨a', n', c', rfl, _, hc2, hrb⟩ := hb
  have hla : la.length = n := by simpa using hra.len
  have hlb : lb.length = n' := by simpa using hrb.len
  refine HC.body Try.func13 rfl (by kernel_rfl) 26 rfl rfl ?_
  refine HW.seq fun K1 hK1 => ?_
  refine HW.region ?_   -- region 0 ref.go:158
  refine HO.v (V.asB rfl) rfl 4 rfl rfl ?_
  refine HO.nil ?_
  refine hK1 _ _ ?_
  refine HW.seq fun K2 hK2 => ?_
  refine HW.seq fun K3 hK3 => ?_
  refine HW.region ?_   -- region 1 ref.go:159
  refine HO.v (V.mvS rfl) rfl 6 rfl rfl ?_
  refine HO.v (V.len rfl T.el31) rfl 7 rfl rfl ?_
  refine HO.v (V.mvS rfl) rfl 8 rfl rfl ?_
  refine HO.v (V.len rfl T.el31) rfl 9 rfl rfl ?_
  refine HO.v (V.neq rfl rfl rfl) rfl 10 rfl rfl ?_
  refine HO.nil ?_
  refine hK3 _ _ ?_
  refine HW.cond rfl (fun hc => ?_) (fun hc => ?_)
  · -- then
    refine HW.seq fun K4 hK4 => ?_
    refine HW.region ?_   -- region 2 ref.go:160
    refine HO.v (V.asB rfl) rfl 4 rfl rfl ?_
    refine HO.nil ?_
    refine hK4 _ _ ?_
    refine HW.ret ?_
    refine ⟨.bool false, Res.one rfl rfl, (by have hne := of_decide_eq_true hc; have : la ≠ lb := fun e => hne (by rw [← hla, ← hlb, e]); simp [this]), rfl⟩
  refine HW.skip ?_
  refine hK2 _ _ ?_
  refine HW.seq fun K5 hK5 => ?_
  refine HW.seq fun K6 hK6 => ?_
  have hnn := of_decide_eq_false hc
  have hnn' : n = n' := by omega
  subst hnn'
  refine HW.region ?_   -- region 3 ref.go:162
  refine HO.v (V.asI rfl) rfl 5 rfl rfl ?_
  refine HO.nil ?_
  refine hK6 _ _ ?_
  refine HW.block ?_   -- block 0
  refine HW.loopm (fun m s hh => ∃ k : Nat, Has s [(0, .slice a n c), (1, .slice a' n c'), (5, .int .i64 k)] ∧ hh = h ∧ k ≤ n ∧ m = n - k ∧ la.take k = lb.take k) ?_ ?_
  · exact ⟨_, 0, ⟨rfl, rfl, rfl, trivial⟩, rfl, Nat.zero_le _, rfl, rfl⟩
  rintro m s hh ⟨k, hs, rfl, hk, rfl, hp⟩ J7 hJ7
  refine HW.frame hs fun τ => ?_
  refine HW.seq fun K8 hK8 => ?_
  refine HW.seq fun K9 hK9 => ?_
  refine HW.region ?_   -- region 4 ref.go:162
  refine HO.v (V.mvI rfl) rfl 11 rfl rfl ?_
  refine HO.v (V.mvS rfl) rfl 12 rfl rfl ?_
  refine HO.v (V.len rfl T.el31) rfl 13 rfl rfl ?_
  refine HO.v (V.lss rfl rfl rfl) rfl 14 rfl rfl ?_
  refine HO.nil ?_
  refine hK9 _ _ ?_
  refine HW.condr rfl (fun hc => ?_) (fun hc => ?_)
  · -- else
    refine HW.exit ?_
    have hkn := of_decide_eq_false hc
    refine hK5 _ _ ?_
    refine HW.seq fun K10 hK10 => ?_
    skip
    refine HW.region ?_   -- region 8 ref.go:167
    refine HO.v (V.asB rfl) rfl 4 rfl rfl ?_
    refine HO.nil ?_
    refine hK10 _ _ ?_
    refine HW.ret ?_
    refine ⟨.bool true, Res.one rfl rfl, (by have h1 : k = n := (by omega); rw [h1, List.take_of_length_le (by omega), List.take_of_length_le (by omega)] at hp; simp [hp]), rfl⟩
  refine HW.skip ?_
  refine hK8 _ _ ?_
  refine HW.seq fun K11 hK11 => ?_
  refine HW.block ?_   -- block 1
  refine HW.seq fun K12 hK12 => ?_
  have hkn := of_decide_eq_true hc
  obtain ⟨b, o, rfl, hcell⟩ := hra.pos (by omega)
  obtain ⟨b', o', rfl, hcell'⟩ := hrb.pos (by omega)
  have e1 : (la.map iv)[k]? = some (iv la[k]) := map_at (by omega)
  have e2 : (lb.map iv)[k]? = some (iv lb[k]) := map_at (by omega)
  refine HW.quiet mixed (by kernel_rfl) ?_   -- region 6 ref.go:163
  refine HQ.v (V.mvS rfl) rfl 17 rfl rfl ?_
  refine HQ.v (V.mvI rfl) rfl 18 rfl rfl ?_
  refine HQ.v (V.indexAddr1 rfl rfl T.el31 T.sz3 (by omega)) rfl 19 rfl rfl ?_
  refine HQ.v (V.load rfl (load_one T.ag3 (v := iv la[k]) (hcell _ _ e1))) rfl 20 rfl rfl ?_
  refine HQ.v (V.mvS rfl) rfl 21 rfl rfl ?_
  refine HQ.v (V.mvI rfl) rfl 22 rfl rfl ?_
  refine HQ.v (V.indexAddr1 rfl rfl T.el31 T.sz3 (by omega)) rfl 23 rfl rfl ?_
  refine HQ.v (V.load rfl (load_one T.ag3 (v := iv lb[k]) (hcell' _ _ e2))) rfl 24 rfl rfl ?_
  refine HQ.v (V.neq rfl rfl rfl) rfl 25 rfl rfl ?_
  refine HQ.nil ?_
  refine hK12 _ _ ?_
  refine HW.cond rfl (fun hc => ?_) (fun hc => ?_)
  · -- then
    refine HW.seq fun K13 hK13 => ?_
    refine HW.region ?_   -- region 7 ref.go:164
    refine HO.v (V.asB rfl) rfl 4 rfl rfl ?_
    refine HO.nil ?_
    refine hK13 _ _ ?_
    refine HW.ret ?_
    refine ⟨.bool false, Res.one rfl rfl, (by have hne := of_decide_eq_true hc; have : la ≠ lb := (by rintro rfl; exact hne rfl); simp [this]), rfl⟩
  refine HW.skip ?_
  refine hK11 _ _ ?_
  have heq : la[k] = lb[k] := by have := of_decide_eq_false hc; omega
  refine HW.region ?_   -- region 5 ref.go:162
  refine HO.v (V.mvI rfl) rfl 15 rfl rfl ?_
  refine HO.v (V.add rfl rfl (by omega)) rfl 16 rfl rfl ?_
  refine HO.v (V.asI rfl) rfl 5 rfl rfl ?_
  refine HO.nil ?_
  refine hJ7 _ _ _ ⟨k + 1, ⟨rfl, rfl, rfl, trivial⟩, rfl, by omega, rfl, (by rw [List.take_succ_eq_append_getElem (by omega), List.take_succ_eq_append_getElem (by omega), hp, heq])⟩ (by omega)

set_option maxRecDepth 100000 in
theorem in_any {h : Heap} {vl : Value} {no : Int} {l : List Int} (hl : Ints h vl l) :
    HC Try.prog 36 #[.int .i64 no, vl] h (fun v h' => v = .bool (decide (no ∈ l) || decide (l = [])) ∧ h' = h) := by
  obtain ⟨a, n, c, rfl, _, hc1, hra⟩ := hl
  have hla : l.length = n := by simpa using hra.len
  refine HC.body Try.func36 rfl (by kernel_rfl) 21 rfl rfl ?_
  refine HW.seq fun K1 hK1 => ?_
  refine HW.region ?_   -- region 0 ref.go:83
  refine HO.v (V.asB rfl) rfl 4 rfl rfl ?_
  refine HO.nil ?_
  refine hK1 _ _ ?_
  refine HW.seq fun K2 hK2 => ?_
  refine HW.seq fun K3 hK3 => ?_
  refine HW.region ?_   -- region 1 ref.go:84
  refine HO.v (V.asI rfl) rfl 5 rfl rfl ?_
  refine HO.nil ?_
  refine hK3 _ _ ?_
  refine HW.block ?_   -- block 0
  refine HW.loopm (fun m s hh => ∃ k : Nat, Has s [(0, .int .i64 no), (1, .slice a n c), (5, .int .i64 k)] ∧ hh = h ∧ k ≤ n ∧ m = n - k ∧ no ∉ l.take k) ?_ ?_
  · exact ⟨_, 0, ⟨rfl, rfl, rfl, trivial⟩, rfl, Nat.zero_le _, rfl, by simp⟩
  rintro m s hh ⟨k, hs, rfl, hk, rfl, hp⟩ J4 hJ4
  refine HW.frame hs fun τ => ?_
  refine HW.seq fun K5 hK5 => ?_
  refine HW.seq fun K6 hK6 => ?_
  refine HW.region ?_   -- region 2 ref.go:84
  refine HO.v (V.mvI rfl) rfl 6 rfl rfl ?_
  refine HO.v (V.mvS rfl) rfl 7 rfl rfl ?_
  refine HO.v (V.len rfl T.el31) rfl 8 rfl rfl ?_
  refine HO.v (V.lss rfl rfl rfl) rfl 9 rfl rfl ?_
  refine HO.nil ?_
  refine hK6 _ _ ?_
  refine HW.condr rfl (fun hc => ?_) (fun hc => ?_)
  · -- else
    refine HW.exit ?_
    have hkn := of_decide_eq_false hc
    refine hK2 _ _ ?_
    refine HW.seq fun K7 hK7 => ?_
    refine HW.region ?_   -- region 6 ref.go:89
    refine HO.v (V.mvS rfl) rfl 18 rfl rfl ?_
    refine HO.v (V.len rfl T.el31) rfl 19 rfl rfl ?_
    refine HO.v (V.eql rfl rfl rfl) rfl 20 rfl rfl ?_
    refine HO.v (V.asB rfl) rfl 4 rfl rfl ?_
    refine HO.nil ?_
    refine hK7 _ _ ?_
    refine HW.ret ?_
    refine ⟨.bool (decide ((n : Int) = 0)), Res.one rfl rfl, (by have h1 : k = n := (by omega); rw [h1, List.take_of_length_le (by omega)] at hp; have e : decide (l = []) = decide ((n : Int) = 0) := decide_eq_decide.2 (by rw [← hla, ← List.length_eq_zero_iff]; omega); simp only [hp, e, decide_false, Bool.false_or]), rfl⟩
  refine HW.skip ?_
  refine hK5 _ _ ?_
  refine HW.seq fun K8 hK8 => ?_
  refine HW.block ?_   -- block 1
  refine HW.seq fun K9 hK9 => ?_
  have hkn := of_decide_eq_true hc
  obtain ⟨b, o, rfl, hcell⟩ := hra.pos (by omega)
  have e1 : (l.map iv)[k]? = some (iv l[k]) := map_at (by omega)
  refine HW.region ?_   -- region 4 ref.go:85
  refine HO.v (V.mvS rfl) rfl 12 rfl rfl ?_
  refine HO.v (V.mvI rfl) rfl 13 rfl rfl ?_
  refine HO.v (V.indexAddr1 rfl rfl T.el31 T.sz3 (by omega)) rfl 14 rfl rfl ?_
  refine HO.v (V.load rfl (load_one T.ag3 (v := iv l[k]) (hcell _ _ e1))) rfl 15 rfl rfl ?_
  refine HO.v (V.mvI rfl) rfl 16 rfl rfl ?_
  refine HO.v (V.eql rfl rfl rfl) rfl 17 rfl rfl ?_
  refine HO.nil ?_
  refine hK9 _ _ ?_
  refine HW.cond rfl (fun hc => ?_) (fun hc => ?_)
  · -- then
    refine HW.seq fun K10 hK10 => ?_
    refine HW.region ?_   -- region 5 ref.go:86
    refine HO.v (V.asB rfl) rfl 4 rfl rfl ?_
    refine HO.nil ?_
    refine hK10 _ _ ?_
    refine HW.ret ?_
    refine ⟨.bool true, Res.one rfl rfl, (by have he := of_decide_eq_true hc; have : no ∈ l := (he ▸ List.getElem_mem _); simp [this]), rfl⟩
  refine HW.skip ?_
  refine hK8 _ _ ?_
  refine HW.region ?_   -- region 3 ref.go:84
  refine HO.v (V.mvI rfl) rfl 10 rfl rfl ?_
  refine HO.v (V.add rfl rfl (by omega)) rfl 11 rfl rfl ?_
  refine HO.v (V.asI rfl) rfl 5 rfl rfl ?_
  refine HO.nil ?_
  refine hJ4 _ _ _ ⟨k + 1, ⟨rfl, rfl, rfl, trivial⟩, rfl, by omega, rfl, (by rw [List.take_succ_eq_append_getElem (by omega)]; have he := of_decide_eq_false hc; simp only [List.mem_append, List.mem_singleton, not_or]; exact ⟨hp, fun e => he e.symm⟩)⟩ (by omega)

set_option maxRecDepth 100000 in
theorem find_any {h : Heap} {room no : Int} {a : Option Addr} {n c : Nat} {l : List Pg} (hl : Sl h 3 (.slice a n c) (l.flatMap pg)) :
    HC Try.prog 33 #[.agg #[.int .i64 room, .slice a n c], .int .i64 no] h (fun v h' => v = .int .i64 (fnd no l) ∧ Ext h h') := by
  have hra := hl.cells
  have hcm := hl.bd
  have hla : l.length = n := by have := hra.1; rw [flat_len pg_len] at this; omega
  let h1 := h.push (.cells #[.int .i64 room, .slice a n c] 49 (0, 0))
  have hx1 : Ext h h1 := Ext.push _ _
  have hr1 : Row h1 3 a n (l.flatMap pg) := hra.ext hx1
  have hc1 : cell h1 h.size 1 = some (.slice a n c) := cell_of (push_same _ _) 1
  refine HC.body Try.func33 rfl (by kernel_rfl) 22 rfl rfl ?_
  refine HW.seq fun K1 hK1 => ?_
  refine HW.region ?_   -- region 0 ref.go:31
  refine HO.e (V.boxA rfl) rfl 2 rfl rfl ?_
  refine HO.v (V.asI rfl) rfl 4 rfl rfl ?_
  refine HO.nil ?_
  refine hK1 _ _ ?_
  refine HW.seq fun K2 hK2 => ?_
  refine HW.seq fun K3 hK3 => ?_
  refine HW.region ?_   -- region 1 ref.go:32
  refine HO.v (V.asI rfl) rfl 5 rfl rfl ?_
  refine HO.nil ?_
  refine hK3 _ _ ?_
  refine HW.block ?_   -- block 0
  refine HW.loopm (fun m s hh => ∃ k : Nat, Has s [(1, .int .i64 no), (2, .pointer (some ⟨h.size, 0, none⟩)), (5, .int .i64 k)] ∧ hh = h1 ∧ k ≤ n ∧ m = n - k ∧ (∀ j (hj : j < k) (hjl : j < l.length), (l[j]).no ≠ no)) ?_ ?_
  · exact ⟨_, 0, ⟨rfl, rfl, rfl, trivial⟩, rfl, Nat.zero_le _, rfl, fun j hj => absurd hj (by omega)⟩
  rintro m s hh ⟨k, hs, rfl, hk, rfl, hp⟩ J4 hJ4
  refine HW.frame hs fun τ => ?_
  refine HW.seq fun K5 hK5 => ?_
  refine HW.seq fun K6 hK6 => ?_
  refine HW.region ?_   -- region 2 ref.go:32
  refine HO.v (V.mvI rfl) rfl 6 rfl rfl ?_
  refine HO.v (V.fieldAddr rfl T.fd49_1) rfl 7 rfl rfl ?_
  refine HO.v (V.load rfl (load_one T.ag47 hc1)) rfl 8 rfl rfl ?_
  refine HO.v (V.len rfl T.el47) rfl 9 rfl rfl ?_
  refine HO.v (V.lss rfl rfl rfl) rfl 10 rfl rfl ?_
  refine HO.nil ?_
  refine hK6 _ _ ?_
  refine HW.condr rfl (fun hc => ?_) (fun hc => ?_)
  · -- else
    refine HW.exit ?_
    have hkn := of_decide_eq_false hc
    refine hK2 _ _ ?_
    refine HW.seq fun K7 hK7 => ?_
    refine HW.region ?_   -- region 6 ref.go:37
    refine HO.v (V.asI rfl) rfl 4 rfl rfl ?_
    refine HO.nil ?_
    refine hK7 _ _ ?_
    refine HW.ret ?_
    refine ⟨.int .i64 (-1), Res.one rfl rfl, (by rw [fnd_none]; intro p hp2; obtain ⟨j, hj, rfl⟩ := List.mem_iff_getElem.1 hp2; exact hp j (by omega) hj), hx1⟩
  refine HW.skip ?_
  have hkn := of_decide_eq_true hc
  have hkl : k < l.length := by omega
  obtain ⟨b, o, rfl, hcell⟩ := hr1.pos (by omega)
  refine hK5 _ _ ?_
  refine HW.seq fun K8 hK8 => ?_
  refine HW.block ?_   -- block 1
  refine HW.seq fun K9 hK9 => ?_
  refine HW.region ?_   -- region 4 ref.go:33
  refine HO.v (V.fieldAddr rfl T.fd49_1) rfl 13 rfl rfl ?_
  refine HO.v (V.load rfl (load_one T.ag47 hc1)) rfl 14 rfl rfl ?_
  refine HO.v (V.mvI rfl) rfl 15 rfl rfl ?_
  refine HO.v (V.indexAddr rfl rfl T.el47 T.sz78 (by omega)) rfl 16 rfl rfl ?_
  refine HO.v (V.fieldAddr rfl T.fd78_0) rfl 17 rfl rfl ?_
  refine HO.v (V.load rfl (load_one T.ag3 (v := .int .i64 l[k].no) (cell_at pg_len hcell (by omega) rfl))) rfl 18 rfl rfl ?_
  refine HO.v (V.mvI rfl) rfl 19 rfl rfl ?_
  refine HO.v (V.eql rfl rfl rfl) rfl 20 rfl rfl ?_
  refine HO.nil ?_
  refine hK9 _ _ ?_
  refine HW.cond rfl (fun hc => ?_) (fun hc => ?_)
  · -- then
    refine HW.seq fun K10 hK10 => ?_
    refine HW.region ?_   -- region 5 ref.go:34
    refine HO.v (V.mvI rfl) rfl 21 rfl rfl ?_
    refine HO.v (V.asI rfl) rfl 4 rfl rfl ?_
    refine HO.nil ?_
    refine hK10 _ _ ?_
    refine HW.ret ?_
    refine ⟨.int .i64 k, Res.one rfl rfl, (by rw [fnd_some (k := k) (by omega) (fun j hj => hp j hj (by omega)) (of_decide_eq_true hc)]), hx1⟩
  refine HW.skip ?_
  refine hK8 _ _ ?_
  refine HW.region ?_   -- region 3 ref.go:32
  refine HO.v (V.mvI rfl) rfl 11 rfl rfl ?_
  refine HO.v (V.add rfl rfl (by omega)) rfl 12 rfl rfl ?_
  refine HO.v (V.asI rfl) rfl 5 rfl rfl ?_
  refine HO.nil ?_
  refine hJ4 _ _ _ ⟨k + 1, ⟨rfl, rfl, rfl, trivial⟩, rfl, by omega, rfl, (by intro j hj hjl; by_cases e : j = k; (subst e; exact of_decide_eq_false hc); exact hp j (by omega) hjl)⟩ (by omega)

end Go.Proofs.Ytdbiggfnnhmpiaa
