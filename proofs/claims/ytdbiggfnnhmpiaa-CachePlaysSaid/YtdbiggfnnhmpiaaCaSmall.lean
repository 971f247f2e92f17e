/- The function small of the cache laws: where it answers true, the calls are few. Conditions: the calls are readable. -/
import Derived.Test.YtdbiggfnnhmpiaaCaLive
namespace Go.Proofs.Ytdbiggfnnhmpiaa
open Go Go.HL

/-- A call of the law's input as its cells read, and what it is. -/
structure OpC5 where
  kind : UInt8
  no : Int
  b : SV
  d : Bool
  l : SV
structure AOp where
  kind : UInt8
  no : Int
  b : List UInt8
  d : Bool
  l : List Int
@[reducible] def opc (o : OpC5) : List Value := [.int .u8 o.kind.toNat, .int .i64 o.no, sv o.b, .bool o.d, sv o.l]
theorem opc_len (o : OpC5) : (opc o).length = 5 := rfl
structure OpIs (h : Heap) (o : OpC5) (x : AOp) : Prop where
  kind : o.kind = x.kind
  no : o.no = x.no
  b : Bytes h (sv o.b) x.b
  d : o.d = x.d
  l : Ints h (sv o.l) x.l
def Ops (h : Heap) (v : Value) (M : List AOp) : Prop := ∃ os : List OpC5, Sl h 5 v (os.flatMap opc) ∧ All2 (OpIs h) os M
theorem Ops.ext {h h' : Heap} (e : Ext h h') {v : Value} {M : List AOp} (r : Ops h v M) : Ops h' v M :=
  let ⟨os, h1, h2⟩ := r; ⟨os, h1.ext e, h2.mono fun _ _ q => ⟨q.kind, q.no, q.b.ext e, q.d, q.l.ext e⟩⟩
theorem bytes_len {h : Heap} {x : SV} {l : List UInt8} (r : Bytes h (sv x) l) : x.2.1 = l.length := by
  obtain ⟨a, n, c⟩ := x
  have h1 : Sl h 1 (.slice a n c) (l.map bv) := r
  simpa using h1.cells.len.symm
theorem ints_len {h : Heap} {x : SV} {l : List Int} (r : Ints h (sv x) l) : x.2.1 = l.length := by
  obtain ⟨a, n, c⟩ := x
  have h1 : Sl h 1 (.slice a n c) (l.map iv) := r
  simpa using h1.cells.len.symm
def Few (M : List AOp) : Prop := M.length ≤ 100 ∧ ∀ o ∈ M, o.b.length ≤ 100 ∧ o.l.length ≤ 100

set_option maxRecDepth 100000 in
theorem small_any {h : Heap} {lv : SV} {M : List AOp} (hM : Ops h (sv lv) M) :
    HC Try.prog 7 #[sv lv] h (fun v h' => ∃ b, v = .bool b ∧ (b = true → Few M) ∧ h' = h) := by
  obtain ⟨os, hs0, hall⟩ := hM
  obtain ⟨a, n, c⟩ := lv
  have hs1 : Sl h 5 (.slice a n c) (os.flatMap opc) := hs0
  have hon : os.length = n := by have := hs1.cells.1; rw [flat_len opc_len] at this; omega
  have hMl := hall.1
  have hnb := hs1.bd
  refine HC.body Try.func7 rfl (by kernel_rfl) 29 rfl rfl ?_
  refine HW.seq fun K1 hK1 => ?_
  refine HW.region ?_   -- region 0 law.go:36
  refine HO.v (V.asB rfl) rfl 2 rfl rfl ?_
  refine HO.nil ?_
  refine hK1 _ _ ?_
  refine HW.seq fun K2 hK2 => ?_
  refine HW.seq fun K3 hK3 => ?_
  refine HW.region ?_   -- region 1 law.go:37
  refine HO.v (V.mvS rfl) rfl 4 rfl rfl ?_
  refine HO.v (V.len rfl T.el22) rfl 5 rfl rfl ?_
  refine HO.v (V.gtr rfl rfl rfl) rfl 6 rfl rfl ?_
  refine HO.nil ?_
  refine hK3 _ _ ?_
  refine HW.cond rfl (fun hc => ?_) (fun hc => ?_)
  · -- then
    refine HW.seq fun K4 hK4 => ?_
    refine HW.region ?_   -- region 2 law.go:38
    refine HO.v (V.asB rfl) rfl 2 rfl rfl ?_
    refine HO.nil ?_
    refine hK4 _ _ ?_
    refine HW.ret ?_
    refine ⟨.bool false, Res.one rfl rfl, false, rfl, (fun e => by cases e), rfl⟩
  refine HW.skip ?_
  refine hK2 _ _ ?_
  refine HW.seq fun K5 hK5 => ?_
  refine HW.seq fun K6 hK6 => ?_
  have hc0 : ¬ (100 < (n : Int)) := of_decide_eq_false hc
  refine HW.region ?_   -- region 3 law.go:40
  refine HO.v (V.asI rfl) rfl 3 rfl rfl ?_
  refine HO.nil ?_
  refine hK6 _ _ ?_
  refine HW.block ?_   -- block 0
  refine HW.loopm (fun m s hh => ∃ k : Nat, Has s [(0, .slice a n c), (3, .int .i64 k)] ∧ h = hh ∧ k ≤ n ∧ m = n - k ∧ ∀ o ∈ M.take k, o.b.length ≤ 100 ∧ o.l.length ≤ 100) ?_ ?_
  · exact ⟨_, 0, ⟨rfl, rfl, trivial⟩, rfl, by omega, rfl, by simp⟩
  rintro m s hh ⟨k, hs, rfl, hkn, rfl, hfew⟩ J7 hJ7
  refine HW.frame hs fun τ => ?_
  refine HW.seq fun K8 hK8 => ?_
  refine HW.seq fun K9 hK9 => ?_
  refine HW.region ?_   -- region 4 law.go:40
  refine HO.v (V.mvI rfl) rfl 7 rfl rfl ?_
  refine HO.v (V.mvS rfl) rfl 8 rfl rfl ?_
  refine HO.v (V.len rfl T.el22) rfl 9 rfl rfl ?_
  refine HO.v (V.lss rfl rfl rfl) rfl 10 rfl rfl ?_
  refine HO.nil ?_
  refine hK9 _ _ ?_
  refine HW.condr rfl (fun hc => ?_) (fun hc => ?_)
  · -- else
    refine HW.exit ?_
    refine hK5 _ _ ?_
    refine HW.seq fun K10 hK10 => ?_
    refine HW.region ?_   -- region 8 law.go:45
    refine HO.v (V.asB rfl) rfl 2 rfl rfl ?_
    refine HO.nil ?_
    refine hK10 _ _ ?_
    refine HW.ret ?_
    refine ⟨.bool true, Res.one rfl rfl, true, rfl, (fun _ => ⟨by omega, by have h1 := of_decide_eq_false hc; rw [List.take_of_length_le (by omega)] at hfew; exact hfew⟩), rfl⟩
  refine HW.skip ?_
  refine hK8 _ _ ?_
  refine HW.seq fun K11 hK11 => ?_
  have hko : k < os.length := by have := of_decide_eq_true hc; omega
  have hkM : k < M.length := by omega
  have his := hall.2 k hko hkM
  have hbl := bytes_len his.b
  have hll := ints_len his.l
  obtain ⟨b, o, rfl, hcell⟩ := hs1.cells.pos (by omega)
  refine HW.block ?_   -- block 1
  refine HW.seqc (fun s hh => ∃ bb : Bool, Has s [(0, .slice (some ⟨b, o, none⟩) n c), (3, .int .i64 k), (28, .bool bb)] ∧ h = hh ∧ (bb = false → M[k].b.length ≤ 100 ∧ M[k].l.length ≤ 100)) ?_ ?_
  ·
    refine HW.region ?_   -- region 6 law.go:41
    refine HO.v (V.mvS rfl) rfl 13 rfl rfl ?_
    refine HO.v (V.mvI rfl) rfl 14 rfl rfl ?_
    refine HO.v (V.indexAddr rfl rfl T.el22 T.sz33 (by omega)) rfl 15 rfl rfl ?_
    refine HO.v (V.fieldAddr rfl T.fd33_2) rfl 16 rfl rfl ?_
    refine HO.v (V.load rfl (load_one T.ag30 (v := sv os[k].b) (cell_at opc_len hcell hko rfl))) rfl 17 rfl rfl ?_
    refine HO.v (V.len rfl T.el30) rfl 18 rfl rfl ?_
    refine HO.v (V.gtr rfl rfl rfl) rfl 19 rfl rfl ?_
    refine HO.v (V.mvB rfl) rfl 20 rfl rfl ?_
    refine HO.spl (fun hb7 => ?_) (fun hb7 => ?_)
    · -- true
      refine HO.no rfl 21 rfl rfl ?_
      refine HO.no rfl 22 rfl rfl ?_
      refine HO.no rfl 23 rfl rfl ?_
      refine HO.no rfl 24 rfl rfl ?_
      refine HO.no rfl 25 rfl rfl ?_
      refine HO.no rfl 26 rfl rfl ?_
      refine HO.no rfl 27 rfl rfl ?_
      refine HO.v (V.pick_t rfl rfl) rfl 28 rfl rfl ?_
      refine HO.nil ?_
      refine ⟨_, ⟨rfl, rfl, rfl, trivial⟩, rfl, fun e => by cases e⟩
    · -- false
      refine HO.v (V.mvS rfl) rfl 21 rfl rfl ?_
      refine HO.v (V.mvI rfl) rfl 22 rfl rfl ?_
      refine HO.v (V.indexAddr rfl rfl T.el22 T.sz33 (by omega)) rfl 23 rfl rfl ?_
      refine HO.v (V.fieldAddr rfl T.fd33_4) rfl 24 rfl rfl ?_
      refine HO.v (V.load rfl (load_one T.ag31 (v := sv os[k].l) (cell_at opc_len hcell hko rfl))) rfl 25 rfl rfl ?_
      refine HO.v (V.len rfl T.el31) rfl 26 rfl rfl ?_
      refine HO.v (V.gtr rfl rfl rfl) rfl 27 rfl rfl ?_
      refine HO.v (V.pick_f rfl rfl) rfl 28 rfl rfl ?_
      refine HO.nil ?_
      refine ⟨_, ⟨rfl, rfl, rfl, trivial⟩, rfl, fun e => ?_⟩
      have h1 := of_decide_eq_false hb7
      have h2 := of_decide_eq_false e
      omega
  rintro s hh ⟨bb, hs, rfl, hbb⟩
  refine HW.frame hs fun τ => ?_
  refine HW.cond rfl (fun hc => ?_) (fun hc => ?_)
  · -- then
    refine HW.seq fun K13 hK13 => ?_
    refine HW.region ?_   -- region 7 law.go:42
    refine HO.v (V.asB rfl) rfl 2 rfl rfl ?_
    refine HO.nil ?_
    refine hK13 _ _ ?_
    refine HW.ret ?_
    refine ⟨.bool false, Res.one rfl rfl, false, rfl, (fun e => by cases e), rfl⟩
  refine HW.skip ?_
  have hnext : ∀ o ∈ M.take (k + 1), o.b.length ≤ 100 ∧ o.l.length ≤ 100 := by
    rw [take_next hkM]
    intro y hy
    rcases List.mem_append.1 hy with hy | hy
    · exact hfew y hy
    · rw [List.mem_singleton] at hy
      subst hy
      exact hbb hc
  refine hK11 _ _ ?_
  refine HW.region ?_   -- region 5 law.go:40
  refine HO.v (V.mvI rfl) rfl 11 rfl rfl ?_
  refine HO.v (V.add rfl rfl (by omega)) rfl 12 rfl rfl ?_
  refine HO.v (V.asI rfl) rfl 3 rfl rfl ?_
  refine HO.nil ?_
  refine hJ7 _ _ _ ⟨k + 1, ⟨rfl, rfl, trivial⟩, rfl, by omega, rfl, hnext⟩ (by omega)

end Go.Proofs.Ytdbiggfnnhmpiaa
