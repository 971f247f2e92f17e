/- The function live of the cache laws returns true. Conditions: none. -/
import Derived.Test.YtdbiggfnnhmpiaaCaImp8
import Derived.Test.YtdbiggfnnhmpiaaWa
namespace Go.Proofs.Ytdbiggfnnhmpiaa
open Go Go.HL

theorem Frames.form {h : Heap} {v : Value} {L : List AFr} (r : Frames h v L) : ∃ x : SV, v = sv x := let ⟨_, h1, _⟩ := r; h1.form
theorem Frames.len {h : Heap} {x : SV} {L : List AFr} (r : Frames h (sv x) L) : x.2.1 = L.length := by
  obtain ⟨l, h1, h2⟩ := r
  obtain ⟨a, n, c⟩ := x
  have h3 : Sl h 3 (.slice a n c) (l.flatMap fr) := h1
  have := h3.cells.1
  rw [flat_len fr_len, h2.1] at this
  show n = _
  omega
theorem Step.out {F F' : Nat → Prop} {h h' : Heap} (s : Step F h F' h') {b : Nat} (hb : b < h.size) (hf : ¬ F b) : ¬ F' b := fun f => by
  rcases s.place b f with f | f
  · exact hf f
  · omega
/-- What is not the cache's stays. -/
theorem Cap.step {F F' : Nat → Prop} {h h' : Heap} (s : Step F h F' h') {k : Nat} {e : TypeId} {v : Value} {xs : List Value} (c : Cap h k e v xs) (hf : ∀ b, blkC v b → ¬ F b) : Cap h' k e v xs ∧ ∀ b, blkC v b → ¬ F' b :=
  ⟨c.chg s.chg hf, fun b hb => s.out (c.lt hb) (hf b hb)⟩
theorem CRep.at {h : Heap} {F : Nat → Prop} {p : Nat} {room : Int} {L M : List AP} (r : CRep h F p room L) (e : L = M) : CRep h F p room M := e ▸ r
theorem CRep.len {h : Heap} {F : Nat → Prop} {p : Nat} {room : Int} {L : List AP} (r : CRep h F p room L) : L.length ≤ 100000001 := let ⟨_, _, _, _, r⟩ := r; r.len
/-- A step that began behind h0, of what is not h0's. -/
theorem Step.above {F F' : Nat → Prop} {h0 h h' : Heap} (x : Ext h0 h) (hf : ∀ b, F b → h0.size ≤ b) (s : Step F h F' h') : Ext h0 h' ∧ ∀ b, F' b → h0.size ≤ b :=
  ⟨x.trans' s.chg fun b hb f => by have := hf b f; omega, fun b f => by
    rcases s.place b f with f | f
    · exact hf b f
    · exact Nat.le_trans x.size f⟩

set_option maxRecDepth 100000 in
theorem live_any {h : Heap} :
    HC Try.prog 8 #[] h (fun v h' => v = .bool true ∧ Ext h h') := by
  refine HC.body Try.func8 rfl (by kernel_rfl) 115 rfl rfl ?_
  refine HW.seq fun K1 hK1 => ?_
  refine HW.region ?_   -- region 0 law.go:12
  refine HO.v (V.asB rfl) rfl 0 rfl rfl ?_
  refine HO.nil ?_
  refine hK1 _ _ ?_
  refine HW.seq fun K2 hK2 => ?_
  refine HW.region ?_   -- region 1 law.go:13
  refine HO.c OpC.func rfl 15 rfl rfl new_any ?_
  rintro _ h1 hn1
  rcases hn1 with ⟨hbad, _⟩ | ⟨_, p, F, rfl, r1, e1, f1⟩
  · exact absurd ⟨by omega, by omega⟩ hbad
  refine HO.v (V.mvU rfl) rfl 14 rfl rfl ?_
  refine HO.v (V.extract rfl rfl) rfl 16 rfl rfl ?_
  refine HO.v (V.extract rfl rfl) rfl 17 rfl rfl ?_
  refine HO.v (V.asP rfl) rfl 1 rfl rfl ?_
  refine HO.v (V.asI rfl) rfl 2 rfl rfl ?_
  refine HO.nil ?_
  refine hK2 _ _ ?_
  refine HW.seq fun K3 hK3 => ?_
  refine HW.region ?_   -- region 2 law.go:14
  refine HO.c OpC.func rfl 19 rfl rfl new_any ?_
  rintro _ h2 hn2
  rcases hn2 with ⟨_, rfl, rfl⟩ | ⟨hbad, _⟩
  rotate_left
  · exact absurd hbad (by omega)
  refine HO.v (V.mvU rfl) rfl 18 rfl rfl ?_
  refine HO.v (V.extract rfl rfl) rfl 20 rfl rfl ?_
  refine HO.v (V.extract rfl rfl) rfl 21 rfl rfl ?_
  refine HO.v (V.asP rfl) rfl 3 rfl rfl ?_
  refine HO.v (V.asI rfl) rfl 4 rfl rfl ?_
  refine HO.nil ?_
  refine hK3 _ _ ?_
  refine HW.seq fun K4 hK4 => ?_
  refine HW.seq fun K5 hK5 => ?_
  refine HW.region ?_   -- region 3 law.go:15
  refine HO.v (V.mvP rfl) rfl 22 rfl rfl ?_
  refine HO.v (V.ptrEqNil rfl rfl T.pt23) rfl 23 rfl rfl ?_
  refine HO.nil ?_
  refine hK5 _ _ ?_
  refine HW.cond rfl (fun hc => ?_) (fun hc => ?_)
  · -- then
    refine HW.seq fun K6 hK6 => ?_
    refine HW.region ?_   -- region 4 law.go:16
    refine HO.v (V.asB rfl) rfl 0 rfl rfl ?_
    refine HO.nil ?_
    refine hK6 _ _ ?_
    refine HW.ret ?_
    refine ⟨.bool false, Res.one rfl rfl, (by simp at hc)⟩
  refine HW.skip ?_
  refine hK4 _ _ ?_
  refine HW.seq fun K7 hK7 => ?_
  refine HW.region ?_   -- region 5 law.go:18
  refine HO.v (V.mvP rfl) rfl 24 rfl rfl ?_
  refine HO.e (V.buildSlice [.const (.int .u8 1)] (cs := #[.int .u8 1]) T.el30 T.sz5 T.zr5 rfl rfl rfl ⟨rfl, trivial⟩ rfl) rfl 25 rfl rfl ?_
  refine HO.c OpC.func rfl 26 rfl rfl (put_any (r1.ext (Ext.push _ _)) (by simp) 1 (bs := (some ⟨h2.size, 0, none⟩, 1, 1)) (l := [1]) (sl_new (n := 1) rfl (by omega)) (by simp) true (by omega)) ?_
  rintro _ h3 ⟨F3, r3', s3, f3⟩
  obtain ⟨a3, rfl⟩ := f3.form
  have n3 : a3.2.1 = 0 := f3.len
  have r3 := r3'.at (M := [⟨1, [1], true⟩]) (by decide)
  have x3 := s3.above (e1.trans (Ext.push _ _)) f1
  refine HO.v (V.mvP rfl) rfl 27 rfl rfl ?_
  refine HO.e (V.buildSlice [.const (.int .u8 2)] (cs := #[.int .u8 2]) T.el30 T.sz5 T.zr5 rfl rfl rfl ⟨rfl, trivial⟩ rfl) rfl 28 rfl rfl ?_
  refine HO.c OpC.func rfl 29 rfl rfl (put_any (r3.ext (Ext.push _ _)) (by simp) 2 (bs := (some ⟨h3.size, 0, none⟩, 1, 1)) (l := [2]) (sl_new (n := 1) rfl (by omega)) (by simp) false (by omega)) ?_
  rintro _ h4 ⟨F4, r4', s4, f4⟩
  obtain ⟨a4, rfl⟩ := f4.form
  have n4 : a4.2.1 = 0 := f4.len
  have r4 := r4'.at (M := [⟨2, [2], false⟩, ⟨1, [1], true⟩]) (by decide)
  have x4 := s4.above (x3.1.trans (Ext.push _ _)) x3.2
  refine HO.v (V.asS rfl) rfl 5 rfl rfl ?_
  refine HO.v (V.asS rfl) rfl 6 rfl rfl ?_
  refine HO.nil ?_
  refine hK7 _ _ ?_
  refine HW.seq fun K8 hK8 => ?_
  refine HW.region ?_   -- region 6 law.go:19
  refine HO.v (V.mvP rfl) rfl 31 rfl rfl ?_
  refine HO.c OpC.func rfl 32 rfl rfl (get_any r4 1) ?_
  rintro _ h5 ⟨g, F5, rfl, r5', s5, g5, gf5⟩
  have r5 := r5'.at (M := [⟨1, [1], true⟩, ⟨2, [2], false⟩]) (by decide)
  have x5 := s5.above x4.1 x4.2
  refine HO.v (V.mvU rfl) rfl 30 rfl rfl ?_
  refine HO.v (V.extract rfl rfl) rfl 33 rfl rfl ?_
  refine HO.v (V.extract rfl rfl) rfl 34 rfl rfl ?_
  refine HO.v (V.asS rfl) rfl 7 rfl rfl ?_
  refine HO.v (V.asB rfl) rfl 8 rfl rfl ?_
  refine HO.nil ?_
  refine hK8 _ _ ?_
  refine HW.seq fun K9 hK9 => ?_
  refine HW.region ?_   -- region 7 law.go:20
  refine HO.v (V.mvP rfl) rfl 35 rfl rfl ?_
  refine HO.e (V.buildSlice [.const (.int .u8 3)] (cs := #[.int .u8 3]) T.el30 T.sz5 T.zr5 rfl rfl rfl ⟨rfl, trivial⟩ rfl) rfl 36 rfl rfl ?_
  refine HO.c OpC.func rfl 37 rfl rfl (put_any (r5.ext (Ext.push _ _)) (by simp) 3 (bs := (some ⟨h5.size, 0, none⟩, 1, 1)) (l := [3]) (sl_new (n := 1) rfl (by omega)) (by simp) false (by omega)) ?_
  rintro _ h6 ⟨F6, r6', s6, f6⟩
  obtain ⟨a6, rfl⟩ := f6.form
  have n6 : a6.2.1 = 0 := f6.len
  have r6 := r6'.at (M := [⟨3, [3], false⟩, ⟨1, [1], true⟩]) (by decide)
  have g6 := Cap.step s6 (g5.ext (Ext.push _ _)) fun b hb => (gf5 b hb).2
  have x6 := s6.above (x5.1.trans (Ext.push _ _)) x5.2
  refine HO.v (V.mvP rfl) rfl 38 rfl rfl ?_
  refine HO.e (V.buildSlice [.const (.int .u8 4)] (cs := #[.int .u8 4]) T.el30 T.sz5 T.zr5 rfl rfl rfl ⟨rfl, trivial⟩ rfl) rfl 39 rfl rfl ?_
  refine HO.c OpC.func rfl 40 rfl rfl (put_any (r6.ext (Ext.push _ _)) (by simp) 4 (bs := (some ⟨h6.size, 0, none⟩, 1, 1)) (l := [4]) (sl_new (n := 1) rfl (by omega)) (by simp) false (by omega)) ?_
  rintro _ h7 ⟨F7, r7', s7, f7⟩
  obtain ⟨a7, rfl⟩ := f7.form
  have r7 := r7'.at (M := [⟨4, [4], false⟩, ⟨3, [3], false⟩]) (by decide)
  have g7 := Cap.step s7 (g6.1.ext (Ext.push _ _)) g6.2
  have x7 := s7.above (x6.1.trans (Ext.push _ _)) x6.2
  refine HO.v (V.asS rfl) rfl 9 rfl rfl ?_
  refine HO.v (V.asS rfl) rfl 10 rfl rfl ?_
  refine HO.nil ?_
  refine hK9 _ _ ?_
  refine HW.seq fun K10 hK10 => ?_
  refine HW.region ?_   -- region 8 law.go:21
  refine HO.v (V.asP rfl) rfl 11 rfl rfl ?_
  refine HO.nil ?_
  refine hK10 _ _ ?_
  refine HW.seq fun K11 hK11 => ?_
  refine HW.region ?_   -- region 9 law.go:22
  refine HO.v (V.mvP rfl) rfl 42 rfl rfl ?_
  refine HO.c OpC.func rfl 43 rfl rfl (get_nil 1) ?_
  rintro _ h7b ⟨rfl, e7⟩
  obtain rfl := e7.symm
  refine HO.v (V.mvU rfl) rfl 41 rfl rfl ?_
  refine HO.v (V.extract rfl rfl) rfl 44 rfl rfl ?_
  refine HO.v (V.extract rfl rfl) rfl 45 rfl rfl ?_
  refine HO.v (V.asS rfl) rfl 12 rfl rfl ?_
  refine HO.v (V.asB rfl) rfl 13 rfl rfl ?_
  refine HO.nil ?_
  refine hK11 _ _ ?_
  refine HW.seq fun K12 hK12 => ?_
  refine HW.region ?_   -- region 10 law.go:23
  refine HO.v (V.mvI rfl) rfl 46 rfl rfl ?_
  refine HO.v (V.eql rfl rfl rfl) rfl 47 rfl rfl ?_
  refine HO.v (V.mvB rfl) rfl 48 rfl rfl ?_
  refine HO.spl (fun hb2 => ?_) (fun hb2 => (by simp at hb2))
  refine HO.v (V.mvI rfl) rfl 49 rfl rfl ?_
  refine HO.v (V.eql rfl rfl rfl) rfl 50 rfl rfl ?_
  refine HO.v (V.pick_t rfl rfl) rfl 51 rfl rfl ?_
  refine HO.v (V.mvB rfl) rfl 52 rfl rfl ?_
  refine HO.spl (fun hb6 => ?_) (fun hb6 => (by simp at hb6))
  refine HO.v (V.mvS rfl) rfl 53 rfl rfl ?_
  refine HO.v (V.len rfl T.el36) rfl 54 rfl rfl ?_
  refine HO.v (V.eql rfl rfl rfl) rfl 55 rfl rfl ?_
  refine HO.v (V.pick_t rfl rfl) rfl 56 rfl rfl ?_
  refine HO.v (V.mvB rfl) rfl 57 rfl rfl ?_
  refine HO.spl (fun hb11 => ?_) (fun hb11 => (by simp [n3] at hb11))
  refine HO.v (V.mvS rfl) rfl 58 rfl rfl ?_
  refine HO.v (V.len rfl T.el36) rfl 59 rfl rfl ?_
  refine HO.v (V.eql rfl rfl rfl) rfl 60 rfl rfl ?_
  refine HO.v (V.pick_t rfl rfl) rfl 61 rfl rfl ?_
  refine HO.v (V.mvB rfl) rfl 62 rfl rfl ?_
  refine HO.spl (fun hb16 => ?_) (fun hb16 => (by simp [n4] at hb16))
  refine HO.v (V.mvS rfl) rfl 63 rfl rfl ?_
  refine HO.e (V.buildSlice [.const (.int .u8 1)] (cs := #[.int .u8 1]) T.el30 T.sz5 T.zr5 rfl rfl rfl ⟨rfl, trivial⟩ rfl) rfl 64 rfl rfl ?_
  refine HO.c OpC.func rfl 65 rfl rfl (same_any (lb := [1]) (g7.1.sl.ext (Ext.push _ _)) (sl_new (n := 1) rfl (by omega))) ?_
  rintro _ _ ⟨rfl, rfl⟩
  refine HO.v (V.pick_t rfl rfl) rfl 66 rfl rfl ?_
  refine HO.v (V.mvB rfl) rfl 67 rfl rfl ?_
  refine HO.spl (fun hb21 => ?_) (fun hb21 => (by exfalso; revert hb21; decide))
  refine HO.v (V.mvB rfl) rfl 68 rfl rfl ?_
  refine HO.v (V.pick_t rfl rfl) rfl 69 rfl rfl ?_
  refine HO.v (V.mvB rfl) rfl 70 rfl rfl ?_
  refine HO.spl (fun hb24 => ?_) (fun hb24 => (by exfalso; revert hb24; decide))
  refine HO.v (V.mvS rfl) rfl 71 rfl rfl ?_
  refine HO.v (V.len rfl T.el36) rfl 72 rfl rfl ?_
  refine HO.v (V.eql rfl rfl rfl) rfl 73 rfl rfl ?_
  refine HO.v (V.pick_t rfl rfl) rfl 74 rfl rfl ?_
  refine HO.v (V.mvB rfl) rfl 75 rfl rfl ?_
  refine HO.spl (fun hb29 => ?_) (fun hb29 => (by simp [n6] at hb29))
  refine HO.v (V.mvS rfl) rfl 76 rfl rfl ?_
  refine HO.e (V.buildSlice [.const (.int .u8 1)] (cs := #[.int .u8 1]) T.el30 T.sz5 T.zr5 rfl rfl rfl ⟨rfl, trivial⟩ rfl) rfl 77 rfl rfl ?_
  refine HO.v (V.build (cs := #[.int .i64 1, .int .i64 0, .slice (some ⟨(h7.push (.cells #[.int .u8 1] 5 (0, 0))).size, 0, none⟩) 1 1]) T.zr39 T.pl39 rfl) rfl 78 rfl rfl ?_
  refine HO.e (V.buildSlice [.tmp 78] (cs := #[.int .i64 1, .int .i64 0, .slice (some ⟨(h7.push (.cells #[.int .u8 1] 5 (0, 0))).size, 0, none⟩) 1 1]) T.el36 T.sz39 T.zr39 rfl rfl rfl ⟨rfl, trivial⟩ rfl) rfl 79 rfl rfl ?_
  refine HO.c OpC.func rfl 80 rfl rfl (sameFrames_any (Lb := [⟨1, 0, [1]⟩]) (((f7.ext (Ext.push _ _)).ext (Ext.push _ _)).ext (Ext.push _ _)) ⟨[⟨1, 0, (some ⟨(h7.push (.cells #[.int .u8 1] 5 (0, 0))).size, 0, none⟩, 1, 1)⟩], sl_new (n := 1) rfl (by omega), All2.cons ⟨rfl, rfl, (sl_new (n := 1) rfl (by omega)).ext (Ext.push _ _)⟩ All2.nil⟩) ?_
  rintro _ _ ⟨rfl, rfl⟩
  refine HO.v (V.pick_t rfl rfl) rfl 81 rfl rfl ?_
  refine HO.v (V.mvB rfl) rfl 82 rfl rfl ?_
  refine HO.spl (fun hb36 => ?_) (fun hb36 => (by exfalso; revert hb36; decide))
  refine HO.v (V.mvP rfl) rfl 83 rfl rfl ?_
  refine HO.c OpC.func rfl 84 rfl rfl (pages_any (((r7.ext (Ext.push _ _)).ext (Ext.push _ _)).ext (Ext.push _ _))) ?_
  rintro _ h8 ow8
  refine HO.e (V.buildSlice [.const (.int .i64 4), .const (.int .i64 3)] (cs := #[.int .i64 4, .int .i64 3]) T.el31 T.sz3 T.zr3 rfl rfl rfl ⟨rfl, rfl, trivial⟩ rfl) rfl 85 rfl rfl ?_
  refine HO.c OpC.func rfl 86 rfl rfl (sameInts_any (lb := [4, 3]) (ow8.sl.ext (Ext.push _ _)) (sl_new (n := 2) rfl (by omega))) ?_
  rintro _ _ ⟨rfl, rfl⟩
  refine HO.v (V.pick_t rfl rfl) rfl 87 rfl rfl ?_
  refine HO.v (V.mvB rfl) rfl 88 rfl rfl ?_
  refine HO.spl (fun hb42 => ?_) (fun hb42 => (by exfalso; revert hb42; decide))
  refine HO.v (V.mvB rfl) rfl 89 rfl rfl ?_
  refine HO.v (V.not rfl) rfl 90 rfl rfl ?_
  refine HO.v (V.pick_t rfl rfl) rfl 91 rfl rfl ?_
  refine HO.v (V.mvB rfl) rfl 92 rfl rfl ?_
  refine HO.spl (fun hb46 => ?_) (fun hb46 => (by simp at hb46))
  refine HO.v (V.mvP rfl) rfl 93 rfl rfl ?_
  refine HO.c OpC.func rfl 94 rfl rfl (put_nil 1 (none, 0, 0) true) ?_
  rintro _ _ ⟨rfl, rfl⟩
  refine HO.v (V.len rfl T.el36) rfl 95 rfl rfl ?_
  refine HO.v (V.eql rfl rfl rfl) rfl 96 rfl rfl ?_
  refine HO.v (V.pick_t rfl rfl) rfl 97 rfl rfl ?_
  refine HO.v (V.mvB rfl) rfl 98 rfl rfl ?_
  refine HO.spl (fun hb52 => ?_) (fun hb52 => (by simp at hb52))
  refine HO.v (V.mvP rfl) rfl 99 rfl rfl ?_
  refine HO.c OpC.func rfl 100 rfl rfl copy_nil ?_
  rintro _ _ ⟨rfl, rfl⟩
  refine HO.v (V.ptrEqNil rfl rfl T.pt23) rfl 101 rfl rfl ?_
  refine HO.v (V.pick_t rfl rfl) rfl 102 rfl rfl ?_
  refine HO.v (V.mvB rfl) rfl 103 rfl rfl ?_
  refine HO.spl (fun hb57 => ?_) (fun hb57 => (by simp at hb57))
  refine HO.v (V.mvP rfl) rfl 104 rfl rfl ?_
  refine HO.c OpC.func rfl 105 rfl rfl pages_nil ?_
  rintro _ _ ⟨rfl, rfl⟩
  refine HO.v (V.len rfl T.el31) rfl 106 rfl rfl ?_
  refine HO.v (V.eql rfl rfl rfl) rfl 107 rfl rfl ?_
  refine HO.v (V.pick_t rfl rfl) rfl 108 rfl rfl ?_
  refine HO.v (V.mvB rfl) rfl 109 rfl rfl ?_
  refine HO.spl (fun hb63 => ?_) (fun hb63 => (by simp at hb63))
  refine HO.v (V.mvP rfl) rfl 110 rfl rfl ?_
  refine HO.c OpC.func rfl 111 rfl rfl dirty_nil ?_
  rintro _ _ ⟨rfl, rfl⟩
  refine HO.v (V.len rfl T.el36) rfl 112 rfl rfl ?_
  refine HO.v (V.eql rfl rfl rfl) rfl 113 rfl rfl ?_
  refine HO.v (V.pick_t rfl rfl) rfl 114 rfl rfl ?_
  refine HO.v (V.asB rfl) rfl 0 rfl rfl ?_
  refine HO.nil ?_
  refine hK12 _ _ ?_
  refine HW.ret ?_
  refine ⟨.bool true, Res.one rfl rfl, rfl, ((((x7.1.trans (Ext.push _ _)).trans (Ext.push _ _)).trans (Ext.push _ _)).trans ow8.ext).trans (Ext.push _ _)⟩

end Go.Proofs.Ytdbiggfnnhmpiaa
