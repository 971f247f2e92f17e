/- The call of CacheLatest returns true and turns nothing old. Conditions: the bytes are readable. -/
import Derived.Test.YtdbiggfnnhmpiaaCaLive
import Derived.Test.YtdbiggfnnhmpiaaCaPure
namespace Go.Proofs.Ytdbiggfnnhmpiaa
open Go Go.HL

def bno (no : Int) : UInt8 := UInt8.ofNat no.toNat
theorem byte_of {a : Int} (h : 0 ≤ a ∧ a ≤ 255) : IntKind.u8.wrap a = ((bno a).toNat : Int) := by
  rw [IntWalk.u8_in _ h]
  unfold bno
  simp
  omega
theorem mem_next {x : Int} {l : List Int} {j : Nat} (h : j < l.length) : decide (x ∈ l.take (j + 1)) = (decide (x ∈ l.take j) || decide (l[j] = x)) := by
  have hm : x ∈ l.take (j + 1) ↔ x ∈ l.take j ∨ l[j] = x := by
    rw [take_next h, List.mem_append, List.mem_singleton]
    exact ⟨fun h => h.imp id Eq.symm, fun h => h.imp id Eq.symm⟩
  rw [show decide (x ∈ l.take (j + 1)) = decide (x ∈ l.take j ∨ l[j] = x) from decide_eq_decide.2 hm]
  exact Bool.decide_or _ _
theorem hit_some_iff (no : Int) (L : List AP) : (hit no L).isSome = decide (no ∈ nos L) := by
  by_cases h : no ∈ nos L
  · obtain ⟨x, hx⟩ := hit_mem h
    rw [hx]; simp [h]
  · rw [hit_not h]; simp [h]
theorem bytes_cell {h : Heap} {a : Option Addr} {n c : Nat} {l : List UInt8} (r : Sl h 1 (.slice a n c) (l.map bv)) {j : Nat} (hj : j < l.length) : ∃ b o, a = some ⟨b, o, none⟩ ∧ cell h b (o + j) = some (.int .u8 l[j].toNat) := by
  have hl := r.cells.len
  obtain ⟨b, o, rfl, hc⟩ := r.cells.pos (by simp at hl; omega)
  exact ⟨b, o, rfl, hc j _ (by simp [hj, bv])⟩
theorem ints_cell {h : Heap} {a : Option Addr} {n c : Nat} {l : List Int} (r : Sl h 1 (.slice a n c) (l.map iv)) {j : Nat} (hj : j < l.length) : ∃ b o, a = some ⟨b, o, none⟩ ∧ cell h b (o + j) = some (.int .i64 l[j]) := by
  have hl := r.cells.len
  obtain ⟨b, o, rfl, hc⟩ := r.cells.pos (by simp at hl; omega)
  exact ⟨b, o, rfl, hc j _ (by simp [hj, iv])⟩

set_option maxRecDepth 100000 in
theorem latest_any {h : Heap} {room : UInt8} {lv : SV} {l : List UInt8} (hl : Bytes h (sv lv) l) :
    HC Try.prog 4 #[bv room, sv lv] h (fun v h' => v = .bool true ∧ Ext h h') := by
  obtain ⟨a, n, c⟩ := lv
  have hl0 : Sl h 1 (.slice a n c) (l.map bv) := hl
  have hln : l.length = n := by simpa using hl0.cells.len
  have hnb := hl0.bd
  obtain ⟨N, hN0⟩ : ∃ N, N = room.toNat % 8 + 1 := ⟨_, rfl⟩
  have hN : (room.toNat : Int) % 8 + 1 = (N : Int) := by omega
  refine HC.body Try.func4 rfl (by kernel_rfl) 161 rfl rfl ?_
  refine HW.seq fun K1 hK1 => ?_
  refine HW.region ?_   -- region 0 law.go:142
  refine HO.v (V.asB rfl) rfl 4 rfl rfl ?_
  refine HO.nil ?_
  refine hK1 _ _ ?_
  refine HW.seq fun K2 hK2 => ?_
  refine HW.region ?_   -- region 1 law.go:143
  refine HO.v (V.mvI rfl) rfl 22 rfl rfl ?_
  refine HO.v (V.rem rfl rfl (by omega)) rfl 23 rfl rfl ?_
  refine HO.v (V.convE rfl T.in3 T.in5 (b := (room.toNat : Int) % 8) (IntWalk.i64_in _ (by omega))) rfl 24 rfl rfl ?_
  refine HO.v (V.add rfl rfl (by omega)) rfl 25 rfl rfl ?_
  refine HO.v (V.asI rfl) rfl 5 rfl rfl ?_
  refine HO.nil ?_
  refine hK2 _ _ ?_
  refine HW.seq fun K3 hK3 => ?_
  rw [hN]
  refine HW.region ?_   -- region 2 law.go:144
  refine HO.v (V.mvI rfl) rfl 27 rfl rfl ?_
  refine HO.c OpC.func rfl 28 rfl rfl new_any ?_
  rintro _ h1 hn1
  rcases hn1 with ⟨hbad, _⟩ | ⟨_, p, F1, rfl, r1, e1, f1⟩
  · exact absurd ⟨by omega, by omega⟩ hbad
  refine HO.v (V.mvU rfl) rfl 26 rfl rfl ?_
  refine HO.v (V.extract rfl rfl) rfl 29 rfl rfl ?_
  refine HO.v (V.extract rfl rfl) rfl 30 rfl rfl ?_
  refine HO.v (V.asP rfl) rfl 6 rfl rfl ?_
  refine HO.v (V.asI rfl) rfl 7 rfl rfl ?_
  refine HO.nil ?_
  refine hK3 _ _ ?_
  refine HW.seq fun K4 hK4 => ?_
  refine HW.seq fun K5 hK5 => ?_
  refine HW.region ?_   -- region 3 law.go:145
  refine HO.v (V.mvP rfl) rfl 31 rfl rfl ?_
  refine HO.v (V.ptrEqNil rfl rfl T.pt23) rfl 32 rfl rfl ?_
  refine HO.v (V.mvB rfl) rfl 33 rfl rfl ?_
  refine HO.spl (fun hb2 => (by simp at hb2)) (fun hb2 => ?_)
  refine HO.v (V.mvI rfl) rfl 34 rfl rfl ?_
  refine HO.v (V.neq rfl rfl rfl) rfl 35 rfl rfl ?_
  refine HO.v (V.pick_f rfl rfl) rfl 36 rfl rfl ?_
  refine HO.v (V.mvB rfl) rfl 37 rfl rfl ?_
  refine HO.spl (fun hb6 => (by simp at hb6)) (fun hb6 => ?_)
  refine HO.v (V.mvS rfl) rfl 38 rfl rfl ?_
  refine HO.v (V.len rfl T.el30) rfl 39 rfl rfl ?_
  refine HO.v (V.gtr rfl rfl rfl) rfl 40 rfl rfl ?_
  refine HO.v (V.pick_f rfl rfl) rfl 41 rfl rfl ?_
  refine HO.nil ?_
  refine hK5 _ _ ?_
  refine HW.cond rfl (fun hc => ?_) (fun hc => ?_)
  · -- then
    refine HW.seq fun K6 hK6 => ?_
    refine HW.region ?_   -- region 4 law.go:146
    refine HO.c OpC.func rfl 42 rfl rfl live_any ?_
    rintro _ h2 ⟨rfl, x2⟩
    refine HO.v (V.mvB rfl) rfl 43 rfl rfl ?_
    refine HO.spl (fun hb1 => ?_) (fun hb1 => (by simp at hb1))
    refine HO.v (V.mvP rfl) rfl 44 rfl rfl ?_
    refine HO.v (V.ptrNeNil rfl rfl T.pt23) rfl 45 rfl rfl ?_
    refine HO.v (V.pick_t rfl rfl) rfl 46 rfl rfl ?_
    refine HO.v (V.asB rfl) rfl 4 rfl rfl ?_
    refine HO.nil ?_
    refine hK6 _ _ ?_
    refine HW.ret ?_
    refine ⟨.bool true, Res.one rfl rfl, rfl, e1.trans x2⟩
  refine HW.skip ?_
  refine hK4 _ _ ?_
  refine HW.seq fun K7 hK7 => ?_
  refine HW.seq fun K8 hK8 => ?_
  have hn200 := of_decide_eq_false hc
  refine HW.region ?_   -- region 5 law.go:148
  refine HO.v (V.asI rfl) rfl 8 rfl rfl ?_
  refine HO.nil ?_
  refine hK8 _ _ ?_
  refine HW.block ?_   -- block 0
  refine HW.loopm (fun m s hh => ∃ k : Nat, Has s [(1, .slice a n c), (5, .int .i64 (N : Int)), (6, ptr p), (8, .int .i64 k)] ∧ ∃ F, CRep hh F p N (askL N (l.take k)) ∧ Ext h hh ∧ (∀ b, F b → h.size ≤ b) ∧ k ≤ n ∧ m = n - k) ?_ ?_
  · exact ⟨_, 0, ⟨rfl, rfl, rfl, rfl, trivial⟩, F1, r1, e1, f1, by omega, rfl⟩
  rintro m s hA ⟨k, hs, F, r, xA, fA, hkn, rfl⟩ J9 hJ9
  refine HW.frame hs fun τ => ?_
  refine HW.seq fun K10 hK10 => ?_
  refine HW.seq fun K11 hK11 => ?_
  refine HW.region ?_   -- region 6 law.go:148
  refine HO.v (V.mvI rfl) rfl 47 rfl rfl ?_
  refine HO.v (V.mvS rfl) rfl 48 rfl rfl ?_
  refine HO.v (V.len rfl T.el30) rfl 49 rfl rfl ?_
  refine HO.v (V.lss rfl rfl rfl) rfl 50 rfl rfl ?_
  refine HO.nil ?_
  refine hK11 _ _ ?_
  refine HW.condr rfl (fun hc => ?_) (fun hc => ?_)
  · -- else
    refine HW.exit ?_
    refine hK7 _ _ ?_
    refine HW.seq fun K12 hK12 => ?_
    have hkn2 := of_decide_eq_false hc
    rw [List.take_of_length_le (by omega)] at r
    have hN1 : 1 ≤ N := by omega
    have hnos := askL_nos hN1 l l.length (Nat.le_refl _)
    have hall := askL_all (n := N) l l.length (Nat.le_refl _)
    rw [List.take_length] at hnos hall
    obtain ⟨L, hL⟩ : ∃ L, L = askL N l := ⟨_, rfl⟩
    obtain ⟨rs, hrs⟩ : ∃ rs, rs = (l.map pno).reverse := ⟨_, rfl⟩
    rw [← hL] at r hnos hall
    rw [← hrs] at hnos
    have hrl : rs.length = n := by rw [hrs]; simp; omega
    refine HW.region ?_   -- region 12 law.go:154
    refine HO.v (V.asS rfl) rfl 12 rfl rfl ?_
    refine HO.nil ?_
    refine hK12 _ _ ?_
    refine HW.seq fun K13 hK13 => ?_
    refine HW.seq fun K14 hK14 => ?_
    refine HW.region ?_   -- region 13 law.go:155
    refine HO.v (V.mvS rfl) rfl 74 rfl rfl ?_
    refine HO.v (V.len rfl T.el30) rfl 75 rfl rfl ?_
    refine HO.v (V.sub rfl rfl (by omega)) rfl 76 rfl rfl ?_
    refine HO.v (V.asI rfl) rfl 13 rfl rfl ?_
    refine HO.nil ?_
    refine hK14 _ _ ?_
    refine HW.block ?_   -- block 2
    refine HW.loopm (fun m s hh => ∃ (k : Nat) (wv : SV), Has s [(1, .slice a n c), (5, .int .i64 (N : Int)), (6, ptr p), (12, sv wv), (13, .int .i64 ((n : Int) - 1 - k))] ∧ Own hA hh 1 3 (sv wv) ((dd (rs.take k)).map iv) ∧ (dd (rs.take k)).length ≤ N ∧ k ≤ n ∧ m = n - k) ?_ ?_
    · exact ⟨_, 0, (none, 0, 0), ⟨rfl, rfl, rfl, rfl, (by show Value.int _ _ = Value.int _ _; congr 1; omega), trivial⟩, Own.nil (Ext.refl _) _ _, by simp [dd], by omega, rfl⟩
    rintro m s hB ⟨k, wv, hs, ow, hwl, hkn, rfl⟩ J15 hJ15
    refine HW.frame hs fun τ => ?_
    refine HW.seq fun K16 hK16 => ?_
    have hwn : (dd (rs.take k)).length = wv.2.1 := by
      obtain ⟨wa, wn, wc⟩ := wv
      have h1 : Cap hB 1 3 (.slice wa wn wc) ((dd (rs.take k)).map iv) := ow.cap
      simpa using h1.sl.cells.len
    refine HW.seqc (fun s hh => ∃ bb : Bool, Has s [(1, .slice a n c), (5, .int .i64 (N : Int)), (6, ptr p), (12, sv wv), (13, .int .i64 ((n : Int) - 1 - k)), (84, .bool bb)] ∧ (bb = true ↔ (k < n ∧ (dd (rs.take k)).length < N)) ∧ hB = hh) ?_ ?_
    ·
      refine HW.region ?_   -- region 14 law.go:155
      refine HO.v (V.mvI rfl) rfl 77 rfl rfl ?_
      refine HO.v (V.geq rfl rfl rfl) rfl 78 rfl rfl ?_
      refine HO.v (V.mvB rfl) rfl 79 rfl rfl ?_
      refine HO.spl (fun hb2 => ?_) (fun hb2 => ?_)
      · -- true
        refine HO.v (V.mvS rfl) rfl 80 rfl rfl ?_
        refine HO.v (V.len rfl T.el31) rfl 81 rfl rfl ?_
        refine HO.v (V.mvI rfl) rfl 82 rfl rfl ?_
        refine HO.v (V.lss rfl rfl rfl) rfl 83 rfl rfl ?_
        refine HO.v (V.pick_t rfl rfl) rfl 84 rfl rfl ?_
        refine HO.nil ?_
        refine ⟨_, ⟨rfl, rfl, rfl, rfl, rfl, rfl, trivial⟩, ?_, rfl⟩
        have h1 := of_decide_eq_true hb2
        rw [decide_eq_true_eq]
        constructor
        · intro h2; omega
        · intro h2; omega
      · -- false
        refine HO.no rfl 80 rfl rfl ?_
        refine HO.no rfl 81 rfl rfl ?_
        refine HO.no rfl 82 rfl rfl ?_
        refine HO.no rfl 83 rfl rfl ?_
        refine HO.v (V.pick_f rfl rfl) rfl 84 rfl rfl ?_
        refine HO.nil ?_
        refine ⟨_, ⟨rfl, rfl, rfl, rfl, rfl, rfl, trivial⟩, ?_, rfl⟩
        have h1 := of_decide_eq_false hb2
        constructor
        · intro h2; cases h2
        · intro h2; omega
    rintro s hh ⟨bb, hs, hbb, rfl⟩
    refine HW.frame hs fun τ => ?_
    refine HW.condr rfl (fun hc => ?_) (fun hc => ?_)
    · -- else
      refine HW.exit ?_
      refine hK13 _ _ ?_
      refine HW.seq fun K18 hK18 => ?_
      refine HW.seq fun K19 hK19 => ?_
      have hW : nos L = dd (rs.take k) := by
        have h1 : ¬ (k < n ∧ (dd (rs.take k)).length < N) := fun h2 => by rw [hbb.2 h2] at hc; cases hc
        obtain ⟨t, ht⟩ := dd_take rs k
        rw [hnos]
        by_cases h2 : k < n
        · have h3 : (dd (rs.take k)).length = N := by omega
          rw [ht, List.take_append_of_le_length (by omega), List.take_of_length_le (by omega)]
        · rw [List.take_of_length_le (by omega : rs.length ≤ k)] at hwl ⊢
          rw [List.take_of_length_le hwl]
      obtain ⟨l2, hl2⟩ : ∃ l2, l2 = dd (rs.take k) := ⟨_, rfl⟩
      rw [← hl2] at hW ow hwl
      have rB := r.ext ow.ext
      refine HW.region ?_   -- region 23 law.go:164
      refine HO.v (V.mvP rfl) rfl 115 rfl rfl ?_
      refine HO.c OpC.func rfl 116 rfl rfl (pages_any rB) ?_
      rintro _ h3 ow3
      refine HO.v (V.mvS rfl) rfl 117 rfl rfl ?_
      refine HO.c OpC.func rfl 118 rfl rfl (sameInts_any (la := nos L) (lb := l2) ow3.sl (ow.sl.ext ow3.ext)) ?_
      rintro _ h3b ⟨rfl, e3⟩
      obtain rfl := e3.symm
      have hsame : decide (nos L = l2) = true := decide_eq_true hW
      have x3 := (xA.trans ow.ext).trans ow3.ext
      have rC := rB.ext ow3.ext
      have owC := ow.sl.ext ow3.ext
      refine HO.v (V.not rfl) rfl 119 rfl rfl ?_
      refine HO.nil ?_
      refine hK19 _ _ ?_
      refine HW.cond rfl (fun hc => ?_) (fun hc => ?_)
      · -- then
        refine HW.seq fun K20 hK20 => ?_
        refine HW.region ?_   -- region 24 law.go:165
        refine HO.v (V.asB rfl) rfl 4 rfl rfl ?_
        refine HO.nil ?_
        refine hK20 _ _ ?_
        refine HW.ret ?_
        refine ⟨.bool false, Res.one rfl rfl, (by rw [hsame] at hc; simp at hc)⟩
      refine HW.skip ?_
      refine hK18 _ _ ?_
      refine HW.seq fun K21 hK21 => ?_
      refine HW.seq fun K22 hK22 => ?_
      refine HW.region ?_   -- region 25 law.go:167
      refine HO.v (V.asI rfl) rfl 17 rfl rfl ?_
      refine HO.nil ?_
      refine hK22 _ _ ?_
      have hwn2 : l2.length = wv.2.1 := by
        obtain ⟨wa, wn, wc⟩ := wv
        have h1 : Sl h3 1 (.slice wa wn wc) (l2.map iv) := owC
        simpa using h1.cells.len
      refine HW.block ?_   -- block 6
      refine HW.loopm (fun m s hh => ∃ k : Nat, Has s [(6, ptr p), (12, sv wv), (17, .int .i64 ((k : Int) + 1))] ∧ Ext h3 hh ∧ k ≤ 12 ∧ m = 12 - k) ?_ ?_
      · exact ⟨_, 0, ⟨rfl, rfl, rfl, trivial⟩, Ext.refl _, by omega, rfl⟩
      rintro m s hD ⟨k, hs, xD, hk12, rfl⟩ J23 hJ23
      refine HW.frame hs fun τ => ?_
      refine HW.seq fun K24 hK24 => ?_
      refine HW.seq fun K25 hK25 => ?_
      refine HW.region ?_   -- region 26 law.go:167
      refine HO.v (V.mvI rfl) rfl 120 rfl rfl ?_
      refine HO.v (V.leq rfl rfl rfl) rfl 121 rfl rfl ?_
      refine HO.nil ?_
      refine hK25 _ _ ?_
      refine HW.condr rfl (fun hc => ?_) (fun hc => ?_)
      · -- else
        refine HW.exit ?_
        refine hK21 _ _ ?_
        refine HW.seq fun K26 hK26 => ?_
        refine HW.region ?_   -- region 36 law.go:177
        refine HO.c OpC.func rfl 160 rfl rfl live_any ?_
        rintro _ h5 ⟨rfl, x5⟩
        refine HO.v (V.asB rfl) rfl 4 rfl rfl ?_
        refine HO.nil ?_
        refine hK26 _ _ ?_
        refine HW.ret ?_
        refine ⟨.bool true, Res.one rfl rfl, rfl, ((x3.trans xD).trans x5)⟩
      refine HW.skip ?_
      refine hK24 _ _ ?_
      refine HW.seq fun K27 hK27 => ?_
      have hk12b := of_decide_eq_true hc
      refine HW.block ?_   -- block 7
      refine HW.seq fun K28 hK28 => ?_
      refine HW.region ?_   -- region 28 law.go:168
      refine HO.v (V.asB rfl) rfl 18 rfl rfl ?_
      refine HO.nil ?_
      refine hK28 _ _ ?_
      refine HW.seq fun K29 hK29 => ?_
      refine HW.seq fun K30 hK30 => ?_
      refine HW.region ?_   -- region 29 law.go:169
      refine HO.v (V.asI rfl) rfl 19 rfl rfl ?_
      refine HO.nil ?_
      refine hK30 _ _ ?_
      refine HW.block ?_   -- block 8
      refine HW.loopm (fun m s hh => ∃ (j : Nat) (hd : Bool), Has s [(6, ptr p), (12, sv wv), (17, .int .i64 ((k : Int) + 1)), (18, .bool hd), (19, .int .i64 j)] ∧ hd = decide ((k : Int) + 1 ∈ l2.take j) ∧ hD = hh ∧ j ≤ l2.length ∧ m = l2.length - j) ?_ ?_
      · exact ⟨_, 0, false, ⟨rfl, rfl, rfl, rfl, rfl, trivial⟩, by simp, rfl, by omega, rfl⟩
      rintro m s hF ⟨j, hd, hs, hhd, rfl, hjl, rfl⟩ J31 hJ31
      refine HW.frame hs fun τ => ?_
      refine HW.seq fun K32 hK32 => ?_
      refine HW.seq fun K33 hK33 => ?_
      refine HW.region ?_   -- region 30 law.go:169
      refine HO.v (V.mvI rfl) rfl 124 rfl rfl ?_
      refine HO.v (V.mvS rfl) rfl 125 rfl rfl ?_
      refine HO.v (V.len rfl T.el31) rfl 126 rfl rfl ?_
      refine HO.v (V.lss rfl rfl rfl) rfl 127 rfl rfl ?_
      refine HO.nil ?_
      refine hK33 _ _ ?_
      refine HW.condr rfl (fun hc => ?_) (fun hc => ?_)
      · -- else
        refine HW.exit ?_
        refine hK29 _ _ ?_
        refine HW.seq fun K34 hK34 => ?_
        have hj2 := of_decide_eq_false hc
        rw [List.take_of_length_le (by omega)] at hhd
        refine HW.region ?_   -- region 33 law.go:172
        refine HO.v (V.mvP rfl) rfl 140 rfl rfl ?_
        refine HO.c OpC.func rfl 141 rfl rfl (copy_any (rC.ext xD)) ?_
        rintro _ h6 ⟨p6, F6, rfl, r6, x6, f6⟩
        refine HO.v (V.mvI rfl) rfl 142 rfl rfl ?_
        refine HO.c OpC.func rfl 143 rfl rfl (get_any r6 ((k : Int) + 1)) ?_
        rintro _ h7 ⟨g, F7, rfl, r7, s7, g7, gf7⟩
        have x7 := s7.above x6 f6
        have hok : (hit ((k : Int) + 1) L).isSome = hd := by rw [hit_some_iff, hW, hhd]
        refine HO.v (V.mvU rfl) rfl 139 rfl rfl ?_
        refine HO.v (V.extract rfl rfl) rfl 144 rfl rfl ?_
        refine HO.v (V.extract rfl rfl) rfl 145 rfl rfl ?_
        refine HO.v (V.asS rfl) rfl 20 rfl rfl ?_
        refine HO.v (V.asB rfl) rfl 21 rfl rfl ?_
        refine HO.nil ?_
        refine hK34 _ _ ?_
        refine HW.seqc (fun s hh => Has s [(6, ptr p), (12, sv wv), (17, .int .i64 ((k : Int) + 1)), (159, .bool false)] ∧ Ext hD hh) ?_ ?_   -- the ways meet
        ·
          refine HW.region ?_   -- region 34 law.go:173
          refine HO.v (V.mvB rfl) rfl 146 rfl rfl ?_
          refine HO.v (V.mvB rfl) rfl 147 rfl rfl ?_
          refine HO.v (V.boNeq rfl rfl T.bo4 rfl) rfl 148 rfl rfl ?_
          refine HO.v (V.mvB rfl) rfl 149 rfl rfl ?_
          refine HO.spl (fun hb3 => (by exfalso; rw [hok] at hb3; simp at hb3)) (fun hb3 => ?_)
          refine HO.v (V.mvB rfl) rfl 150 rfl rfl ?_
          refine HO.v (V.mvB rfl) rfl 151 rfl rfl ?_
          refine HO.spl (fun hb5 => ?_) (fun hb5 => ?_)
          · -- true
            refine HO.v (V.mvS rfl) rfl 152 rfl rfl ?_
            refine HO.v (V.mvI rfl) rfl 153 rfl rfl ?_
            refine HO.v (V.convE rfl T.in5 T.in3 (b := ((bno ((k : Int) + 1)).toNat : Int)) (byte_of (by omega))) rfl 154 rfl rfl ?_
            refine HO.e (V.buildSlice [.tmp 154] (cs := #[.int .u8 ((bno ((k : Int) + 1)).toNat : Int)]) T.el30 T.sz5 T.zr5 rfl rfl rfl ⟨rfl, trivial⟩ rfl) rfl 155 rfl rfl ?_
            refine HO.c OpC.func rfl 156 rfl rfl (same_any (lb := [bno ((k : Int) + 1)]) (g7.sl.ext (Ext.push _ _)) (sl_new (n := 1) rfl (by omega))) ?_
            rintro _ _ ⟨rfl, rfl⟩
            have hsm : decide (gotL ((k : Int) + 1) L = [bno ((k : Int) + 1)]) = true := by
              rw [decide_eq_true_eq]
              cases e : hit ((k : Int) + 1) L with
              | none => rw [e] at hb5; simp at hb5
              | some x =>
                unfold gotL
                rw [e]
                have h1 := hall x (hit_some e).1
                rw [(hit_some e).2] at h1
                exact h1
            rw [hsm]
            refine HO.v (V.not rfl) rfl 157 rfl rfl ?_
            refine HO.v (V.pick_t rfl rfl) rfl 158 rfl rfl ?_
            refine HO.v (V.pick_f rfl rfl) rfl 159 rfl rfl ?_
            refine HO.nil ?_
            refine ⟨⟨rfl, rfl, rfl, rfl, trivial⟩, x7.1.trans (Ext.push _ _)⟩
          · -- false
            refine HO.no rfl 152 rfl rfl ?_
            refine HO.no rfl 153 rfl rfl ?_
            refine HO.no rfl 154 rfl rfl ?_
            refine HO.no rfl 155 rfl rfl ?_
            refine HO.no rfl 156 rfl rfl ?_
            refine HO.no rfl 157 rfl rfl ?_
            refine HO.v (V.pick_f rfl rfl) rfl 158 rfl rfl ?_
            refine HO.v (V.pick_f rfl rfl) rfl 159 rfl rfl ?_
            refine HO.nil ?_
            refine ⟨⟨rfl, rfl, rfl, rfl, trivial⟩, x7.1⟩
        rintro s hE ⟨hs, xE⟩
        refine HW.frame hs fun τ => ?_
        refine HW.cond rfl (fun hc => ?_) (fun hc => ?_)
        · -- then
          refine HW.seq fun K36 hK36 => ?_
          refine HW.region ?_   -- region 35 law.go:174
          refine HO.v (V.asB rfl) rfl 4 rfl rfl ?_
          refine HO.nil ?_
          refine hK36 _ _ ?_
          refine HW.ret ?_
          refine ⟨.bool false, Res.one rfl rfl, (by simp at hc)⟩
        refine HW.skip ?_
        refine hK27 _ _ ?_
        refine HW.region ?_   -- region 27 law.go:167
        refine HO.v (V.mvI rfl) rfl 122 rfl rfl ?_
        refine HO.v (V.add rfl rfl (by omega)) rfl 123 rfl rfl ?_
        refine HO.v (V.asI rfl) rfl 17 rfl rfl ?_
        refine HO.nil ?_
        refine hJ23 _ _ _ ⟨k + 1, ⟨rfl, rfl, rfl, trivial⟩, xD.trans xE, by omega, rfl⟩ (by omega)
      refine HW.skip ?_
      refine hK32 _ _ ?_
      refine HW.seq fun K37 hK37 => ?_
      have hj2 : j < l2.length := by have := of_decide_eq_true hc; omega
      have owD := owC.ext xD
      have hnx := mem_next (x := (k : Int) + 1) hj2
      obtain ⟨wa, wn, wc⟩ := wv
      obtain ⟨b, o, rfl, hcel⟩ := ints_cell owD hj2
      refine HW.block ?_   -- block 9
      refine HW.region ?_   -- region 32 law.go:170
      refine HO.v (V.mvB rfl) rfl 130 rfl rfl ?_
      refine HO.v (V.mvB rfl) rfl 131 rfl rfl ?_
      refine HO.spl (fun hb1 => ?_) (fun hb1 => ?_)
      · -- true
        refine HO.no rfl 132 rfl rfl ?_
        refine HO.no rfl 133 rfl rfl ?_
        refine HO.no rfl 134 rfl rfl ?_
        refine HO.no rfl 135 rfl rfl ?_
        refine HO.no rfl 136 rfl rfl ?_
        refine HO.no rfl 137 rfl rfl ?_
        refine HO.v (V.pick_t rfl rfl) rfl 138 rfl rfl ?_
        refine HO.v (V.asB rfl) rfl 18 rfl rfl ?_
        refine HO.nil ?_
        refine hK37 _ _ ?_
        refine HW.region ?_   -- region 31 law.go:169
        refine HO.v (V.mvI rfl) rfl 128 rfl rfl ?_
        refine HO.v (V.add rfl rfl (by omega)) rfl 129 rfl rfl ?_
        refine HO.v (V.asI rfl) rfl 19 rfl rfl ?_
        refine HO.nil ?_
        refine hJ31 _ _ _ ⟨j + 1, true, ⟨rfl, rfl, rfl, rfl, rfl, trivial⟩, (by rw [hnx, ← hhd, hb1]; rfl), rfl, by omega, rfl⟩ (by omega)
      · -- false
        refine HO.v (V.mvS rfl) rfl 132 rfl rfl ?_
        refine HO.v (V.mvI rfl) rfl 133 rfl rfl ?_
        refine HO.v (V.indexAddr1 rfl rfl T.el31 T.sz3 (by omega)) rfl 134 rfl rfl ?_
        refine HO.v (V.load rfl (load_one T.ag3 (v := .int .i64 l2[j]) hcel)) rfl 135 rfl rfl ?_
        refine HO.v (V.mvI rfl) rfl 136 rfl rfl ?_
        refine HO.v (V.eql rfl rfl rfl) rfl 137 rfl rfl ?_
        refine HO.v (V.pick_f rfl rfl) rfl 138 rfl rfl ?_
        refine HO.v (V.asB rfl) rfl 18 rfl rfl ?_
        refine HO.nil ?_
        refine hK37 _ _ ?_
        refine HW.region ?_   -- region 31 law.go:169
        refine HO.v (V.mvI rfl) rfl 128 rfl rfl ?_
        refine HO.v (V.add rfl rfl (by omega)) rfl 129 rfl rfl ?_
        refine HO.v (V.asI rfl) rfl 19 rfl rfl ?_
        refine HO.nil ?_
        refine hJ31 _ _ _ ⟨j + 1, decide (l2[j] = (k : Int) + 1), ⟨rfl, rfl, rfl, rfl, rfl, trivial⟩, (by rw [hnx, ← hhd, hb1]; rfl), rfl, by omega, rfl⟩ (by omega)
    refine HW.skip ?_
    refine hK16 _ _ ?_
    refine HW.seq fun K38 hK38 => ?_
    have hkb := hbb.1 hc
    have hix : (n : Int) - 1 - k = ((n - 1 - k : Nat) : Int) := by omega
    have hkl : n - 1 - k < l.length := by omega
    obtain ⟨l2, hl2⟩ : ∃ l2, l2 = dd (rs.take k) := ⟨_, rfl⟩
    have hxk : rs[k]'(by omega) = pno l[n - 1 - k] := by
      have h1 : rs[k]? = some (pno l[n - 1 - k]) := by
        rw [hrs, List.getElem?_reverse (by simp; omega)]
        simp only [List.length_map, hln, List.getElem?_map]
        rw [List.getElem?_eq_getElem hkl]; rfl
      rw [List.getElem?_eq_getElem (by omega)] at h1
      exact Option.some.inj h1
    have hnext : dd (rs.take (k + 1)) = if pno l[n - 1 - k] ∈ l2 then l2 else l2 ++ [pno l[n - 1 - k]] := by
      rw [take_next (by omega), dd_snoc, hxk, ← hl2]
      have : pno l[n - 1 - k] ∈ rs.take k ↔ pno l[n - 1 - k] ∈ l2 := by rw [hl2, mem_dd]
      by_cases h1 : pno l[n - 1 - k] ∈ l2
      · rw [if_pos h1, if_pos (this.2 h1)]
      · rw [if_neg h1, if_neg (fun h2 => h1 (this.1 h2))]
    rw [← hl2] at ow hwl hwn hkb
    obtain ⟨ab, ao, rfl, hcel⟩ := bytes_cell (hl0.ext (xA.trans ow.ext)) hkl
    rw [hix]
    refine HW.block ?_   -- block 3
    refine HW.seq fun K39 hK39 => ?_
    refine HW.region ?_   -- region 16 law.go:156
    refine HO.v (V.mvS rfl) rfl 87 rfl rfl ?_
    refine HO.v (V.mvI rfl) rfl 88 rfl rfl ?_
    refine HO.v (V.indexAddr1 rfl rfl T.el30 T.sz5 (by omega)) rfl 89 rfl rfl ?_
    refine HO.v (V.load rfl (load_one T.ag5 (v := .int .u8 l[n - 1 - k].toNat) hcel)) rfl 90 rfl rfl ?_
    refine HO.v (V.rem rfl rfl (by omega)) rfl 91 rfl rfl ?_
    refine HO.v (V.convE rfl T.in3 T.in5 (b := (l[n - 1 - k].toNat : Int) % 12) (IntWalk.i64_in _ (by omega))) rfl 92 rfl rfl ?_
    refine HO.v (V.add rfl rfl (by omega)) rfl 93 rfl rfl ?_
    refine HO.v (V.asI rfl) rfl 14 rfl rfl ?_
    refine HO.v (V.asB rfl) rfl 15 rfl rfl ?_
    refine HO.nil ?_
    refine hK39 _ _ ?_
    refine HW.seq fun K40 hK40 => ?_
    refine HW.seq fun K41 hK41 => ?_
    refine HW.region ?_   -- region 17 law.go:157
    refine HO.v (V.asI rfl) rfl 16 rfl rfl ?_
    refine HO.nil ?_
    refine hK41 _ _ ?_
    refine HW.block ?_   -- block 4
    refine HW.loopm (fun m s hh => ∃ (j : Nat) (hd : Bool), Has s [(1, .slice (some ⟨ab, ao, none⟩) n c), (5, .int .i64 (N : Int)), (6, ptr p), (12, sv wv), (13, .int .i64 ((n - 1 - k : Nat) : Int)), (14, .int .i64 (pno l[n - 1 - k])), (15, .bool hd), (16, .int .i64 j)] ∧ hd = decide (pno l[n - 1 - k] ∈ l2.take j) ∧ hB = hh ∧ j ≤ l2.length ∧ m = l2.length - j) ?_ ?_
    · exact ⟨_, 0, false, ⟨rfl, rfl, rfl, rfl, rfl, rfl, rfl, rfl, trivial⟩, by simp, rfl, by omega, rfl⟩
    rintro m s hF ⟨j, hd, hs, hhd, rfl, hjl, rfl⟩ J42 hJ42
    refine HW.frame hs fun τ => ?_
    refine HW.seq fun K43 hK43 => ?_
    refine HW.seq fun K44 hK44 => ?_
    refine HW.region ?_   -- region 18 law.go:157
    refine HO.v (V.mvI rfl) rfl 94 rfl rfl ?_
    refine HO.v (V.mvS rfl) rfl 95 rfl rfl ?_
    refine HO.v (V.len rfl T.el31) rfl 96 rfl rfl ?_
    refine HO.v (V.lss rfl rfl rfl) rfl 97 rfl rfl ?_
    refine HO.nil ?_
    refine hK44 _ _ ?_
    refine HW.condr rfl (fun hc => ?_) (fun hc => ?_)
    · -- else
      refine HW.exit ?_
      refine hK40 _ _ ?_
      refine HW.seq fun K45 hK45 => ?_
      have hj2 := of_decide_eq_false hc
      rw [List.take_of_length_le (by omega)] at hhd
      refine HW.region ?_   -- region 21 law.go:160
      refine HO.v (V.mvB rfl) rfl 109 rfl rfl ?_
      refine HO.v (V.not rfl) rfl 110 rfl rfl ?_
      refine HO.nil ?_
      refine hK45 _ _ ?_
      refine HW.condr rfl (fun hc => ?_) (fun hc => ?_)
      · -- else
        refine HW.skip ?_
        refine hK38 _ _ ?_
        refine HW.region ?_   -- region 15 law.go:155
        refine HO.v (V.mvI rfl) rfl 85 rfl rfl ?_
        refine HO.v (V.sub rfl rfl (by omega)) rfl 86 rfl rfl ?_
        refine HO.v (V.asI rfl) rfl 13 rfl rfl ?_
        refine HO.nil ?_
        have hin : pno l[n - 1 - k] ∈ l2 := by
          rw [hhd] at hc
          simpa using hc
        refine hJ15 _ _ _ ⟨k + 1, wv, ⟨rfl, rfl, rfl, rfl, (by show Value.int _ _ = Value.int _ _; congr 1; omega), trivial⟩, (by rw [hnext, if_pos hin]; exact ow), (by rw [hnext, if_pos hin]; exact hwl), by omega, rfl⟩ (by omega)
      have hin : ¬ pno l[n - 1 - k] ∈ l2 := fun h1 => by rw [hhd] at hc; simp [h1] at hc
      refine HW.region ?_   -- region 22 law.go:161
      refine HO.v (V.mvS rfl) rfl 111 rfl rfl ?_
      refine HO.v (V.mvI rfl) rfl 112 rfl rfl ?_
      refine HO.e (V.buildSlice [.tmp 112] (cs := #[.int .i64 (pno l[n - 1 - k])]) T.el31 T.sz3 T.zr3 rfl rfl rfl ⟨rfl, trivial⟩ rfl) rfl 113 rfl rfl ?_
      refine HO.a (V.append rfl rfl T.el31 T.sz3 T.by3 T.zr3 rfl (ow.cap.ext (Ext.push _ _)) (sl_new (n := 1) rfl (by omega)) (iv_one (pno l[n - 1 - k])) (by simp; omega)) rfl 114 rfl rfl ?_
      rintro _ h4 hap
      obtain ⟨w2, rfl⟩ := hap.cap.form
      have ow2 := (ow.push (Ext.push _ _)).app hap
      refine HO.v (V.asS rfl) rfl 12 rfl rfl ?_
      refine HO.nil ?_
      refine hK38 _ _ ?_
      refine HW.region ?_   -- region 15 law.go:155
      refine HO.v (V.mvI rfl) rfl 85 rfl rfl ?_
      refine HO.v (V.sub rfl rfl (by omega)) rfl 86 rfl rfl ?_
      refine HO.v (V.asI rfl) rfl 13 rfl rfl ?_
      refine HO.nil ?_
      refine hJ15 _ _ _ ⟨k + 1, w2, ⟨rfl, rfl, rfl, rfl, (by show Value.int _ _ = Value.int _ _; congr 1; omega), trivial⟩, (by rw [hnext, if_neg hin]; simpa [iv] using ow2), (by rw [hnext, if_neg hin]; simp; omega), by omega, rfl⟩ (by omega)
    refine HW.skip ?_
    refine hK43 _ _ ?_
    refine HW.seq fun K46 hK46 => ?_
    have hj2 : j < l2.length := by have := of_decide_eq_true hc; omega
    have hnx := mem_next (x := pno l[n - 1 - k]) hj2
    obtain ⟨wa, wn, wc⟩ := wv
    obtain ⟨b, o, rfl, hcel⟩ := ints_cell ow.sl hj2
    refine HW.block ?_   -- block 5
    refine HW.region ?_   -- region 20 law.go:158
    refine HO.v (V.mvB rfl) rfl 100 rfl rfl ?_
    refine HO.v (V.mvB rfl) rfl 101 rfl rfl ?_
    refine HO.spl (fun hb1 => ?_) (fun hb1 => ?_)
    · -- true
      refine HO.no rfl 102 rfl rfl ?_
      refine HO.no rfl 103 rfl rfl ?_
      refine HO.no rfl 104 rfl rfl ?_
      refine HO.no rfl 105 rfl rfl ?_
      refine HO.no rfl 106 rfl rfl ?_
      refine HO.no rfl 107 rfl rfl ?_
      refine HO.v (V.pick_t rfl rfl) rfl 108 rfl rfl ?_
      refine HO.v (V.asB rfl) rfl 15 rfl rfl ?_
      refine HO.nil ?_
      refine hK46 _ _ ?_
      refine HW.region ?_   -- region 19 law.go:157
      refine HO.v (V.mvI rfl) rfl 98 rfl rfl ?_
      refine HO.v (V.add rfl rfl (by omega)) rfl 99 rfl rfl ?_
      refine HO.v (V.asI rfl) rfl 16 rfl rfl ?_
      refine HO.nil ?_
      refine hJ42 _ _ _ ⟨j + 1, true, ⟨rfl, rfl, rfl, rfl, rfl, rfl, rfl, rfl, trivial⟩, (by rw [hnx, ← hhd, hb1]; rfl), rfl, by omega, rfl⟩ (by omega)
    · -- false
      refine HO.v (V.mvS rfl) rfl 102 rfl rfl ?_
      refine HO.v (V.mvI rfl) rfl 103 rfl rfl ?_
      refine HO.v (V.indexAddr1 rfl rfl T.el31 T.sz3 (by omega)) rfl 104 rfl rfl ?_
      refine HO.v (V.load rfl (load_one T.ag3 (v := .int .i64 l2[j]) hcel)) rfl 105 rfl rfl ?_
      refine HO.v (V.mvI rfl) rfl 106 rfl rfl ?_
      refine HO.v (V.eql rfl rfl rfl) rfl 107 rfl rfl ?_
      refine HO.v (V.pick_f rfl rfl) rfl 108 rfl rfl ?_
      refine HO.v (V.asB rfl) rfl 15 rfl rfl ?_
      refine HO.nil ?_
      refine hK46 _ _ ?_
      refine HW.region ?_   -- region 19 law.go:157
      refine HO.v (V.mvI rfl) rfl 98 rfl rfl ?_
      refine HO.v (V.add rfl rfl (by omega)) rfl 99 rfl rfl ?_
      refine HO.v (V.asI rfl) rfl 16 rfl rfl ?_
      refine HO.nil ?_
      refine hJ42 _ _ _ ⟨j + 1, decide (l2[j] = pno l[n - 1 - k]), ⟨rfl, rfl, rfl, rfl, rfl, rfl, rfl, rfl, trivial⟩, (by rw [hnx, ← hhd, hb1]; rfl), rfl, by omega, rfl⟩ (by omega)
  refine HW.skip ?_
  refine hK10 _ _ ?_
  refine HW.seq fun K47 hK47 => ?_
  refine HW.block ?_   -- block 1
  refine HW.seq fun K48 hK48 => ?_
  have hk2 : k < l.length := by have := of_decide_eq_true hc; omega
  obtain ⟨ab, ao, rfl, hcel⟩ := bytes_cell (hl0.ext xA) hk2
  refine HW.region ?_   -- region 8 law.go:149
  refine HO.v (V.mvS rfl) rfl 53 rfl rfl ?_
  refine HO.v (V.mvI rfl) rfl 54 rfl rfl ?_
  refine HO.v (V.indexAddr1 rfl rfl T.el30 T.sz5 (by omega)) rfl 55 rfl rfl ?_
  refine HO.v (V.load rfl (load_one T.ag5 (v := .int .u8 l[k].toNat) hcel)) rfl 56 rfl rfl ?_
  refine HO.v (V.rem rfl rfl (by omega)) rfl 57 rfl rfl ?_
  refine HO.v (V.convE rfl T.in3 T.in5 (b := (l[k].toNat : Int) % 12) (IntWalk.i64_in _ (by omega))) rfl 58 rfl rfl ?_
  refine HO.v (V.add rfl rfl (by omega)) rfl 59 rfl rfl ?_
  refine HO.v (V.asI rfl) rfl 9 rfl rfl ?_
  refine HO.nil ?_
  refine hK48 _ _ ?_
  refine HW.seq fun K49 hK49 => ?_
  refine HW.region ?_   -- region 9 law.go:150
  refine HO.v (V.mvP rfl) rfl 61 rfl rfl ?_
  refine HO.v (V.mvI rfl) rfl 62 rfl rfl ?_
  refine HO.c OpC.func rfl 63 rfl rfl (get_any r (pno l[k])) ?_
  rintro _ h2 ⟨g, F2, rfl, r2, s2, g2, gf2⟩
  have x2 := s2.above xA fA
  refine HO.v (V.mvU rfl) rfl 60 rfl rfl ?_
  refine HO.v (V.extract rfl rfl) rfl 64 rfl rfl ?_
  refine HO.v (V.extract rfl rfl) rfl 65 rfl rfl ?_
  refine HO.v (V.asS rfl) rfl 10 rfl rfl ?_
  refine HO.v (V.asB rfl) rfl 11 rfl rfl ?_
  refine HO.nil ?_
  refine hK49 _ _ ?_
  refine HW.seq fun K50 hK50 => ?_
  refine HW.region ?_   -- region 10 law.go:150
  refine HO.v (V.mvB rfl) rfl 66 rfl rfl ?_
  refine HO.v (V.not rfl) rfl 67 rfl rfl ?_
  refine HO.nil ?_
  refine hK50 _ _ ?_
  refine HW.condr rfl (fun hc => ?_) (fun hc => ?_)
  · -- else
    refine HW.skip ?_
    refine hK47 _ _ ?_
    refine HW.region ?_   -- region 7 law.go:148
    refine HO.v (V.mvI rfl) rfl 51 rfl rfl ?_
    refine HO.v (V.add rfl rfl (by omega)) rfl 52 rfl rfl ?_
    refine HO.v (V.asI rfl) rfl 8 rfl rfl ?_
    refine HO.nil ?_
    refine hJ9 _ _ _ ⟨k + 1, ⟨rfl, rfl, rfl, rfl, trivial⟩, F2, (by rw [askL_next hk2]; unfold ask; rw [if_pos (by simpa using hc)]; exact r2), x2.1, x2.2, by omega, rfl⟩ (by omega)
  have hnone : hit (pno l[k]) (askL N (l.take k)) = none := by
    cases e : hit (pno l[k]) (askL N (l.take k)) with
    | none => rfl
    | some x => rw [e] at hc; simp at hc
  have hgl : getL (pno l[k]) (askL N (l.take k)) = askL N (l.take k) := by unfold getL; rw [hnone]
  rw [hgl] at r2
  have hlenk := askL_len (n := N) (by omega) l k (by omega)
  refine HW.region ?_   -- region 11 law.go:151
  refine HO.v (V.mvP rfl) rfl 68 rfl rfl ?_
  refine HO.v (V.mvI rfl) rfl 69 rfl rfl ?_
  refine HO.v (V.mvI rfl) rfl 70 rfl rfl ?_
  refine HO.v (V.convE rfl T.in5 T.in3 (b := ((bno (pno l[k])).toNat : Int)) (byte_of (by omega))) rfl 71 rfl rfl ?_
  refine HO.e (V.buildSlice [.tmp 71] (cs := #[.int .u8 ((bno (pno l[k])).toNat : Int)]) T.el30 T.sz5 T.zr5 rfl rfl rfl ⟨rfl, trivial⟩ rfl) rfl 72 rfl rfl ?_
  refine HO.c OpC.func rfl 73 rfl rfl (put_any (r2.ext (Ext.push _ _)) (by omega) (pno l[k]) (bs := (some ⟨h2.size, 0, none⟩, 1, 1)) (l := [bno (pno l[k])]) (sl_new (n := 1) rfl (by omega)) (by simp) false (by omega)) ?_
  rintro _ h3 ⟨F3, r3, s3, _⟩
  refine HO.nil ?_
  refine hK47 _ _ ?_
  refine HW.region ?_   -- region 7 law.go:148
  refine HO.v (V.mvI rfl) rfl 51 rfl rfl ?_
  refine HO.v (V.add rfl rfl (by omega)) rfl 52 rfl rfl ?_
  refine HO.v (V.asI rfl) rfl 8 rfl rfl ?_
  refine HO.nil ?_
  have x3 := s3.above (x2.1.trans (Ext.push _ _)) x2.2
  refine hJ9 _ _ _ ⟨k + 1, ⟨rfl, rfl, rfl, rfl, trivial⟩, F3, (by rw [askL_next hk2]; unfold ask; rw [if_neg (by simpa using hc)]; exact r3), x3.1, x3.2, by omega, rfl⟩ (by omega)

end Go.Proofs.Ytdbiggfnnhmpiaa
