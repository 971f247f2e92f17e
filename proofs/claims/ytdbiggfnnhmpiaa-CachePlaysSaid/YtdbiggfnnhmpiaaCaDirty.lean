/- The method Dirty of a cache. Conditions: the cache is well laid, its numbers are ints of 64 bits. -/
import Derived.Test.YtdbiggfnnhmpiaaCaSort
import Derived.Test.YtdbiggfnnhmpiaaCaLatest
namespace Go.Proofs.Ytdbiggfnnhmpiaa
open Go Go.HL

/-- The dirty pages of some numbers. -/
def dirty1 (L : List AP) (k : Int) : List AFr := toldL (hit k L)
def dirtyS (S : List Int) (L : List AP) : List AFr := S.flatMap (dirty1 L)
structure FrCap (h : Heap) (f : Fr) (x : AFr) : Prop where
  page : f.page = x.page
  commit : f.commit = x.commit
  b : Cap h 1 5 (sv f.b) (x.b.map bv)
theorem FrCap.is {h : Heap} {f : Fr} {x : AFr} (r : FrCap h f x) : FrIs h f x := ⟨r.page, r.commit, r.b.sl⟩
theorem FrCap.chg {F : Nat → Prop} {h h' : Heap} {f : Fr} {x : AFr} (r : FrCap h f x) (c : Chg F h h') (hf : ∀ b, F b → isT h b 5 → False) : FrCap h' f x :=
  ⟨r.page, r.commit, r.b.chg c fun b hb g => by
    obtain ⟨cs, fz, h1⟩ := r.b.blk hb
    exact hf b g ⟨cs, fz, h1⟩⟩
theorem dirty_next {S : List Int} {L : List AP} {k : Nat} (h : k < S.length) : dirtyS (S.take (k + 1)) L = dirtyS (S.take k) L ++ dirty1 L S[k] := by
  unfold dirtyS
  rw [take_next h, List.flatMap_append]
  simp
theorem dirty_len (S : List Int) (L : List AP) : (dirtyS S L).length ≤ S.length := by
  unfold dirtyS
  induction S with
  | nil => simp
  | cons a s ih =>
    rw [List.flatMap_cons, List.length_append]
    have : (dirty1 L a).length ≤ 1 := by
      unfold dirty1 toldL
      split
      · split <;> simp
      · simp
    simp only [List.length_cons]
    omega

set_option maxRecDepth 100000 in
theorem dirty_any {h : Heap} {F : Nat → Prop} {p : Nat} {room : Int} {L : List AP} (r : CRep h F p room L) (hr : ∀ k ∈ nos L, -9223372036854775808 ≤ k ∧ k ≤ 9223372036854775807) :
    HC Try.prog 12 #[ptr p] h (fun v h' => ∃ S : List Int, S.Perm (nos L) ∧ S.Pairwise (· ≤ ·) ∧ Frames h' v (dirtyS S L) ∧ Ext h h') := by
  obtain ⟨mb, ov, ks, q, r⟩ := r
  have hkp : ks.Perm (nos L) := (List.perm_ext_iff_of_nodup r.mp.keys r.mp.nd).2 r.mp.mem
  have hkl : ks.length ≤ 1000000000000 := by rw [hkp.length_eq]; have := r.len; simp [nos]; omega
  refine HC.body Try.func12 rfl (by kernel_rfl) 42 rfl rfl ?_
  refine HW.seq fun K1 hK1 => ?_
  refine HW.region ?_   -- region 0 cache.go:102
  refine HO.v (V.asS rfl) rfl 2 rfl rfl ?_
  refine HO.nil ?_
  refine hK1 _ _ ?_
  refine HW.seq fun K2 hK2 => ?_
  refine HW.seq fun K3 hK3 => ?_
  refine HW.region ?_   -- region 1 cache.go:103
  refine HO.v (V.mvP rfl) rfl 7 rfl rfl ?_
  refine HO.v (V.ptrEqNil rfl rfl T.pt23) rfl 8 rfl rfl ?_
  refine HO.nil ?_
  refine hK3 _ _ ?_
  refine HW.cond rfl (fun hc => ?_) (fun hc => ?_)
  · -- then
    refine HW.seq fun K4 hK4 => ?_
    refine HW.region ?_   -- region 2 cache.go:104
    refine HO.v (V.asS rfl) rfl 2 rfl rfl ?_
    refine HO.nil ?_
    refine hK4 _ _ ?_
    refine HW.ret ?_
    refine ⟨.slice none 0 0, Res.one rfl rfl, (by simp at hc)⟩
  refine HW.skip ?_
  refine hK2 _ _ ?_
  refine HW.seq fun K5 hK5 => ?_
  refine HW.region ?_   -- region 3 cache.go:106
  refine HO.v (V.asS rfl) rfl 3 rfl rfl ?_
  refine HO.nil ?_
  refine hK5 _ _ ?_
  refine HW.seq fun K6 hK6 => ?_
  refine HW.seq fun K7 hK7 => ?_
  refine HW.region ?_   -- region 4 cache.go:107
  refine HO.v (V.mvP rfl) rfl 9 rfl rfl ?_
  refine HO.v (V.nilCheck rfl) rfl 10 rfl rfl ?_
  refine HO.v (V.fieldAddr rfl T.fd64_2) rfl 11 rfl rfl ?_
  refine HO.v (V.load rfl (load_one T.ag60 (v := .map (some mb)) (cell_of r.hp 2))) rfl 12 rfl rfl ?_
  refine HO.c OpC.func rfl 13 rfl rfl keys_any ?_
  rintro _ _ ⟨rfl, rfl⟩
  refine HO.c OpC.func rfl 14 rfl rfl (sorted_any r.mp.map (fun k hk => hr k ((r.mp.mem k).1 hk)) hkl) ?_
  rintro _ h1 ⟨S, hp0, hsort, ow⟩
  obtain ⟨⟨sa, sn, sc⟩, rfl⟩ := ow.cap.form
  have hperm := hp0.trans hkp
  have x1 := (Ext.push h (.cells #[.map (some mb)] 60 (0, 0))).trans ow.ext
  have hsl : Sl h1 1 (.slice sa sn sc) (S.map iv) := ow.sl
  have hSn : S.length = sn := by simpa using hsl.cells.len
  have hSl : S.length ≤ 100000001 := by rw [hperm.length_eq]; have := r.len; simpa [nos] using this
  refine HO.v (V.len rfl T.el31) rfl 15 rfl rfl ?_
  refine HO.v (V.mvI rfl) rfl 16 rfl rfl ?_
  refine HO.nil ?_
  refine hK7 _ _ ?_
  refine HW.block ?_   -- block 0
  refine HW.loopm (fun m s hh => ∃ (k : Nat) (wv : SV), Has s [(0, ptr p), (3, sv wv), (14, .slice sa sn sc), (15, .int .i64 sn), (16, .int .i64 k)] ∧ (∃ fl, Own h1 hh 3 39 (sv wv) (fl.flatMap fr) ∧ All2 (FrCap hh) fl (dirtyS (S.take k) L)) ∧ k ≤ sn ∧ m = sn - k) ?_ ?_
  · exact ⟨_, 0, (none, 0, 0), ⟨rfl, rfl, rfl, rfl, rfl, trivial⟩, ⟨[], Own.nil (Ext.refl _) _ _, All2.nil⟩, by omega, rfl⟩
  rintro m s hh ⟨k, wv, hs, ⟨fl, owf, hall⟩, hkn, rfl⟩ J8 hJ8
  refine HW.frame hs fun τ => ?_
  refine HW.seq fun K9 hK9 => ?_
  refine HW.region ?_   -- region 5 cache.go:107
  refine HO.v (V.lss rfl rfl rfl) rfl 17 rfl rfl ?_
  refine HO.nil ?_
  refine hK9 _ _ ?_
  refine HW.seq fun K10 hK10 => ?_
  refine HW.condr rfl (fun hc => ?_) (fun hc => ?_)
  · -- else
    refine HW.exit ?_
    refine hK6 _ _ ?_
    refine HW.seq fun K11 hK11 => ?_
    refine HW.region ?_   -- region 11 cache.go:112
    refine HO.v (V.mvS rfl) rfl 41 rfl rfl ?_
    refine HO.v (V.asS rfl) rfl 2 rfl rfl ?_
    refine HO.nil ?_
    refine hK11 _ _ ?_
    refine HW.ret ?_
    refine ⟨sv wv, Res.one rfl rfl, S, hperm, hsort, ⟨fl, owf.sl, (by have h1 := of_decide_eq_false hc; rw [List.take_of_length_le (by omega)] at hall; exact hall.mono fun _ _ h => h.is)⟩, x1.trans owf.ext⟩
  refine HW.skip ?_
  refine hK10 _ _ ?_
  refine HW.seq fun K12 hK12 => ?_
  have hk2 : k < S.length := by have := of_decide_eq_true hc; omega
  have rH := r.chg (x1.trans owf.ext) fun _ _ f => f
  have hnx := dirty_next (L := L) hk2
  obtain ⟨b, o, rfl, hcel⟩ := ints_cell (hsl.ext owf.ext) hk2
  obtain ⟨x, hx⟩ := hit_mem ((hperm.mem_iff).1 (List.getElem_mem hk2))
  obtain ⟨hxm, hxn⟩ := hit_some hx
  obtain ⟨pb, hq, hpb, _⟩ := rH.hpage hxm
  rw [hxn] at hq
  refine HW.block ?_   -- block 1
  refine HW.seq fun K13 hK13 => ?_
  refine HW.region ?_   -- region 6 cache.go:107
  refine HO.v (V.indexAddr1 rfl rfl T.el31 T.sz3 (by omega)) rfl 18 rfl rfl ?_
  refine HO.v (V.load rfl (load_one T.ag3 (v := .int .i64 S[k]) hcel)) rfl 19 rfl rfl ?_
  refine HO.v (V.asI rfl) rfl 5 rfl rfl ?_
  refine HO.nil ?_
  refine hK13 _ _ ?_
  refine HW.seq fun K14 hK14 => ?_
  refine HW.region ?_   -- region 7 cache.go:108
  refine HO.v (V.mvP rfl) rfl 20 rfl rfl ?_
  refine HO.v (V.nilCheck rfl) rfl 21 rfl rfl ?_
  refine HO.v (V.fieldAddr rfl T.fd64_2) rfl 22 rfl rfl ?_
  refine HO.v (V.load rfl (load_one T.ag60 (v := .map (some mb)) (cell_of rH.hp 2))) rfl 23 rfl rfl ?_
  refine HO.v (V.mvI rfl) rfl 24 rfl rfl ?_
  refine HO.v (V.lookupE (KV.int .i64) rfl rfl rH.mp.map (v := ptr (q S[k])) T.mp60 (inB_iff T.in3) T.zr65 ((rH.mp.get S[k]).trans (by rw [hx]; rfl))) rfl 25 rfl rfl ?_
  refine HO.v (V.asP rfl) rfl 6 rfl rfl ?_
  refine HO.nil ?_
  refine hK14 _ _ ?_
  refine HW.seq fun K15 hK15 => ?_
  refine HW.region ?_   -- region 8 cache.go:108
  refine HO.v (V.mvP rfl) rfl 26 rfl rfl ?_
  refine HO.v (V.nilCheck rfl) rfl 27 rfl rfl ?_
  refine HO.v (V.fieldAddr rfl T.fd69_1) rfl 28 rfl rfl ?_
  refine HO.v (V.load rfl (load_one T.ag4 (v := .bool x.d) (cell_of hq 1))) rfl 29 rfl rfl ?_
  refine HO.nil ?_
  refine hK15 _ _ ?_
  refine HW.condr rfl (fun hc => ?_) (fun hc => ?_)
  · -- else
    refine HW.skip ?_
    refine hK12 _ _ ?_
    refine HW.region ?_   -- region 10 cache.go:107
    refine HO.v (V.add rfl rfl (by omega)) rfl 40 rfl rfl ?_
    refine HO.v (V.mvI rfl) rfl 16 rfl rfl ?_
    refine HO.nil ?_
    refine hJ8 _ _ _ ⟨k + 1, wv, ⟨rfl, rfl, rfl, rfl, rfl, trivial⟩, ⟨fl, owf, (by rw [hnx]; unfold dirty1; rw [hx, told_no hc, List.append_nil]; exact hall)⟩, by omega, rfl⟩ (by omega)
  refine HW.region ?_   -- region 9 cache.go:109
  refine HO.v (V.mvS rfl) rfl 30 rfl rfl ?_
  refine HO.v (V.mvI rfl) rfl 31 rfl rfl ?_
  refine HO.v (V.mvP rfl) rfl 32 rfl rfl ?_
  refine HO.v (V.nilCheck rfl) rfl 33 rfl rfl ?_
  refine HO.v (V.fieldAddr rfl T.fd69_0) rfl 34 rfl rfl ?_
  refine HO.v (V.load rfl (load_one T.ag30 (v := sv pb) (cell_of hq 0))) rfl 35 rfl rfl ?_
  refine HO.c OpC.func rfl 36 rfl rfl (cloneB_any hpb.sl (by have := r.sm x hxm; omega)) ?_
  rintro _ h3 owb
  obtain ⟨rb, rfl⟩ := owb.cap.form
  refine HO.v (V.build (cs := #[.int .i64 S[k], .int .i64 0, sv rb]) T.zr39 T.pl39 rfl) rfl 37 rfl rfl ?_
  refine HO.e (V.buildSlice [.tmp 37] (cs := #[.int .i64 S[k], .int .i64 0, sv rb]) T.el36 T.sz39 T.zr39 rfl rfl rfl ⟨rfl, trivial⟩ rfl) rfl 38 rfl rfl ?_
  have e4 : Ext hh (h3.push (.cells #[.int .i64 S[k], .int .i64 0, sv rb] 39 (0, 0))) := owb.ext.trans (Ext.push _ _)
  have ow4 := owf.push e4
  have hfit : ((fl.flatMap fr).length + (fr ⟨S[k], 0, rb⟩).length) * (39 + 1) ≤ 140737488355328 := by
    have h1 := hall.1
    have h2 := dirty_len (S.take k) L
    have h3 : (S.take k).length ≤ S.length := by simp; omega
    have h4 : (fl.flatMap fr).length = fl.length * 3 := flat_len fr_len fl
    have h5 : (fr ⟨S[k], 0, rb⟩).length = 3 := rfl
    omega
  refine HO.a (V.append rfl rfl T.el36 T.sz39 T.by39 T.zr39 rfl ow4.cap (sl_new (n := 1) rfl (by omega)) (fr_one ⟨S[k], 0, rb⟩) hfit) rfl 39 rfl rfl ?_
  rintro _ h5 hap
  obtain ⟨w2, rfl⟩ := hap.cap.form
  have ow5 := ow4.app hap
  refine HO.v (V.asS rfl) rfl 3 rfl rfl ?_
  refine HO.nil ?_
  refine hK12 _ _ ?_
  refine HW.region ?_   -- region 10 cache.go:107
  refine HO.v (V.add rfl rfl (by omega)) rfl 40 rfl rfl ?_
  refine HO.v (V.mvI rfl) rfl 16 rfl rfl ?_
  refine HO.nil ?_
  refine hJ8 _ _ _ ⟨k + 1, w2, ⟨rfl, rfl, rfl, rfl, rfl, trivial⟩, ⟨fl ++ [⟨S[k], 0, rb⟩], ?_, ?_⟩, by omega, rfl⟩ (by omega)
  · rw [List.flatMap_append]
    simpa using ow5
  · rw [hnx]
    unfold dirty1
    rw [hx, told_yes hc]
    have hty : ∀ j, blkC (sv wv) j → isT (h3.push (.cells #[.int .i64 S[k], .int .i64 0, sv rb] 39 (0, 0))) j 5 → False := fun j hj ht => by
      have h1 : isT (h3.push (.cells #[.int .i64 S[k], .int .i64 0, sv rb] 39 (0, 0))) j 39 := ow4.cap.blk hj
      exact absurd (h1.eq ht) (by decide)
    refine All2.append (hall.mono fun f y h => (h.chg e4 fun _ g _ => g.elim).chg hap.chg hty) (All2.cons ?_ All2.nil)
    exact FrCap.chg ⟨hxn.symm, rfl, owb.cap.ext (Ext.push _ _)⟩ hap.chg hty

end Go.Proofs.Ytdbiggfnnhmpiaa
