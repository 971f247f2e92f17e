/- cache.New and the method Get. Conditions: the cache is well laid. -/
import Derived.Test.YtdbiggfnnhmpiaaCaImp2
namespace Go.Proofs.Ytdbiggfnnhmpiaa
open Go Go.HL

theorem CMap.bound {h : Heap} {F : Nat → Prop} {m : Nat} {L : List AP} {ks : List Int} {q : Int → Nat} (r : CMap h F m L ks q) : CMap h (fun b => F b ∧ b < h.size) m L ks q :=
  ⟨r.map, r.mem, r.nd, fun x hx => by
    obtain ⟨⟨b, h1, h2, h3⟩, h4⟩ := r.pg x hx
    exact ⟨⟨b, h1, h2, fun j hj => ⟨h3 j hj, h2.lt hj⟩⟩, h4, block_lt h1⟩, r.inj, r.own, r.map.lt⟩
theorem CMap.same {h : Heap} {F : Nat → Prop} {m : Nat} {L M : List AP} {ks : List Int} {q : Int → Nat} (r : CMap h F m L ks q) (hm : ∀ x, x ∈ M ↔ x ∈ L) (hn : (nos M).Nodup) : CMap h F m M ks q :=
  ⟨r.map, fun k => by
    rw [r.mem]
    unfold nos
    simp only [List.mem_map, hm], hn, fun x hx => r.pg x ((hm x).1 hx), fun x hx y hy => r.inj x ((hm x).1 hx) y ((hm y).1 hy), r.own⟩
theorem nos_inj {L : List AP} (hn : (nos L).Nodup) : ∀ {x y : AP}, x ∈ L → y ∈ L → x.no = y.no → x = y := by
  induction L with
  | nil => intro x y hx; simp at hx
  | cons a l ih =>
    have hn' : (a.no :: nos l).Nodup := hn
    rw [List.nodup_cons] at hn'
    intro x y hx0 hy0 e
    rcases List.mem_cons.1 hx0 with rfl | hx <;> rcases List.mem_cons.1 hy0 with rfl | hy
    · rfl
    · exact absurd (List.mem_map.2 ⟨y, hy, e.symm⟩ : x.no ∈ nos l) hn'.1
    · exact absurd (List.mem_map.2 ⟨x, hx, e⟩ : y.no ∈ nos l) hn'.1
    · exact ih hn'.2 hx hy e
theorem touch_mem {L : List AP} (hn : (nos L).Nodup) {x : AP} (hx : x ∈ L) : ∀ y, y ∈ x :: rid x.no L ↔ y ∈ L := fun y => by
  rw [List.mem_cons, mem_rid]
  constructor
  · rintro (rfl | h)
    · exact hx
    · exact h.1
  · intro hy
    by_cases e : y.no = x.no
    · exact .inl (nos_inj hn hy hx e)
    · exact .inr ⟨hy, e⟩
theorem CIn.mk' {h : Heap} {F : Nat → Prop} {p m : Nat} {ov : SV} {room : Int} {L : List AP} {ks : List Int} {q : Int → Nat} (mp : CMap h F m L ks q) (od : Ordr h p (.int .i64 room) (.map (some m)) ov (nos L).reverse) (fp : F p) (fo : ∀ b, blkC (sv ov) b → F b) (len : L.length ≤ 100000001) (sm : ∀ x ∈ L, x.b.length ≤ 1000000) :
    CIn h (fun b => F b ∧ b < h.size) p m ov room L ks q :=
  ⟨mp.bound, od, ⟨fp, od.lt⟩, fun b hb => ⟨fo b hb, od.ord.lt hb⟩, fun _ hb => hb.2, len, sm⟩
/-- What others turn is no matter to it. -/
theorem CIn.chg {h h' : Heap} {F G : Nat → Prop} {p m : Nat} {ov : SV} {room : Int} {L : List AP} {ks : List Int} {q : Int → Nat} (r : CIn h F p m ov room L ks q) (c : Chg G h h') (hg : ∀ b, F b → ¬ G b) : CIn h' F p m ov room L ks q :=
  ⟨r.mp.chg c (fun b g f => absurd g (hg b f)) (fun _ f => f), r.od.chg c (hg _ r.fp) (fun b hb => hg _ (r.fo b hb)), r.fp, r.fo, fun b hb => Nat.lt_of_lt_of_le (r.lt b hb) c.size, r.len, r.sm⟩
theorem CRep.chg {h h' : Heap} {F G : Nat → Prop} {p : Nat} {room : Int} {L : List AP} (r : CRep h F p room L) (c : Chg G h h') (hg : ∀ b, F b → ¬ G b) : CRep h' F p room L :=
  let ⟨m, ov, ks, q, r⟩ := r; ⟨m, ov, ks, q, r.chg c hg⟩
theorem CRep.ext {h h' : Heap} {F : Nat → Prop} {p : Nat} {room : Int} {L : List AP} (r : CRep h F p room L) (c : Ext h h') : CRep h' F p room L := r.chg c fun _ _ f => f
theorem CRep.lt {h : Heap} {F : Nat → Prop} {p : Nat} {room : Int} {L : List AP} (r : CRep h F p room L) : ∀ b, F b → b < h.size := let ⟨_, _, _, _, r⟩ := r; r.lt
theorem CRep.nd {h : Heap} {F : Nat → Prop} {p : Nat} {room : Int} {L : List AP} (r : CRep h F p room L) : (nos L).Nodup := let ⟨_, _, _, _, r⟩ := r; r.mp.nd

def getL (no : Int) (L : List AP) : List AP := match hit no L with
  | some x => x :: rid no L
  | none => L
def gotL (no : Int) (L : List AP) : List UInt8 := ((hit no L).map fun x => x.b).getD []
def wasD (no : Int) (L : List AP) : Bool := ((hit no L).map fun x => x.d).getD false
def putL1 (no : Int) (b : List UInt8) (d : Bool) (L : List AP) : List AP := ⟨no, b, d || wasD no L⟩ :: rid no L
/-- What goes of a list: its last one, and what is told of it. -/
def toldL (x : Option AP) : List AFr := match x with
  | some x => if x.d then [⟨x.no, 0, x.b⟩] else []
  | none => []
def putL (room no : Int) (b : List UInt8) (d : Bool) (L : List AP) : List AP :=
  if no < 1 then L else if ((putL1 no b d L).length : Int) ≤ room then putL1 no b d L else (putL1 no b d L).dropLast
def putA (room no : Int) (b : List UInt8) (d : Bool) (L : List AP) : List AFr :=
  if no < 1 then [] else if ((putL1 no b d L).length : Int) ≤ room then [] else toldL (putL1 no b d L).getLast?
theorem drop_last {L : List AP} {x : AP} (hn : (nos L).Nodup) (hx : L.getLast? = some x) : rid x.no L = L.dropLast := by
  obtain ⟨M, rfl⟩ := List.getLast?_eq_some_iff.1 hx
  have h1 : nos (M ++ [x]) = nos M ++ [x.no] := by simp [nos]
  rw [h1, List.nodup_append] at hn
  unfold rid
  rw [List.filter_append, List.dropLast_concat]
  have h2 : List.filter (fun y => decide (y.no ≠ x.no)) M = M := by
    rw [List.filter_eq_self]
    intro y hy
    simp only [decide_eq_true_eq]
    exact fun e => hn.2.2 y.no (List.mem_map.2 ⟨y, hy, rfl⟩) x.no (by simp) e
  rw [h2]; simp

set_option maxRecDepth 100000 in
theorem new_any {h : Heap} {room : Int} :
    HC Try.prog 6 #[.int .i64 room] h (fun v h' => (¬ (1 ≤ room ∧ room ≤ 1048576) ∧ v = .tuple #[.pointer none, .int .i64 1] ∧ h' = h) ∨
      ((1 ≤ room ∧ room ≤ 1048576) ∧ ∃ p F, v = .tuple #[ptr p, .int .i64 0] ∧ CRep h' F p room [] ∧ Ext h h' ∧ ∀ b, F b → h.size ≤ b)) := by
  refine HC.body Try.func6 rfl (by kernel_rfl) 14 rfl rfl ?_
  refine HW.seq fun K1 hK1 => ?_
  refine HW.region ?_   -- region 0 cache.go:42
  refine HO.v (V.asP rfl) rfl 2 rfl rfl ?_
  refine HO.v (V.asI rfl) rfl 3 rfl rfl ?_
  refine HO.nil ?_
  refine hK1 _ _ ?_
  refine HW.seq fun K2 hK2 => ?_
  refine HW.seq fun K3 hK3 => ?_
  refine HW.region ?_   -- region 1 cache.go:43
  refine HO.v (V.mvI rfl) rfl 4 rfl rfl ?_
  refine HO.v (V.lss rfl rfl rfl) rfl 5 rfl rfl ?_
  refine HO.v (V.mvB rfl) rfl 6 rfl rfl ?_
  refine HO.spl (fun hb2 => ?_) (fun hb2 => ?_)
  · -- true
    refine HO.no rfl 7 rfl rfl ?_
    refine HO.no rfl 8 rfl rfl ?_
    refine HO.v (V.pick_t rfl rfl) rfl 9 rfl rfl ?_
    refine HO.nil ?_
    refine hK3 _ _ ?_
    refine HW.cond_t rfl ?_
    refine HW.seq fun K4 hK4 => ?_
    refine HW.region ?_   -- region 2 cache.go:44
    refine HO.v (V.asP rfl) rfl 2 rfl rfl ?_
    refine HO.v (V.asI rfl) rfl 3 rfl rfl ?_
    refine HO.nil ?_
    refine hK4 _ _ ?_
    refine HW.ret ?_
    refine ⟨.tuple #[.pointer none, .int .i64 1], Res.two rfl rfl rfl, .inl ⟨(by have := of_decide_eq_true hb2; omega), rfl, rfl⟩⟩
  · -- false
    refine HO.v (V.mvI rfl) rfl 7 rfl rfl ?_
    refine HO.v (V.gtr rfl rfl rfl) rfl 8 rfl rfl ?_
    refine HO.v (V.pick_f rfl rfl) rfl 9 rfl rfl ?_
    refine HO.nil ?_
    refine hK3 _ _ ?_
    refine HW.cond rfl (fun hc => ?_) (fun hc => ?_)
    · -- then
      refine HW.seq fun K5 hK5 => ?_
      refine HW.region ?_   -- region 2 cache.go:44
      refine HO.v (V.asP rfl) rfl 2 rfl rfl ?_
      refine HO.v (V.asI rfl) rfl 3 rfl rfl ?_
      refine HO.nil ?_
      refine hK5 _ _ ?_
      refine HW.ret ?_
      refine ⟨.tuple #[.pointer none, .int .i64 1], Res.two rfl rfl rfl, .inl ⟨(by have := of_decide_eq_true hc; omega), rfl, rfl⟩⟩
    refine HW.skip ?_
    refine hK2 _ _ ?_
    refine HW.seq fun K6 hK6 => ?_
    refine HW.region ?_   -- region 3 cache.go:46
    refine HO.v (V.mvI rfl) rfl 10 rfl rfl ?_
    refine HO.e (V.makeMap) rfl 11 rfl rfl ?_
    refine HO.v (V.build (cs := #[.slice none 0 0, .int .i64 room, .map (some h.size)]) T.zr64 T.pl64 rfl) rfl 12 rfl rfl ?_
    refine HO.e (V.boxA rfl) rfl 13 rfl rfl ?_
    refine HO.v (V.asP rfl) rfl 2 rfl rfl ?_
    refine HO.v (V.asI rfl) rfl 3 rfl rfl ?_
    refine HO.nil ?_
    refine hK6 _ _ ?_
    refine HW.ret ?_
    refine ⟨.tuple #[ptr (h.push (.map #[] 0)).size, .int .i64 0], Res.two rfl rfl rfl, .inr ⟨(by have := of_decide_eq_false hc; have := of_decide_eq_false hb2; omega), _, (fun b => b = h.size ∨ b = (h.push (.map #[] 0)).size), rfl, ⟨h.size, (none, 0, 0), [], fun _ => 0, ?_⟩, (Ext.push _ _).trans (Ext.push _ _), ?_⟩⟩
    · refine ⟨⟨MapT.new (push_other (push_same _ _)), fun k => by simp [nos], by simp [nos], fun x hx => by simp at hx, fun x hx => by simp at hx, .inl rfl⟩, ⟨push_same _ _, Cap.nil _ _ _⟩, .inr rfl, fun b hb => ?_, ?_, by simp, fun x hx => by simp at hx⟩
      · obtain ⟨o, n, c, hv⟩ := hb; cases hv
      · rintro b (rfl | rfl) <;> simp <;> omega
    · rintro b (rfl | rfl) <;> simp

set_option maxRecDepth 100000 in
theorem get_any {h : Heap} {F : Nat → Prop} {p : Nat} {room : Int} {L : List AP} (r : CRep h F p room L) (no : Int) :
    HC Try.prog 9 #[ptr p, .int .i64 no] h (fun v h' => ∃ (g : SV) (F' : Nat → Prop), v = .tuple #[sv g, .bool (hit no L).isSome] ∧ CRep h' F' p room (getL no L) ∧ Step F h F' h' ∧
      Cap h' 1 5 (sv g) ((gotL no L).map bv) ∧ ∀ b, blkC (sv g) b → h.size ≤ b ∧ ¬ F' b) := by
  obtain ⟨m, ov, ks, q, r⟩ := r
  refine HC.body Try.func9 rfl (by kernel_rfl) 32 rfl rfl ?_
  refine HW.seq fun K1 hK1 => ?_
  refine HW.region ?_   -- region 0 cache.go:50
  refine HO.v (V.asS rfl) rfl 4 rfl rfl ?_
  refine HO.v (V.asB rfl) rfl 5 rfl rfl ?_
  refine HO.nil ?_
  refine hK1 _ _ ?_
  refine HW.seq fun K2 hK2 => ?_
  refine HW.seq fun K3 hK3 => ?_
  refine HW.region ?_   -- region 1 cache.go:51
  refine HO.v (V.mvP rfl) rfl 6 rfl rfl ?_
  refine HO.v (V.ptrEqNil rfl rfl T.pt23) rfl 7 rfl rfl ?_
  refine HO.v (V.mvB rfl) rfl 8 rfl rfl ?_
  refine HO.spl (fun hb2 => ?_) (fun hb2 => ?_)
  · -- true
    refine HO.no rfl 9 rfl rfl ?_
    refine HO.no rfl 10 rfl rfl ?_
    refine HO.no rfl 11 rfl rfl ?_
    refine HO.no rfl 12 rfl rfl ?_
    refine HO.no rfl 13 rfl rfl ?_
    refine HO.no rfl 14 rfl rfl ?_
    refine HO.no rfl 15 rfl rfl ?_
    refine HO.v (V.pick_t rfl rfl) rfl 16 rfl rfl ?_
    refine HO.nil ?_
    refine hK3 _ _ ?_
    refine HW.cond_t rfl ?_
    refine HW.seq fun K4 hK4 => ?_
    refine HW.region ?_   -- region 2 cache.go:52
    refine HO.v (V.asS rfl) rfl 4 rfl rfl ?_
    refine HO.v (V.asB rfl) rfl 5 rfl rfl ?_
    refine HO.nil ?_
    refine hK4 _ _ ?_
    refine HW.ret ?_
    refine ⟨.tuple #[.slice none 0 0, .bool false], Res.two rfl rfl rfl, (by simp at hb2)⟩
  · -- false
    refine HO.v (V.mvP rfl) rfl 9 rfl rfl ?_
    refine HO.v (V.nilCheck rfl) rfl 10 rfl rfl ?_
    refine HO.v (V.fieldAddr rfl T.fd64_2) rfl 11 rfl rfl ?_
    refine HO.v (V.load rfl (load_one T.ag60 (v := .map (some m)) (cell_of r.hp 2))) rfl 12 rfl rfl ?_
    refine HO.v (V.mvI rfl) rfl 13 rfl rfl ?_
    refine HO.v (V.lookupE (KV.int .i64) rfl rfl r.mp.map T.mp60 (inB_iff T.in3) T.zr65 (r.mp.get no)) rfl 14 rfl rfl ?_
    refine HO.v (V.ptrEqNil rfl rfl T.pt65) rfl 15 rfl rfl ?_
    refine HO.v (V.pick_f rfl rfl) rfl 16 rfl rfl ?_
    refine HO.nil ?_
    refine hK3 _ _ ?_
    refine HW.cond rfl (fun hc => ?_) (fun hc => ?_)
    · -- then
      refine HW.seq fun K5 hK5 => ?_
      have hx : hit no L = none := by simpa using hc
      refine HW.region ?_   -- region 2 cache.go:52
      refine HO.v (V.asS rfl) rfl 4 rfl rfl ?_
      refine HO.v (V.asB rfl) rfl 5 rfl rfl ?_
      refine HO.nil ?_
      refine hK5 _ _ ?_
      refine HW.ret ?_
      refine ⟨.tuple #[.slice none 0 0, .bool false], Res.two rfl rfl rfl, (none, 0, 0), F, (by rw [hx]; rfl), (by unfold getL; rw [hx]; exact ⟨m, ov, ks, q, r⟩), ⟨Chg.refl _ _, fun b hb => .inl hb⟩, (by unfold gotL; rw [hx]; exact Cap.nil _ _ _), (fun b hb => by obtain ⟨o, n, c, hv⟩ := hb; cases hv)⟩
    refine HW.skip ?_
    refine hK2 _ _ ?_
    refine HW.seq fun K6 hK6 => ?_
    have hx : ∃ x, hit no L = some x := by
      cases e : hit no L with
      | some x => exact ⟨x, rfl⟩
      | none => rw [e] at hc; simp at hc
    obtain ⟨x, hx⟩ := hx
    refine HW.region ?_   -- region 3 cache.go:54
    refine HO.v (V.mvP rfl) rfl 17 rfl rfl ?_
    refine HO.v (V.nilCheck rfl) rfl 18 rfl rfl ?_
    refine HO.v (V.fieldAddr rfl T.fd64_0) rfl 19 rfl rfl ?_
    refine HO.v (V.mvI rfl) rfl 20 rfl rfl ?_
    refine HO.c OpC.func rfl 21 rfl rfl (touch_any r.od (by have := r.len; simp [nos]; omega)) ?_
    rintro _ h1 ⟨ov1, rfl, t⟩
    refine HO.nil ?_
    refine hK6 _ _ ?_
    refine HW.seq fun K7 hK7 => ?_
    obtain ⟨hxm, hxn⟩ := hit_some hx
    have c1 : CMap h1 (fun b => F b ∨ h.size ≤ b) m L ks q := r.mp.chg t.chg (fun b g _ => r.kind b g) fun b f => .inl f
    obtain ⟨⟨pb, hq, hb, hf⟩, ho⟩ := c1.pg x hxm
    rw [hxn] at hq ho
    refine HW.region ?_   -- region 4 cache.go:55
    refine HO.v (V.mvP rfl) rfl 22 rfl rfl ?_
    refine HO.v (V.nilCheck rfl) rfl 23 rfl rfl ?_
    refine HO.v (V.fieldAddr rfl T.fd64_2) rfl 24 rfl rfl ?_
    refine HO.v (V.load rfl (load_one T.ag60 (v := .map (some m)) (cell_of t.ordr.hp 2))) rfl 25 rfl rfl ?_
    refine HO.v (V.mvI rfl) rfl 26 rfl rfl ?_
    refine HO.v (V.lookupE (KV.int .i64) rfl rfl c1.map (v := ptr (q no)) T.mp60 (inB_iff T.in3) T.zr65 ((c1.get no).trans (by rw [hx]; rfl))) rfl 27 rfl rfl ?_
    refine HO.v (V.nilCheck rfl) rfl 28 rfl rfl ?_
    refine HO.v (V.fieldAddr rfl T.fd69_0) rfl 29 rfl rfl ?_
    refine HO.v (V.load rfl (load_one T.ag30 (v := sv pb) (cell_of hq 0))) rfl 30 rfl rfl ?_
    refine HO.c OpC.func rfl 31 rfl rfl (cloneB_any hb.sl (by have := r.sm x hxm; omega)) ?_
    rintro _ h2 ow
    obtain ⟨g, rfl⟩ := ow.cap.form
    refine HO.v (V.asS rfl) rfl 4 rfl rfl ?_
    refine HO.v (V.asB rfl) rfl 5 rfl rfl ?_
    refine HO.nil ?_
    refine hK7 _ _ ?_
    refine HW.ret ?_
    refine ⟨.tuple #[sv g, .bool true], Res.two rfl rfl rfl, g, (fun b => (F b ∨ h.size ≤ b) ∧ b < h1.size), ?_, ⟨m, ov1, ks, q, ?_⟩, ⟨?_, ?_⟩, ?_, ?_⟩
    · rw [hx]; rfl
    · have e : getL no L = x :: rid x.no L := by unfold getL; rw [hx, hxn]
      rw [e]
      have hnd := nd_touch (x := x) r.mp.nd
      have o1 : Ordr h1 p (.int .i64 room) (.map (some m)) ov1 (nos (x :: rid x.no L)).reverse := by
        have := t.ordr; rw [← hxn, order_touch r.mp.nd] at this; exact this
      have hmem := touch_mem r.mp.nd hxm
      have := CIn.mk' (c1.same hmem hnd) o1 (.inl r.fp) (fun b hb => (t.place b hb).imp (r.fo b) id) ?_ (fun y hy => r.sm y ((hmem y).1 hy))
      · exact this.chg ow.ext fun _ _ f => f
      · have h1 : rid x.no L ≠ L := fun e => (mem_rid.1 (show x ∈ rid x.no L by rw [e]; exact hxm)).2 rfl
        have h2 := rid_len x.no L
        have h3 : (rid x.no L).length ≠ L.length := fun e => h1 ((List.filter_sublist (l := L)).eq_of_length e)
        have := r.len
        simp only [List.length_cons]; omega
    · refine (t.chg.mono fun b _ hb => ?_).trans' ow.ext fun _ _ f => f.elim
      rcases hb with rfl | hb
      · exact r.fp
      · exact r.fo b hb
    · exact fun b hb => hb.1
    · have e : gotL no L = x.b := by unfold gotL; rw [hx]; rfl
      rw [e]; exact ow.cap
    · intro b hb
      have h1 := ow.fresh b hb
      have h2 := t.chg.size
      exact ⟨by omega, fun h => by omega⟩

end Go.Proofs.Ytdbiggfnnhmpiaa
