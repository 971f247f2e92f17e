/- The law WafLatest: the latest frames are the document's, and what is done to them is done to no other. Conditions: the frames are readable. -/
import Derived.Test.YtpebbkhainpfaaaWfPuts
import Derived.Test.YtpebbkhainpfaaaWfOpen
namespace Go.Proofs.Ytpebbkhainpfaaa
open Go Go.HL
/-- Frames whose bytes may turn. -/
structure Pok (h : Heap) (E : Nat → Prop) (x : SV) (L : List Fr) (xa : Nat → Option Addr) (xc : Nat → Nat) : Prop where
  sl : Sl h 3 (sv x) ((List.range L.length).flatMap (vfN L xa xc))
  b : ∀ i, i < L.length → ∃ m : List UInt8, m.length = (frN L i).b.length ∧ Cap h 1 5 (.slice (xa i) (frN L i).b.length (xc i)) (m.map bv)
  e : ∀ i, i < L.length → ∀ j, blkC (.slice (xa i) (frN L i).b.length (xc i)) j → E j
theorem Pok.st {G : Nat → Prop} {h h' : Heap} {E : Nat → Prop} {x : SV} {L : List Fr} {xa : Nat → Option Addr} {xc : Nat → Nat} (c : Chg G h h') (d : ∀ j, (blkC (sv x) j ∨ E j) → ¬ G j) (r : Pok h E x L xa xc) : Pok h' E x L xa xc :=
  ⟨Sl.chg c r.sl (fun j hj => d j (.inl (blk_toC hj))), fun i hi => let ⟨m, h1, h2⟩ := r.b i hi; ⟨m, h1, h2.chg c fun j hj => d j (.inr (r.e i hi j hj))⟩, r.e⟩
@[reducible] def pokI (E : Nat → Prop) (x : SV) (L : List Fr) (xa : Nat → Option Addr) (xc : Nat → Nat) : Itm := ⟨fun h => Pok h E x L xa xc, fun j => blkC (sv x) j ∨ E j, fun _ _ _ c d r => r.st c d⟩
theorem Hp.toPok {h0 h : Heap} {D : Nat → Prop} {M R : List Itm} {e : TypeId} {x : SV} {E : Nat → Prop} {L : List Fr} (ok : Hp h0 D (accI e x (none, 0, 0) E (L.map FrO.mk) [] :: M) R h) : ∃ xa xc, Hp h0 D (pokI E x L xa xc :: M) R h ∧ ∀ j, E j → ¬ blkC (sv x) j := by
  have ha : Acc h e x (none, 0, 0) E (L.map FrO.mk) [] := ok.m0
  obtain ⟨css, h1, h2⟩ := ha.cap
  have hlen : css.length = L.length := by have := h2.1; simpa using this
  have hex : ∀ i, ∃ y : Option Addr × Nat, i < L.length → css[i]? = some [.int .i64 (frN L i).page, .int .i64 (frN L i).commit, .slice y.1 (frN L i).b.length y.2] ∧ Cap h 1 5 (.slice y.1 (frN L i).b.length y.2) ((frN L i).b.map bv) ∧ ∀ j, blkC (.slice y.1 (frN L i).b.length y.2) j → E j := by
    intro i
    by_cases hi : i < L.length
    · obtain ⟨y, e1, hc, hE⟩ := h2.2 i (by omega) (by simpa using hi)
      obtain ⟨a, n, c⟩ := y
      have hf : frN L i = L[i] := by simp [frN, hi]
      simp only [List.getElem_map] at e1 hc
      have hn : n = L[i].b.length := Cap.lenB hc
      subst hn
      refine ⟨(a, c), fun _ => ⟨?_, by rw [hf]; exact hc, by rw [hf]; exact hE⟩⟩
      rw [List.getElem?_eq_getElem (by omega), e1, hf]; rfl
    · exact ⟨(none, 0), fun h => absurd h hi⟩
  obtain ⟨y, hy⟩ := Classical.axiomOfChoice hex
  have hfl : css.flatten = (List.range L.length).flatMap (vfN L (fun i => (y i).1) fun i => (y i).2) := by
    rw [List.flatMap_def]
    congr 1
    apply List.ext_getElem?
    intro i
    by_cases hi : i < L.length
    · rw [(hy i hi).1]; simp [hi, vfN]
    · rw [List.getElem?_eq_none (by omega), List.getElem?_eq_none (by simp; omega)]
  refine ⟨fun i => (y i).1, fun i => (y i).2, ok.re _ ⟨by rw [← hfl]; exact h1.sl, fun i hi => ⟨(frN L i).b, rfl, (hy i hi).2.1⟩, fun i hi => (hy i hi).2.2⟩ (fun j hj => hj.elim .inl fun h => .inr (.inr h)), ha.apart⟩
theorem _root_.Go.HL.Cap.re2 {h h' : Heap} (x : Shape h h') {k : Nat} {e : TypeId} {a : Option Addr} {n c : Nat} {xs ys : List Value} (r : Cap h k e (.slice a n c) xs) (hl : ys.length = n * k) (hc : ∀ b o j v, a = some ⟨b, o, none⟩ → ys[j]? = some v → cell h' b (o + j) = some v) : Cap h' k e (.slice a n c) ys := by
  obtain ⟨a', n', c', hv, hn, hcm, _, hr⟩ := r
  injection hv with h1 h2 h3; subst h1 h2 h3
  refine ⟨_, _, _, rfl, hn, hcm, hl, ?_⟩
  rcases hr with hr | ⟨b, o, cs, fz, rfl, hb, hs, hf, hx⟩
  · exact .inl hr
  · obtain ⟨cs', hb', hs'⟩ := x _ _ _ _ hb
    refine .inr ⟨b, o, cs', fz, rfl, hb', by omega, by rw [hs']; exact hf, ?_⟩
    apply List.ext_getElem?
    intro j
    by_cases hj : j < n * k
    · have h4 := hc b o j (ys[j]'(by omega)) rfl (by simp)
      rw [cell_of hb'] at h4
      rw [List.getElem?_take, if_pos hj, List.getElem?_drop, Array.getElem?_toList, h4]
      simp
    · rw [List.getElem?_take, if_neg hj, List.getElem?_eq_none (by omega)]
theorem cap_poke {h h' : Heap} {e : TypeId} {b o : Nat} {z : UInt8} (hs : Shape h h') (hk : ∀ b' off x, cell h b' off = some x → ¬ (b' = b ∧ off = o) → cell h' b' off = some x) (hn : cell h' b o = some (bv z)) {a : Option Addr} {n c : Nat} {m : List UInt8} (r : Cap h 1 e (.slice a n c) (m.map bv)) :
    ∃ m' : List UInt8, m'.length = m.length ∧ Cap h' 1 e (.slice a n c) (m'.map bv) := by
  have hml : n = m.length := r.lenB
  have hcell : ∀ b' o' j, a = some ⟨b', o', none⟩ → (hj : j < m.length) → cell h b' (o' + j) = some (bv m[j]) := fun b' o' j ha hj => by
    subst ha; exact Cap.u8 r hj
  by_cases hit : ∃ o', a = some ⟨b, o', none⟩ ∧ o' ≤ o ∧ o < o' + n
  · obtain ⟨o', ha, h1, h2⟩ := hit
    refine ⟨m.set (o - o') z, by simp, r.re2 hs (by simp; omega) fun b2 o2 j v hab hv => ?_⟩
    rw [ha] at hab; injection hab with hab; injection hab with g1 g2; subst g1 g2
    rw [List.getElem?_map] at hv
    obtain ⟨w, hw, rfl⟩ : ∃ w, (m.set (o - o') z)[j]? = some w ∧ bv w = v := by
      cases hq : (m.set (o - o') z)[j]? with
      | none => rw [hq] at hv; cases hv
      | some w => rw [hq] at hv; injection hv with hv; exact ⟨w, rfl, hv⟩
    by_cases hj : j = o - o'
    · subst hj
      rw [List.getElem?_set_self (by omega)] at hw
      injection hw with hw; subst hw
      rw [show o' + (o - o') = o by omega]; exact hn
    · rw [List.getElem?_set_ne (by omega)] at hw
      obtain ⟨hjl, rfl⟩ := List.getElem?_eq_some_iff.1 hw
      exact hk _ _ _ (hcell b o' j ha hjl) (fun h => by omega)
  · refine ⟨m, rfl, r.re2 hs (by simp; omega) fun b2 o2 j v hab hv => ?_⟩
    rw [List.getElem?_map] at hv
    obtain ⟨w, hw, rfl⟩ : ∃ w, m[j]? = some w ∧ bv w = v := by
      cases hq : m[j]? with
      | none => rw [hq] at hv; cases hv
      | some w => rw [hq] at hv; injection hv with hv; exact ⟨w, rfl, hv⟩
    obtain ⟨hjl, rfl⟩ := List.getElem?_eq_some_iff.1 hw
    refine hk _ _ _ (hcell b2 o2 j hab hjl) fun h => hit ⟨o2, by rw [hab, h.1], by omega, by omega⟩
theorem _root_.Go.HL.OpUR.pok {P : Program} {s : Slots} {h0 h : Heap} {D : Nat → Prop} {M R : List Itm} {d : Option Tmp} {ty : TypeId} {pos : String} {af : Array Edge} {g : Option (Nat × Bool)} {x y : Operand} {t : TypeId} {E : Nat → Prop} {xx : SV} {L : List Fr} {xa : Nat → Option Addr} {xc : Nat → Nat} {bq oq i k z : Nat}
    (hap : ∀ j, E j → ¬ blkC (sv xx) j) (ok : Hp h0 D (pokI E xx L xa xc :: M) R h) (hi : i < L.length) (hk : k < (frN L i).b.length) (hxa : xa i = some ⟨bq, oq, none⟩) (ht : szB P t = some 1) (hz : z < 256)
    (hx : ev s x = .pointer (some ⟨bq, oq + k, none⟩) := by exact rfl) (hy : ev s y = .int .u8 (z : Nat) := by exact rfl) : OpUR P ⟨d, .store t x y, ty, pos, af, g⟩ s h (Hp h0 D (pokI E xx L xa xc :: M) R) := by
  have hp : Pok h E xx L xa xc := ok.m0
  obtain ⟨m, hm, hc⟩ := hp.b i hi
  have hE := hp.e i hi
  rw [hxa] at hc hE
  have hbE : E bq := hE bq ⟨oq, _, _, rfl⟩
  have hbv : Value.int .u8 ((z : Nat) : Int) = bv (UInt8.ofNat z) := by simp [bv, Nat.mod_eq_of_lt hz]
  refine OpUR.mk (V.storeC hx hy ht rfl hc (by omega)) fun h' q => ok.upd q.chg (fun j e => .inr (e ▸ hbE)) _ ⟨Sl.chg q.chg hp.sl (fun j hj e => hap bq hbE (e ▸ blk_toC hj)), fun i' hi' => ?_, hp.e⟩ (fun _ h => .inl h)
  obtain ⟨m', hm', hc'⟩ := hp.b i' hi'
  have hnew : cell h' bq (oq + k) = some (bv (UInt8.ofNat z)) := by
    have h3 := q.cap
    rw [hbv, ← List.map_set] at h3
    have h4 := Cap.u8 h3 (i := k) (by simp; omega)
    rw [h4]; simp [bv]
  obtain ⟨m2, h1, h2⟩ := cap_poke q.shape q.kept hnew hc'
  exact ⟨m2, by rw [h1, hm'], h2⟩

set_option maxRecDepth 100000 in
set_option maxHeartbeats 2000000 in
theorem latest_walk {h : Heap} {F E : Nat → Prop} {a : Option Addr} {c : Nat} {l : List Fr} (hl : RdL h F E (a, l.length, c) l) (hpr : ∀ i, i < l.length → -9223372036854775808 ≤ (frN l i).page ∧ (frN l i).page ≤ 9223372036854775807) :
    HC Try.prog 4 #[.slice a l.length c] h (fun v h' => v = .bool true ∧ Ext h h') := by
  have hc2 := hl.m
  have hc1 : l.length ≤ c := hl.c
  simp only at hc2
  have ok := (Hp.nil h none_).arg hl
  refine HC.go Try.func4 71 ?_
  refine .seq <| .r <| .w 2 .asB <| .nil ?_
  refine .seq <| .seq <| .r <| .w 11 .mvS <| .k 12 .func (few_any (a := a) (c := c) (l := l) ok.r0) <| .w 13 .not <| .nil ?_
  refine .cond (fun C0 => ?_) (fun C0 => ?_)
  · --
    refine .seq <| .r <| .c' 14 .func live_any ?_
    rintro _ η1 ⟨rfl, hx⟩
    have ok := ok.ext hx
    refine .w 2 .asB <| .nil ?_
    refine .ret ⟨.bool true, Res.one rfl rfl, ⟨rfl, ok.chg⟩⟩
  have hfw : fewN l = true := by simpa using C0
  obtain ⟨hw1, hw2⟩ := fewN_iff.1 hfw
  have hB : ∀ i, i < l.length → (frN l i).b.length ≤ 1000000 := fun i hi => by have := hw2 i hi; omega
  refine .skip <| .seq <| .r <| .w 16 .mvS <| .c' 17 .func (latestO_any ok.r0 (by omega) hB hpr) ?_
  rintro _ η2 ⟨xA, EA, rfl, hx, ha, hnw⟩
  obtain ⟨aA, nA, cA⟩ := xA
  obtain rfl : nA = (latF l).length := by have := ha.len; simpa using this
  have hrdA := (Acc.toFr ha).rd
  rw [List.map_map, show FrO.f ∘ FrO.mk = id from rfl, List.map_id] at hrdA
  have hcA := hrdA.c
  have hmA := hrdA.m
  simp only at hcA hmA
  have ok := ok.accNew hx ha hnw
  refine .w 15 .mvU <| .w 18 .ex <| .w 19 .ex <| .w 3 .asS <| .w 4 .asI <| .nil ?_
  refine .seq <| .r <| .w 21 .mvS <| .c' 22 .func (rlatest_any ok.r0 (by omega)) ?_
  rintro _ η3 ⟨xb, rfl, hx, hr⟩
  obtain ⟨ab, nb, cb⟩ := xb
  obtain rfl : nb = (latF l).length := hr.n
  have hcb := hr.c
  have hmb := hr.m
  simp only at hcb hmb
  have ok := (ok).grow hx List.mem_cons_self (rdI (Nw η2 η3) (fun j => (fun j => E j ∧ j < h.size) j ∧ j < η2.size) (ab, (latF l).length, cb) (latF l)) hr (fun j hj => hj.elim .inr (fun h1 => .inl (.inr h1.1)))
  refine .w 20 .mvU <| .w 23 .ex <| .w 24 .ex <| .w 5 .asS <| .w 6 .asI <| .nil ?_
  refine .seq <| .seq <| .r <| .w 25 .mvS <| .w 26 .mvS <| ?_
  have hrq := (Acc.toFr ok.m0).rd
  rw [List.map_map, show FrO.f ∘ FrO.mk = id from rfl, List.map_id] at hrq
  refine .k 27 .func (fsame_any (a := aA) (c := cA) (l := latF l) (b := ab) (d := cb) (l2 := latF l) hrq ok.r0) <| .w 28 .notd <| .w 29 .mvB <| .sd (fun G29 => ?_) (fun G29 => ?_)
  ·
    exact absurd rfl G29
  refine .w 30 .mvI <| .w 31 .mvI <| .w 32 .neq <| .w 33 .pkf <| .nil ?_
  refine .cd (fun C1 => ?_) (fun C1 => ?_)
  · --
    exact absurd rfl C1
  refine .skip <| .seq <| .seq <| ?_
  obtain ⟨ya, yc, ok, hap⟩ := Hp.toPok (ok)
  refine .r <| .w 7 .asI <| .nil ?_
  refine .block fun K0 hK0 => .loop (fun m s hh => ∃ (i : Nat), Has s [(0, .slice a l.length c), (3, .slice aA ((latF l).length) cA), (5, .slice ab ((latF l).length) cb), (7, .int .i64 (i : Int))] ∧ Hp h none_ [pokI EA (aA, (latF l).length, cA) (latF l) ya yc] [rdI (Nw η2 η3) (fun j => (fun j => E j ∧ j < h.size) j ∧ j < η2.size) (ab, (latF l).length, cb) (latF l), rdI (fun j => F j ∧ j < h.size) (fun j => E j ∧ j < h.size) (a, l.length, c) l] hh ∧ i ≤ (latF l).length ∧ m = (latF l).length - i) ?_ ?_
  · exact ⟨_, 0, ⟨rfl, rfl, rfl, rfl, trivial⟩, ok, Nat.zero_le _, rfl⟩
  rintro _ _ η4 ⟨i, hs, ok, hi, rfl⟩ J0 hJ0
  refine .frame hs fun τ => ?_
  refine .seq <| .seq <| .r <| .w 34 .mvI <| .w 35 .mvS <| .w 36 (.len T.el24) <| .w 37 .lss <| .nil ?_
  refine .cdr (fun C2 => ?_) (fun C2 => ?_)
  · --
    refine .exit <| hK0 _ _ <| .seq <| .r <| .w 61 .mvS <| .c' 62 .func (latestO_any ok.r1 (by omega) hB hpr) ?_
    rintro _ η5 ⟨xC, EC, rfl, hx, ha, hnw⟩
    obtain ⟨aC, nC, cC⟩ := xC
    obtain rfl : nC = (latF l).length := by have := ha.len; simpa using this
    have hrdC := (Acc.toFr ha).rd
    rw [List.map_map, show FrO.f ∘ FrO.mk = id from rfl, List.map_id] at hrdC
    have hcC := hrdC.c
    have hmC := hrdC.m
    simp only at hcC hmC
    have ok := ok.accNew hx ha hnw
    refine .w 60 .mvU <| .w 63 .ex <| .w 64 .ex <| .w 9 .asS <| .w 10 .asI <| .nil ?_
    refine .seq <| .r <| .c' 65 .func live_any ?_
    rintro _ η6 ⟨rfl, hx⟩
    have ok := ok.ext hx
    refine .w 66 .mvB <| .w 67 .mvS <| .w 68 .mvS <| ?_
    have hrq := (Acc.toFr ok.m0).rd
    rw [List.map_map, show FrO.f ∘ FrO.mk = id from rfl, List.map_id] at hrq
    refine .k 69 .func (fsame_any (a := aC) (c := cC) (l := latF l) (b := ab) (d := cb) (l2 := latF l) hrq ok.r0) <| .w 70 .pkt <| .w 2 .asB <| .nil ?_
    refine .ret ⟨.bool (decide (latF l = latF l)), Res.one rfl rfl, ⟨congrArg _ (decide_eq_true rfl), ok.chg⟩⟩
  obtain ⟨ba, oa, rfl, _⟩ := Sl.pos (a := aA) (n := (latF l).length) (c := cA) (ok.m0).sl (by omega)
  refine .skip <| .seq <| .block fun K1 hK1 => .seq <| .r <| .w 8 .asI <| .nil ?_
  refine .block fun K2 hK2 => .loop (fun m s hh => ∃ (k : Nat), Has s [(0, .slice a l.length c), (3, .slice (some ⟨ba, oa, none⟩) ((latF l).length) cA), (5, .slice ab ((latF l).length) cb), (7, .int .i64 (i : Int)), (8, .int .i64 (k : Int))] ∧ Hp h none_ [pokI EA (some ⟨ba, oa, none⟩, (latF l).length, cA) (latF l) ya yc] [rdI (Nw η2 η3) (fun j => (fun j => E j ∧ j < h.size) j ∧ j < η2.size) (ab, (latF l).length, cb) (latF l), rdI (fun j => F j ∧ j < h.size) (fun j => E j ∧ j < h.size) (a, l.length, c) l] hh ∧ k ≤ (frN (latF l) i).b.length ∧ m = (frN (latF l) i).b.length - k) ?_ ?_
  · exact ⟨_, 0, ⟨rfl, rfl, rfl, rfl, rfl, trivial⟩, ok, Nat.zero_le _, rfl⟩
  rintro _ _ η7 ⟨k, hs, ok, hk, rfl⟩ J1 hJ1
  refine .frame hs fun τ => ?_
  refine .seq <| .seq <| .r <| .w 40 .mvI <| .w 41 .mvS <| .w 42 .mvI <| .w 43 (.ix i T.el24 T.sz38) <| .w 44 (.fa T.fd38_2) <| .w 45 (.ld T.ag22 (frs_at (ok.m0).sl (i := i) (j := 2) (by omega) rfl)) <| .w 46 (.len T.el22) <| .w 47 .lss <| .nil ?_
  refine .cdr (fun C3 => ?_) (fun C3 => ?_)
  · --
    refine .exit <| hK2 _ _ <| .end <| hK1 _ _ <| .r <| .w 38 .mvI <| .w 39 (.addI (b := 1)) <| .w 7 .asI <| .nil ?_
    refine .end <| hJ0 _ _ _ ⟨i + 1, ⟨rfl, rfl, rfl, rfl, trivial⟩, ok, by omega, rfl⟩ (by omega)
  refine .skip <| .seq <| .block fun K3 hK3 => .r <| .w 50 .mvS <| .w 51 .mvI <| .w 52 (.ix i T.el24 T.sz38) <| .w 53 (.fa T.fd38_2) <| .w 54 (.ld T.ag22 (frs_at (ok.m0).sl (i := i) (j := 2) (by omega) rfl)) <| ?_
  obtain ⟨mq, hmq, hcq⟩ := (ok.m0).b i (by omega)
  obtain ⟨bq, oq, eq, _⟩ := Cap.pos hcq (by omega)
  have hxb := byte_lt (mq[k]'(by omega))
  have hmx := Cap.bd hcq
  have hle := Cap.le hcq
  rw [eq] at hcq ⊢
  refine .w 55 .mvI <| .w 56 (.ix1 k T.el22 T.sz5) <| .w 57 (.ld T.ag5 (Cap.u8 hcq (i := k) (by omega))) <| .w 58 (.addn (M := 256) rfl rfl (b := 1)) <| .w 59 (.ix1 k T.el22 T.sz5) <| .ur' (.pok (k := k) hap ok (by omega) (by omega) eq T.sz5 (Nat.mod_lt _ (by decide))) ?_
  rintro η8 ok
  refine .nil ?_
  refine .end <| hK3 _ _ <| .r <| .w 48 .mvI <| .w 49 (.addI (b := 1)) <| .w 8 .asI <| .nil ?_
  refine .end <| hJ1 _ _ _ ⟨k + 1, ⟨rfl, rfl, rfl, rfl, rfl, trivial⟩, ok, by omega, rfl⟩ (by omega)

theorem latest_row {h : Heap} {a : Option Addr} {n c : Nat} {l : List Fr} (hl : RdL h any_ any_ (a, n, c) l) (hp : ∀ f ∈ l, InI f.page ∧ InI f.commit) : HC Try.prog 4 #[.slice a n c] h (fun v h' => v = .bool true ∧ Ext h h') := by
  obtain rfl : n = l.length := hl.n
  exact latest_walk hl fun i hi => by rw [frN_lt hi]; exact (hp _ (List.getElem_mem hi)).1
end Go.Proofs.Ytpebbkhainpfaaa
