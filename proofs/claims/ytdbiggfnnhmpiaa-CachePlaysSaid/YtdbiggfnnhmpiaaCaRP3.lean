/- The document's cache: Dirty as its method computes it: the dirty pages by rising numbers. Conditions: the state is readable, its numbers are above 0 and differ. -/
import Derived.Test.YtdbiggfnnhmpiaaCaRP2
import Derived.Test.YtdbiggfnnhmpiaaCaDirty
namespace Go.Proofs.Ytdbiggfnnhmpiaa
open Go Go.HL

/-- The bytes of the page of a number. -/
def pget (ps : List Pg) (k : Int) : SV := ((ps.find? fun p => decide (p.no = k)).map fun p => p.b).getD (none, 0, 0)
def fsel (ps : List Pg) (T : List Int) : List Fr := T.map fun k => ⟨k, 0, pget ps k⟩
theorem pget_at {ps : List Pg} (hn : (ps.map fun p => p.no).Nodup) {q : Nat} (hq : q < ps.length) : pget ps ps[q].no = ps[q].b := by
  unfold pget
  have h1 : ps.find? (fun p => decide (p.no = ps[q].no)) = some ps[q] := by
    induction ps generalizing q with
    | nil => simp at hq
    | cons p ps ih =>
      rw [List.map_cons, List.nodup_cons] at hn
      cases q with
      | zero => simp
      | succ q =>
        have hq' : q < ps.length := by simpa using hq
        have hne : ¬ p.no = ps[q].no := fun e => hn.1 (List.mem_map.2 ⟨ps[q], List.getElem_mem hq', e.symm⟩)
        rw [List.find?_cons]
        simp [hne, ih hn.2 hq']
  rw [h1]; rfl
/-- What has been told so far: T, up to the number z. -/
structure Ds (ps : List Pg) (T : List Int) (z : Int) (n : Nat) : Prop where
  inc : T.Pairwise (· < ·)
  le : ∀ k ∈ T, k ≤ z
  dir : ∀ k ∈ T, ∃ p ∈ ps, p.no = k ∧ p.d = true
  all : ∀ p ∈ ps, p.d = true → p.no ≤ z → p.no ∈ T
  len : T.length ≤ n
  pro : T.length = n ∨ ∀ p ∈ ps, p.d = true → p.no ∈ T
theorem Ds.zero {ps : List Pg} (hp : ∀ p ∈ ps, 1 ≤ p.no) : Ds ps [] 0 0 := ⟨.nil, by simp, by simp, fun p hm _ hz => by have := hp p hm; omega, by simp, .inl rfl⟩
theorem Ds.nodup {ps : List Pg} {T : List Int} {z : Int} {n : Nat} (r : Ds ps T z n) : T.Nodup := by
  have := r.inc
  exact this.imp fun h e => by omega
/-- The search: where the least one above z stands. -/
def Nx (ps : List Pg) (z : Int) (i : Nat) (w : Int) : Prop := (w = -1 ∧ ∀ j (hj : j < ps.length), j < i → ps[j].d = true → ps[j].no ≤ z) ∨
  ∃ q : Nat, q < i ∧ w = q ∧ ∃ hq : q < ps.length, ps[q].d = true ∧ z < ps[q].no ∧ ∀ j (hj : j < ps.length), j < i → ps[j].d = true → z < ps[j].no → ps[q].no ≤ ps[j].no
theorem Nx.zero {ps : List Pg} {z : Int} : Nx ps z 0 (-1) := .inl ⟨rfl, fun j _ h => by omega⟩
theorem Nx.no {ps : List Pg} {z w : Int} {i : Nat} (r : Nx ps z i w) (h : ∀ hi : i < ps.length, ps[i].d = true → z < ps[i].no → ∃ q : Nat, w = q ∧ ∃ hq : q < ps.length, ps[q].no ≤ ps[i].no) : Nx ps z (i + 1) w := by
  rcases r with ⟨h1, h2⟩ | ⟨q, h1, h2, hq, h3, h4, h5⟩
  · refine .inl ⟨h1, fun j hj hji hd => ?_⟩
    by_cases e : j = i
    · subst e
      by_cases hz : z < ps[j].no
      · obtain ⟨q, hw, _⟩ := h hj hd hz; omega
      · omega
    · exact h2 j hj (by omega) hd
  · refine .inr ⟨q, by omega, h2, hq, h3, h4, fun j hj hji hd hz => ?_⟩
    by_cases e : j = i
    · subst e
      obtain ⟨q', hw, hq', hle⟩ := h hj hd hz
      have : q' = q := by omega
      subst this; exact hle
    · exact h5 j hj (by omega) hd hz
theorem Nx.yes {ps : List Pg} {z w : Int} {i : Nat} (r : Nx ps z i w) (hi : i < ps.length) (hd : ps[i].d = true) (hz : z < ps[i].no) (h : ∀ q : Nat, w = q → ∀ hq : q < ps.length, ps[i].no ≤ ps[q].no) : Nx ps z (i + 1) i := by
  refine .inr ⟨i, by omega, rfl, hi, hd, hz, fun j hj hji hjd hjz => ?_⟩
  by_cases e : j = i
  · subst e; omega
  · rcases r with ⟨h1, h2⟩ | ⟨q, h1, h2, hq, h3, h4, h5⟩
    · have := h2 j hj (by omega) hjd; omega
    · have := h5 j hj (by omega) hjd hjz
      have := h q h2 hq
      omega
theorem Ds.skip {ps : List Pg} {T : List Int} {z : Int} {n : Nat} (r : Ds ps T z n) (x : Nx ps z ps.length (-1)) : Ds ps T z (n + 1) := by
  refine ⟨r.inc, r.le, r.dir, r.all, by have := r.len; omega, .inr fun p hp hd => ?_⟩
  rcases x with ⟨_, h2⟩ | ⟨q, _, h2, _⟩
  · obtain ⟨j, hj, rfl⟩ := List.mem_iff_getElem.1 hp
    exact r.all _ hp hd (h2 j hj hj hd)
  · omega
theorem Ds.next {ps : List Pg} {T : List Int} {z : Int} {n q : Nat} (r : Ds ps T z n) (x : Nx ps z ps.length q) : ∃ hq : q < ps.length, Ds ps (T ++ [ps[q].no]) ps[q].no (n + 1) := by
  rcases x with ⟨h, _⟩ | ⟨q', h1, h2, hq, h3, h4, h5⟩
  · omega
  have : q' = q := by omega
  subst this
  refine ⟨hq, ?_, ?_, ?_, ?_, by have := r.len; simp; omega, ?_⟩
  · rw [List.pairwise_append]
    refine ⟨r.inc, by simp, fun a ha b hb => ?_⟩
    rw [List.mem_singleton] at hb; subst hb
    have := r.le a ha; omega
  · intro k hk
    rcases List.mem_append.1 hk with hk | hk
    · have := r.le k hk; omega
    · rw [List.mem_singleton] at hk; omega
  · intro k hk
    rcases List.mem_append.1 hk with hk | hk
    · exact r.dir k hk
    · rw [List.mem_singleton] at hk; subst hk; exact ⟨_, List.getElem_mem hq, rfl, h3⟩
  · intro p hp hd hle
    by_cases hz : p.no ≤ z
    · exact List.mem_append_left _ (r.all p hp hd hz)
    · obtain ⟨j, hj, rfl⟩ := List.mem_iff_getElem.1 hp
      have := h5 j hj hj hd (by omega)
      have e : ps[j].no = ps[q'].no := by omega
      exact List.mem_append_right _ (by simp [e])
  · rcases r.pro with h6 | h6
    · exact .inl (by simp [h6])
    · have := h6 _ (List.getElem_mem hq) h3
      have := r.le _ this
      omega
theorem nodup_full : ∀ {T M : List Int}, T.Nodup → (∀ x ∈ T, x ∈ M) → M.length ≤ T.length → ∀ x ∈ M, x ∈ T
  | [], M, _, _, hl, x, hx => by
    have : M = [] := List.eq_nil_of_length_eq_zero (by simpa using hl)
    subst this; exact hx
  | a :: T, M, hn, hs, hl, x, hx => by
    rw [List.nodup_cons] at hn
    have ha := hs a List.mem_cons_self
    by_cases e : x = a
    · subst e; exact List.mem_cons_self
    · have h1 : (M.erase a).length = M.length - 1 := List.length_erase_of_mem ha
      have h2 := List.length_pos_of_mem ha
      refine List.mem_cons_of_mem _ (nodup_full (M := M.erase a) hn.2 (fun y hy => ?_) (by simp at hl; omega) x ((List.mem_erase_of_ne e).2 hx))
      exact (List.mem_erase_of_ne (by rintro rfl; exact hn.1 hy)).2 (hs y (List.mem_cons_of_mem _ hy))
theorem Ds.done {ps : List Pg} {T : List Int} {z : Int} (hn : (ps.map fun p => p.no).Nodup) (r : Ds ps T z ps.length) : ∀ k, k ∈ T ↔ ∃ p ∈ ps, p.no = k ∧ p.d = true := fun k => by
  refine ⟨r.dir k, ?_⟩
  rintro ⟨p, hp, rfl, hd⟩
  rcases r.pro with h | h
  · have hs : ∀ x ∈ T, x ∈ ps.map fun p => p.no := fun x hx => by
      obtain ⟨p, hp, rfl, _⟩ := r.dir x hx
      exact List.mem_map.2 ⟨p, hp, rfl⟩
    exact nodup_full r.nodup hs (by simp [h]) _ (List.mem_map.2 ⟨p, hp, rfl⟩)
  · exact h p hp hd
theorem dirtyS_told {L : List AP} (hn : (nos L).Nodup) : ∀ {T : List Int}, (∀ k ∈ T, ∃ x ∈ L, x.no = k ∧ x.d = true) → dirtyS T L = T.map fun k => ⟨k, 0, gotL k L⟩
  | [], _ => rfl
  | k :: T, h => by
    obtain ⟨x, hx, hk, hd⟩ := h k List.mem_cons_self
    obtain ⟨y, hy⟩ := hit_mem (no := k) (L := L) (List.mem_map.2 ⟨x, hx, hk⟩)
    have hyx : y = x := nos_inj hn (hit_some hy).1 hx (by rw [(hit_some hy).2, hk])
    subst hyx
    unfold dirtyS
    rw [List.flatMap_cons]
    have := dirtyS_told hn (T := T) fun j hj => h j (List.mem_cons_of_mem _ hj)
    unfold dirtyS at this
    rw [this, List.map_cons]
    unfold dirty1 gotL
    rw [hy, told_yes hd, hk]; rfl
theorem ps_dirty {h : Heap} {E : Nat → Prop} {ps : List Pg} {L : List AP} (r : All2 (RIs h E) ps L) (k : Int) : (∃ p ∈ ps, p.no = k ∧ p.d = true) ↔ ∃ x ∈ L, x.no = k ∧ x.d = true := by
  constructor
  · rintro ⟨p, hp, h1, h2⟩
    obtain ⟨i, hi, rfl⟩ := List.mem_iff_getElem.1 hp
    have hl : i < L.length := by rw [← r.1]; exact hi
    exact ⟨L[i], List.getElem_mem hl, by rw [← (r.2 i hi hl).no, h1], by rw [← (r.2 i hi hl).d, h2]⟩
  · rintro ⟨x, hx, h1, h2⟩
    obtain ⟨i, hi, rfl⟩ := List.mem_iff_getElem.1 hx
    have hl : i < ps.length := by rw [r.1]; exact hi
    exact ⟨ps[i], List.getElem_mem hl, by rw [(r.2 i hl hi).no, h1], by rw [(r.2 i hl hi).d, h2]⟩
/-- The frames that are told, where their pages are read. -/
theorem fsel_is {h : Heap} {E : Nat → Prop} {ps : List Pg} {L : List AP} (r : All2 (RIs h E) ps L) (hn : (nos L).Nodup) {T : List Int} (hT : ∀ k ∈ T, ∃ p ∈ ps, p.no = k ∧ p.d = true) : All2 (FrIs h) (fsel ps T) (dirtyS T L) := by
  have hno := nos_ps r
  have hT' : ∀ k ∈ T, ∃ x ∈ L, x.no = k ∧ x.d = true := fun k hk => by
    obtain ⟨p, hp, h1, h2⟩ := hT k hk
    obtain ⟨i, hi, rfl⟩ := List.mem_iff_getElem.1 hp
    have hl : i < L.length := by rw [← r.1]; exact hi
    exact ⟨L[i], List.getElem_mem hl, by rw [← (r.2 i hi hl).no, h1], by rw [← (r.2 i hi hl).d, h2]⟩
  rw [dirtyS_told hn hT']
  unfold fsel
  refine ⟨by simp, fun i h1 h2 => ?_⟩
  simp only [List.length_map] at h1
  simp only [List.getElem_map]
  obtain ⟨p, hp, h3, _⟩ := hT _ (List.getElem_mem h1)
  obtain ⟨j, hj, rfl⟩ := List.mem_iff_getElem.1 hp
  have hl : j < L.length := by rw [← r.1]; exact hj
  have h4 := r.2 j hj hl
  refine ⟨rfl, rfl, ?_⟩
  rw [← h3, pget_at (by rw [hno]; exact hn) hj]
  have h5 : gotL ps[j].no L = L[j].b := by
    unfold gotL
    obtain ⟨y, hy⟩ := hit_mem (no := ps[j].no) (L := L) (List.mem_map.2 ⟨L[j], List.getElem_mem hl, h4.no.symm⟩)
    have : y = L[j] := nos_inj hn (hit_some hy).1 (List.getElem_mem hl) (by rw [(hit_some hy).2, h4.no])
    rw [hy, this]; rfl
  rw [h5]
  exact h4.b.by

set_option maxRecDepth 100000 in
set_option maxHeartbeats 2000000 in
theorem rdirty_any {h : Heap} {E : Nat → Prop} {x : SV} {L : List AP} (hr : RC h E x L) (hN : L.length ≤ 1000000) (hn : (nos L).Nodup) (h1 : ∀ x ∈ L, 1 ≤ x.no) (room : Int) :
    HC Try.prog 24 #[.agg #[.int .i64 room, sv x]] h (fun v h' => ∃ T : List Int, T.Pairwise (· < ·) ∧ (∀ k, k ∈ T ↔ ∃ x ∈ L, x.no = k ∧ x.d = true) ∧ Frames h' v (dirtyS T L) ∧ Ext h h') := by
  obtain ⟨a, n, c⟩ := x
  obtain ⟨ps, ok, hpl, hLl, hnc, hcm⟩ := hr.start (D := none_)
  have hlt := hr.lt
  have hpn := nos_ps ok.r0
  have hpd : (ps.map fun p => p.no).Nodup := by rw [hpn]; exact hn
  have hps1 : ∀ p ∈ ps, 1 ≤ p.no := fun p hp => by
    obtain ⟨x, hx, e⟩ := List.mem_map.1 (show p.no ∈ nos L by rw [← hpn]; exact List.mem_map.2 ⟨p, hp, rfl⟩)
    have := h1 x hx
    omega
  refine HC.go Try.func24 78 ?_
  refine .seq <| .r <| .a' 1 (.bxA (cs := [.int .i64 room, .slice a n c]) ok) ?_
  rintro _ η1 ⟨pb1, rfl, ok, xe⟩
  refine .w 2 .asS <| .nil ?_
  refine .seq <| .r <| .w 3 .asS <| .nil ?_
  refine .seq <| ?_
  have ok := ok.nilC (k := 3) (e := 39)
  refine .r <| .w 4 .asI <| .nil ?_
  refine .seq <| .seq <| .r <| .w 5 .asI <| .nil ?_
  refine .block fun K0 hK0 => .loop (fun m s hh => ∃ (i : Nat) (U : List Int) (z : Int) (a1 : Option Addr) (n1 c1 : Nat), Has s [(1, .pointer (some ⟨pb1, 0, none⟩)), (3, .slice a1 n1 c1), (4, .int .i64 z), (5, .int .i64 (i : Int))] ∧ Hp h none_ [capI 3 39 (a1, n1, c1) ((fsel ps U).flatMap fr), boxI pb1 49 [.int .i64 room, .slice a n c]] [plI E ps L, rowI 3 (a, n, c) (ps.flatMap pg)] hh ∧ i ≤ n ∧ Ds ps U z i ∧ m = n - i) ?_ ?_
  · exact ⟨_, 0, [], 0, _, _, _, ⟨rfl, rfl, rfl, rfl, trivial⟩, ok.n1.n1.cx (by simp [fsel]), Nat.zero_le _, Ds.zero hps1, rfl⟩
  rintro _ _ η2 ⟨i, U, z, a1, n1, c1, hs, ok, hi, hds, rfl⟩ J0 hJ0
  refine .frame hs fun τ => ?_
  refine .seq <| .seq <| .r <| .w 8 .mvI <| .w 9 (.fa T.fd49_1) <| .w 10 (.ldx T.ag47 ok.m1) <| .w 11 (.len T.el47) <| .w 12 .lss <| .nil ?_
  refine .cdr (fun C0 => ?_) (fun C0 => ?_)
  · --
    have hin : i = ps.length := by omega
    subst hin
    refine .exit <| hK0 _ _ <| .seq <| .r <| .w 77 .mvS <| .w 2 .asS <| .nil ?_
    refine .ret ⟨.slice a1 n1 c1, Res.one rfl rfl, ⟨U, hds.inc, fun k => by rw [hds.done hpd k]; exact ps_dirty ok.r0 k, ⟨fsel ps U, (ok.m0).sl, fsel_is ok.r0 hn hds.dir⟩, ok.chg⟩⟩
  have hil : i < ps.length := by omega
  refine .skip <| .seq <| .block fun K1 hK1 => .seq <| .r <| .w 6 .asI <| .nil ?_
  refine .seq <| .seq <| .r <| .w 7 .asI <| .nil ?_
  refine .block fun K2 hK2 => .loop (fun m s hh => ∃ (j : Nat) (w : Int), Has s [(1, .pointer (some ⟨pb1, 0, none⟩)), (3, .slice a1 n1 c1), (4, .int .i64 z), (5, .int .i64 (i : Int)), (6, .int .i64 w), (7, .int .i64 (j : Int))] ∧ Hp h none_ [capI 3 39 (a1, n1, c1) ((fsel ps U).flatMap fr), boxI pb1 49 [.int .i64 room, .slice a n c]] [plI E ps L, rowI 3 (a, n, c) (ps.flatMap pg)] hh ∧ j ≤ n ∧ Nx ps z j w ∧ m = n - j) ?_ ?_
  · exact ⟨_, 0, _, ⟨rfl, rfl, rfl, rfl, rfl, rfl, trivial⟩, ok.n1.n1, Nat.zero_le _, Nx.zero, rfl⟩
  rintro _ _ η3 ⟨j, w, hs, ok, hj, hnx, rfl⟩ J1 hJ1
  refine .frame hs fun τ => ?_
  refine .seq <| .seq <| .r <| .w 15 .mvI <| .w 16 (.fa T.fd49_1) <| .w 17 (.ldx T.ag47 ok.m1) <| .w 18 (.len T.el47) <| .w 19 .lss <| .nil ?_
  refine .cdr (fun C1 => ?_) (fun C1 => ?_)
  · --
    have hjn : j = ps.length := by omega
    subst hjn
    refine .exit <| hK2 _ _ <| .seq <| .r <| .w 58 .mvI <| .w 59 .geq <| .nil ?_
    refine .cd (fun C3 => ?_) (fun C3 => ?_)
    · --
      obtain ⟨q, hq⟩ : ∃ q : Nat, w = q := ⟨w.toNat, by omega⟩
      subst hq
      obtain ⟨hql, hds2⟩ := hds.next hnx
      have hlen := hds.len
      have hfl : ((fsel ps U).flatMap fr).length = U.length * 3 := by rw [flat_len fr_len]; simp [fsel]
      refine .seq <| .r <| .w 60 (.fa T.fd49_1) <| .w 61 (.ldx T.ag47 ok.m1) <| .w 62 .mvI <| ?_
      obtain ⟨bb1, oo1, rfl, fb1⟩ := ok.r1.pos (n := n) (by omega)
      refine .w 63 (.ix q T.el47 T.sz78) <| .w 64 (.fa T.fd78_0) <| .w 65 (.ld T.ag3 (sl_at pg_len ok.r1 (i := q) (j := 0) (by omega) rfl)) <| .w 4 .asI <| .nil ?_
      refine .r <| .w 66 .mvS <| .w 67 .mvI <| .w 68 (.fa T.fd49_1) <| .w 69 (.ldx T.ag47 ok.m1) <| .w 70 .mvI <| .w 71 (.ix q T.el47 T.sz78) <| .w 72 (.fa T.fd78_1) <| .w 73 (.ld T.ag30 (sl_at pg_len ok.r1 (i := q) (j := 1) (by omega) rfl)) <| .w 74 (.bd #[.int .i64 (ps[q].no), .int .i64 0, .slice (ps[q].b.1) (ps[q].b.2.1) (ps[q].b.2.2)] T.zr39 T.pl39 rfl) <| .a' 75 (.lit [.tmp 74] (cs := [.int .i64 (ps[q].no), .int .i64 0, .slice (ps[q].b.1) (ps[q].b.2.1) (ps[q].b.2.2)]) T.el36 T.sz39 T.zr39 ok ⟨rfl, trivial⟩) ?_
      rintro _ η4 ⟨pb2, rfl, ok, xe⟩
      refine .a' 76 (.app (news := [.int .i64 (ps[q].no), .int .i64 0, .slice (ps[q].b.1) (ps[q].b.2.1) (ps[q].b.2.2)]) T.el36 T.sz39 T.by39 T.zr39 ok.n1 (ok.n1.m1).sl (oneL rfl) (by simp only [List.length_map, List.length_append, List.length_take, List.length_cons, List.length_nil]; omega)) ?_
      rintro _ η5 ⟨ya1, yn1, yc1, rfl, ok, ap⟩
      refine .w 3 .asS <| .nil ?_
      refine .end <| hK1 _ _ <| .r <| .w 13 .mvI <| .w 14 .add <| .w 5 .asI <| .nil ?_
      refine .end <| hJ0 _ _ _ ⟨i + 1, U ++ [ps[q].no], _, _, _, _, ⟨rfl, rfl, rfl, rfl, trivial⟩, ok.n2.n1.k2.cx (by first | rfl | (unfold fsel; rw [List.map_append, List.flatMap_append]; congr 1; simp [fr, pget_at hpd])), by omega, hds2, rfl⟩ (by omega)
    have hw : w = -1 := by rcases hnx with ⟨h, _⟩ | ⟨q, _, h, _⟩ <;> omega
    subst hw
    refine .skip <| .end <| hK1 _ _ <| .r <| .w 13 .mvI <| .w 14 .add <| .w 5 .asI <| .nil ?_
    refine .end <| hJ0 _ _ _ ⟨i + 1, U, _, _, _, _, ⟨rfl, rfl, rfl, rfl, trivial⟩, ok.n1.n1.cx (by first | rfl | (unfold fsel; rw [List.map_append, List.flatMap_append]; congr 1; simp [fr, pget_at hpd])), by omega, hds.skip hnx, rfl⟩ (by omega)
  have hjl : j < ps.length := by omega
  refine .skip <| .seq <| .block fun K3 hK3 => .seq <| .q (hm := mixed) <| .w 22 (.fa T.fd49_1) <| .w 23 (.ldx T.ag47 ok.m1) <| .w 24 .mvI <| ?_
  obtain ⟨bb2, oo2, rfl, fb2⟩ := ok.r1.pos (n := n) (by omega)
  refine .w 25 (.ix j T.el47 T.sz78) <| .w 26 (.fa T.fd78_2) <| .w 27 (.ld T.ag4 (sl_at pg_len ok.r1 (i := j) (j := 2) (by omega) rfl)) <| .w 28 .mvB <| .spl (fun G28 => ?_) (fun G28 => ?_)
  ·
    refine .w 29 (.fa T.fd49_1) <| .w 30 (.ldx T.ag47 ok.m1) <| .w 31 .mvI <| .w 32 (.ix j T.el47 T.sz78) <| .w 33 (.fa T.fd78_0) <| .w 34 (.ld T.ag3 (sl_at pg_len ok.r1 (i := j) (j := 0) (by omega) rfl)) <| .w 35 .mvI <| .w 36 .gtr <| .w 37 .pkt <| .w 38 .mvB <| .sd (fun G38 => ?_) (fun G38 => ?_)
    ·
      refine .w 39 .mvI <| .w 40 .lss <| .w 41 .mvB <| .sd (fun G41 => ?_) (fun G41 => ?_)
      ·
        refine .x 42 <| .x 43 <| .x 44 <| .x 45 <| .x 46 <| .x 47 <| .x 48 <| .x 49 <| .x 50 <| .x 51 <| .x 52 <| .x 53 <| .x 54 <| .w 55 .pkt <| .w 56 .pkt <| .nil ?_
        refine .ct <| .r <| .w 57 .mvI <| .w 6 .asI <| .nil ?_
        refine .end <| hK3 _ _ <| .r <| .w 20 .mvI <| .w 21 .add <| .w 7 .asI <| .nil ?_
        refine .end <| hJ1 _ _ _ ⟨j + 1, _, ⟨rfl, rfl, rfl, rfl, rfl, rfl, trivial⟩, ok.n1.n1, by omega, hnx.yes hjl G28 G38 (fun _ h _ => by omega), rfl⟩ (by omega)
      obtain ⟨q, hq1, hq2⟩ : ∃ q : Nat, w = q ∧ q < ps.length := by
        rcases hnx with ⟨h, _⟩ | ⟨q, _, h, hq, _⟩
        · omega
        · exact ⟨q, h, hq⟩
      refine .w 42 (.fa T.fd49_1) <| .w 43 (.ldx T.ag47 ok.m1) <| .w 44 .mvI <| .w 45 (.ix j T.el47 T.sz78) <| .w 46 (.fa T.fd78_0) <| .w 47 (.ld T.ag3 (sl_at pg_len ok.r1 (i := j) (j := 0) (by omega) rfl)) <| .w 48 (.fa T.fd49_1) <| .w 49 (.ldx T.ag47 ok.m1) <| .w 50 .mvI <| .w 51 (.ix q T.el47 T.sz78) <| .w 52 (.fa T.fd78_0) <| .w 53 (.ld T.ag3 (sl_at pg_len ok.r1 (i := q) (j := 0) (by omega) rfl)) <| .w 54 .lss <| .w 55 .pkf <| .w 56 .pkt <| .nil ?_
      refine .cd (fun C2 => ?_) (fun C2 => ?_)
      · --
        refine .r <| .w 57 .mvI <| .w 6 .asI <| .nil ?_
        refine .end <| hK3 _ _ <| .r <| .w 20 .mvI <| .w 21 .add <| .w 7 .asI <| .nil ?_
        refine .end <| hJ1 _ _ _ ⟨j + 1, _, ⟨rfl, rfl, rfl, rfl, rfl, rfl, trivial⟩, ok.n1.n1, by omega, hnx.yes hjl G28 G38 (fun q' h _ => by have e : q' = q := (by omega); subst e; omega), rfl⟩ (by omega)
      refine .skip <| .end <| hK3 _ _ <| .r <| .w 20 .mvI <| .w 21 .add <| .w 7 .asI <| .nil ?_
      refine .end <| hJ1 _ _ _ ⟨j + 1, _, ⟨rfl, rfl, rfl, rfl, rfl, rfl, trivial⟩, ok.n1.n1, by omega, (hnx.no fun _ _ _ => ⟨q, hq1, hq2, by omega⟩), rfl⟩ (by omega)
    refine .x 39 <| .x 40 <| .x 41 <| .x 42 <| .x 43 <| .x 44 <| .x 45 <| .x 46 <| .x 47 <| .x 48 <| .x 49 <| .x 50 <| .x 51 <| .x 52 <| .x 53 <| .x 54 <| .x 55 <| .w 56 .pkf <| .nil ?_
    refine .cf <| .skip <| .end <| hK3 _ _ <| .r <| .w 20 .mvI <| .w 21 .add <| .w 7 .asI <| .nil ?_
    refine .end <| hJ1 _ _ _ ⟨j + 1, _, ⟨rfl, rfl, rfl, rfl, rfl, rfl, trivial⟩, ok.n1.n1, by omega, (hnx.no fun _ _ h => absurd h G38), rfl⟩ (by omega)
  refine .x 29 <| .x 30 <| .x 31 <| .x 32 <| .x 33 <| .x 34 <| .x 35 <| .x 36 <| .w 37 .pkf <| .w 38 .mvB <| .x 39 <| .x 40 <| .x 41 <| .x 42 <| .x 43 <| .x 44 <| .x 45 <| .x 46 <| .x 47 <| .x 48 <| .x 49 <| .x 50 <| .x 51 <| .x 52 <| .x 53 <| .x 54 <| .x 55 <| .w 56 .pkf <| .nil ?_
  refine .cf <| .skip <| .end <| hK3 _ _ <| .r <| .w 20 .mvI <| .w 21 .add <| .w 7 .asI <| .nil ?_
  refine .end <| hJ1 _ _ _ ⟨j + 1, _, ⟨rfl, rfl, rfl, rfl, rfl, rfl, trivial⟩, ok.n1.n1, by omega, (hnx.no fun _ h _ => by rw [G28] at h; cases h), rfl⟩ (by omega)

end Go.Proofs.Ytdbiggfnnhmpiaa
