/- The names of a disk's files. Conditions: the disk is in order, its changes few. A disk's crash. Conditions: the disk is in order, its changes few, the bytes readable. What the chapter's examples tell of a disk. Conditions: none. The document's disk in plain terms and in memory: files, changes, a state. Conditions: those that each fact names. The document's disk: find, without, with, long. Conditions: the files are readable and few. -/
import Derived.Test.YtpebbkhainpfaaaPk8
namespace Go.Proofs.Ytpebbkhainpfaaa
open Go Go.HL
theorem nodup_le {α : Type} [DecidableEq α] : ∀ {l m : List α}, l.Nodup → (∀ x ∈ l, x ∈ m) → l.length ≤ m.length
  | [], _, _, _ => Nat.zero_le _
  | a :: l, m, h, hs => by
    have h1 := List.nodup_cons.1 h
    have h2 := hs a List.mem_cons_self
    have h3 := nodup_le (l := l) (m := m.erase a) h1.2 fun x hx => (List.mem_erase_of_ne (a := x) (b := a) (fun e => h1.1 (by rw [← e]; exact hx))).2 (hs x (List.mem_cons_of_mem _ hx))
    rw [List.length_erase_of_mem h2] at h3
    have := List.length_pos_of_mem h2
    simp only [List.length_cons]; omega
theorem abs_get {r : RD} {n : List UInt8} : r.abs.fs n = (bget r.fs n).map RF.abs := rfl
theorem names_few {r : RD} (hk : DkOk r.abs) (hcg : r.chg < 1000000000) (hn : (r.fs.map (·.1)).Nodup) : (∀ p ∈ ents r.fs, p.1.length ≤ 1000000000) ∧ (ents r.fs).length ≤ 1000000000 := by
  obtain ⟨ks, h1, h2⟩ := hk.cnt
  have hin : ∀ p ∈ r.fs, p.1 ∈ ks ∧ p.1.length ≤ 32 := fun p hp => h2 p.1 p.2.abs (by rw [abs_get, bget_of hn (by exact hp)]; rfl)
  refine ⟨fun p hp => ?_, ?_⟩
  · obtain ⟨q, hq, rfl⟩ := List.mem_map.1 hp
    have := (hin q hq).2
    simp only; omega
  · have h3 : (r.fs.map (·.1)).length ≤ ks.length := (nodup_le hn fun x hx => by
      obtain ⟨p, hp, rfl⟩ := List.mem_map.1 hx
      exact (hin p hp).1)
    have h4 : (ks.length : Int) ≤ r.chg := h1
    simp [ents] at h3 ⊢; omega
theorem keys_of {r : RD} {S : List (List UInt8)} (hn : (r.fs.map (·.1)).Nodup) (hp : S.Perm ((ents r.fs).map (·.1))) (hs : S.Pairwise (· ≤ ·)) : Keys r.abs.fs S := by
  rw [ents_keys] at hp
  have hnd : S.Nodup := hp.nodup_iff.2 hn
  refine ⟨(hs.and hnd).imp fun {a b} h => ?_, fun n => ?_⟩
  · rcases list_tri a b with h1 | h1 | h1
    · exact h1
    · exact absurd h1 h.2
    · exact absurd (List.le_antisymm h.1 (List.le_of_lt h1)) h.2
  · rw [hp.mem_iff, abs_get]
    constructor
    · intro h
      obtain ⟨p, hp, rfl⟩ := List.mem_map.1 h
      rw [bget_of hn (by exact hp)]; rfl
    · intro h
      cases hb : bget r.fs n with
      | none => rw [hb] at h; cases h
      | some f => exact List.mem_map.2 ⟨_, bget_mem hb, rfl⟩
theorem preN {h0 h : Heap} {D : Nat → Prop} {M R : List Itm} {e : TypeId} {a : Option Addr} {n c i : Nat} {Q : List (List UInt8)} (ok : Hp h0 D (capI 1 e (a, n, c) (Q.map kvB) :: M) R h) (hi : i ≤ n) : Hp h0 D (capI 1 e (a, i, c) ((Q.take i).map kvB) :: M) R h := by
  have h1 := Cap.pre ok.m0 hi
  rw [Nat.mul_one, ← List.map_take] at h1
  refine ok.re _ h1 fun j hj => ?_
  obtain ⟨o, n', c', hv⟩ := hj
  injection hv with h1 h2 h3
  exact ⟨o, _, _, by rw [← h1]⟩
structure DelInv (p : List UInt8 → Bool) (S Q : List (List UInt8)) (i j : Nat) : Prop where
  lt : i < j
  le : j ≤ S.length
  len : Q.length = S.length
  tk : Q.take i = (S.take j).filter p
  dr : Q.drop j = S.drop j
theorem DelInv.init {p : List UInt8 → Bool} {S : List (List UInt8)} {k : Nat} (hk : k < S.length) (h1 : p S[k] = false) (h2 : ∀ j (hj : j < S.length), j < k → p S[j] = true) : DelInv p S S k (k + 1) := by
  refine ⟨by omega, hk, rfl, ?_, rfl⟩
  rw [List.take_succ_eq_append_getElem hk, List.filter_append, List.filter_eq_self.2]
  · simp [h1]
  · intro a ha
    obtain ⟨j, hj, rfl⟩ := List.mem_iff_getElem.1 ha
    simp only [List.length_take] at hj
    rw [List.getElem_take]
    exact h2 j (by omega) (by omega)
theorem DelInv.at {p : List UInt8 → Bool} {S Q : List (List UInt8)} {i j : Nat} (v : DelInv p S Q i j) (hj : j < S.length) (hj2 : j < Q.length) : Q[j] = S[j] := by
  have h1 := congrArg (fun l => l[0]?) v.dr
  simp only [List.getElem?_drop, Nat.add_zero] at h1
  rw [List.getElem?_eq_getElem hj, List.getElem?_eq_getElem hj2] at h1
  exact Option.some.inj h1
theorem DelInv.no {p : List UInt8 → Bool} {S Q : List (List UInt8)} {i j : Nat} (v : DelInv p S Q i j) (hj : j < S.length) (hj2 : j < Q.length) (h : p Q[j] = false) : DelInv p S Q i (j + 1) := by
  rw [v.at hj hj2] at h
  refine ⟨by have := v.lt; omega, hj, v.len, ?_, ?_⟩
  · rw [v.tk, List.take_succ_eq_append_getElem hj, List.filter_append]; simp [h]
  · have := congrArg (List.drop 1) v.dr
    simpa [List.drop_drop, Nat.add_comm] using this
theorem DelInv.yes {p : List UInt8 → Bool} {S Q : List (List UInt8)} {i j : Nat} (v : DelInv p S Q i j) (hj : j < S.length) (hj2 : j < Q.length) (h : p Q[j] = true) : DelInv p S (Q.set i Q[j]) (i + 1) (j + 1) := by
  have hlt := v.lt
  have e := v.at hj hj2
  refine ⟨by omega, hj, by rw [List.length_set, v.len], ?_, ?_⟩
  · rw [List.take_succ_eq_append_getElem (by rw [List.length_set]; omega), List.getElem_set_self, List.take_set_of_le (Nat.le_refl _), v.tk, List.take_succ_eq_append_getElem hj, List.filter_append]
    rw [e] at h ⊢
    simp [h]
  · rw [List.drop_set_of_lt (by omega)]
    have := congrArg (List.drop 1) v.dr
    simpa [List.drop_drop, Nat.add_comm] using this
theorem DelInv.fin {p : List UInt8 → Bool} {S Q : List (List UInt8)} {i j : Nat} (v : DelInv p S Q i j) (hj : j = S.length) : Q.take i = S.filter p ∧ i = (S.filter p).length := by
  have h1 := v.tk
  rw [hj, List.take_length] at h1
  refine ⟨h1, ?_⟩
  rw [← h1, List.length_take]
  have := v.len; have := v.lt; have := v.le
  omega

set_option maxRecDepth 100000 in
set_option maxHeartbeats 2000000 in
theorem names_any {h : Heap} {d : Nat} {r : RD} {E : Nat → Prop} (ok : Hp h none_ [] [dskI d r, bysI E r.fs] h) (hk : DkOk r.abs) (hcg : r.chg < 1000000000) :
    HC Try.prog 82 #[.pointer (some ⟨d, 0, none⟩)] h (fun v h' => ∃ S, Keys r.abs.fs S ∧ Own h h' 1 9 v (S.map kvB)) := by
  refine HC.go Try.func82 9 ?_
  refine .seq <| .r <| .w 2 .asS <| .nil ?_
  refine .seq <| ?_
  obtain ⟨hd1, hd2, hd3, hd4⟩ := dsk_parts (ok.r0)
  obtain ⟨hkr, hkl⟩ := names_few hk hcg hd3
  refine .r <| .w 3 .mvP <| .w 4 .nil <| .w 5 (.fa T.fd113_0) <| .w 6 (.ldx T.ag111 hd1) <| .c' 7 .func keysS_any ?_
  rintro _ _ ⟨rfl, rfl⟩
  have ok := ok.ext (Ext.push _ (.cells #[.map (some r.m)] 111 (0, 0)))
  refine .c' 8 .func (sortedS_any hd2 hkr hkl) ?_
  rintro _ η1 ⟨S, hSp, hSs, own⟩
  obtain ⟨aS, nS, cS, rfl⟩ := own.form3
  have ok := ok.own own
  obtain rfl : nS = S.length := Cap.lenN ok.m0
  refine .w 2 .asS <| .nil ?_
  refine .ret ⟨.slice aS S.length cS, Res.one rfl rfl, ⟨S, keys_of hd3 hSp hSs, ok.toOwn⟩⟩

set_option maxRecDepth 100000 in
set_option maxHeartbeats 2000000 in
theorem filef_any {h : Heap} {d : Nat} {r : RD} {pb : Nat} {n : List UInt8} (hpb : (boxI pb 57 [.pointer (some ⟨d, 0, none⟩)]).p h) (hd : (dskI d r).p h) :
    HC Try.prog 86 #[.string (BA n), .pointer (some ⟨pb, 0, none⟩)] h (fun v h' => v = .bool (!thereN r.abs n) ∧ h' = h) := by
  refine HC.go Try.func86 8 ?_
  refine .seq <| .r <| .w 3 .asB <| .nil ?_
  refine .seq <| .r <| .w 4 (.ldx T.ag57 hpb) <| .w 5 .mvT <| .c' 6 .func (there_any (d := d) (r := r) (n := n) hd) ?_
  rintro _ _ ⟨(⟨hnotf1, rfl⟩ | ⟨tf1, hgtf1, hhtf1, rfl⟩), heq⟩
  · --
    obtain rfl := heq.symm
    refine .w 7 (.pEqN T.pt118) <| .w 3 .asB <| .nil ?_
    refine .ret ⟨.bool true, Res.one rfl rfl, ⟨by first | rw [hnotf1]; rfl | rw [there_f hgtf1, hhtf1]; rfl, rfl⟩⟩
  obtain rfl := heq.symm
  refine .w 7 (.pEqS T.pt118) <| .w 3 .asB <| .nil ?_
  refine .ret ⟨.bool false, Res.one rfl rfl, ⟨by first | rw [hnotf1]; rfl | rw [there_f hgtf1, hhtf1]; rfl, rfl⟩⟩

set_option maxRecDepth 100000 in
set_option maxHeartbeats 2000000 in
theorem ixs_any {h : Heap} {d : Nat} {r : RD} {pb : Nat} {F E : Nat → Prop} {a : Option Addr} {c : Nat} {S : List (List UInt8)} (hl : RdL h F E (a, S.length, c) (S.map Nm.mk)) (hpb : (boxI pb 57 [.pointer (some ⟨d, 0, none⟩)]).p h) (hd : (dskI d r).p h) :
    HC Try.prog 110 #[.slice a S.length c, .func (.func 86) #[] #[.pointer (some ⟨pb, 0, none⟩)]] h (fun v h' => ∃ i : Int, v = .int .i64 i ∧ ((∃ (k : Nat) (hk : k < S.length), i = k ∧ thereN r.abs S[k] = false ∧ ∀ j (hj : j < S.length), j < k → thereN r.abs S[j] = true) ∨ (i = -1 ∧ ∀ j (hj : j < S.length), thereN r.abs S[j] = true)) ∧ h' = h) := by
  have hc2 := hl.m
  have hc1 : S.length ≤ c := hl.c
  simp only at hc2
  refine HC.go Try.func110 19 ?_
  refine .seq <| .r <| .w 4 .asI <| .nil ?_
  refine .seq <| .seq <| .r <| .w 6 .mvS <| .w 7 (.len T.el82) <| .w 8 .mvI <| .nil ?_
  refine .block fun K0 hK0 => .loop (fun m s hh => ∃ (i : Nat), Has s [(0, .slice a S.length c), (1, .func (.func 86) #[] #[.pointer (some ⟨pb, 0, none⟩)]), (7, .int .i64 (S.length : Int)), (8, .int .i64 (i : Int))] ∧ h = hh ∧ i ≤ S.length ∧ (∀ j (hj : j < S.length), j < i → thereN r.abs S[j] = true) ∧ m = S.length - i) ?_ ?_
  · exact ⟨_, 0, ⟨rfl, rfl, rfl, rfl, trivial⟩, rfl, Nat.zero_le _, fun _ _ h => absurd h (by omega), rfl⟩
  rintro _ _ _ ⟨i, hs, rfl, hi, hz, rfl⟩ J0 hJ0
  refine .frame hs fun τ => ?_
  refine .seq <| .r <| .w 9 .lss <| .nil ?_
  refine .seq <| .cdr (fun C0 => ?_) (fun C0 => ?_)
  · --
    have hil : i = S.length := by omega
    refine .exit <| hK0 _ _ <| .seq <| .r <| .w 4 .asI <| .nil ?_
    refine .ret ⟨.int .i64 (-1), Res.one rfl rfl, ⟨_, rfl, .inr ⟨rfl, fun j hj => hz j hj (by omega)⟩, rfl⟩⟩
  have hil : i < S.length := by omega
  refine .skip <| .seq <| .block fun K1 hK1 => .seq <| .r <| .w 10 .mvI <| .w 5 .asI <| .nil ?_
  refine .seq <| .r <| .w 11 .mvF <| .w 12 .mvS <| .w 13 .mvI <| ?_
  obtain ⟨bb1, oo1, rfl, fb1⟩ := hl.pos (by simp; omega)
  refine .w 14 (.ix1 i T.el82 T.sz9) <| .w 15 (.ld T.ag9 (hl.nm (i := i) (by omega))) <| .k 16 .dyn (filef_any (n := (S[i])) hpb hd) <| .nil ?_
  refine .cond (fun C1 => ?_) (fun C1 => ?_)
  · --
    refine .seq <| .r <| .w 17 .mvI <| .w 4 .asI <| .nil ?_
    refine .ret ⟨.int .i64 (i : Int), Res.one rfl rfl, ⟨_, rfl, .inl ⟨i, hil, rfl, by simpa using C1, hz⟩, rfl⟩⟩
  refine .skip <| .end <| hK1 _ _ <| .r <| .w 18 (.addI (b := 1)) <| .w 8 .mvI <| .nil ?_
  refine .end <| hJ0 _ _ _ ⟨i + 1, ⟨rfl, rfl, rfl, rfl, trivial⟩, rfl, by omega, fun j hj h => (by by_cases hji : j = i; (subst hji; simpa using C1); exact hz j hj (by omega)), rfl⟩ (by omega)

set_option maxRecDepth 100000 in
set_option maxHeartbeats 2000000 in
theorem delf_any {h : Heap} {d : Nat} {r : RD} {pb : Nat} {a : Option Addr} {c : Nat} {S : List (List UInt8)} (ok : Hp h (blkC (sv (a, S.length, c))) [capI 1 9 (a, S.length, c) (S.map kvB)] [boxI pb 57 [.pointer (some ⟨d, 0, none⟩)], dskI d r] h) :
    HC Try.prog 85 #[.slice a S.length c, .func (.func 86) #[] #[.pointer (some ⟨pb, 0, none⟩)]] h (fun v h' => ∃ a' c', v = .slice a' (S.filter (thereN r.abs)).length c' ∧ Hp h (blkC (sv (a, S.length, c))) [capI 1 9 (a', (S.filter (thereN r.abs)).length, c') ((S.filter (thereN r.abs)).map kvB)] [] h') := by
  have hle : S.length ≤ c := Cap.le ok.m0
  have hbd : c ≤ 9223372036854775807 := Cap.bd ok.m0
  refine HC.go Try.func85 42 ?_
  refine .seq <| .r <| .w 4 .asS <| .nil ?_
  refine .seq <| .r <| .w 8 .mvS <| .w 9 .mvF <| .c' 10 .func (ixs_any (a := a) (c := c) (S := S) (RdL.ofCapN ok.m0) (ok.r0) (ok.r1)) ?_
  rintro _ _ ⟨_, rfl, (⟨k, hk, rfl, hk1, hk2⟩ | ⟨rfl, hall⟩), heq⟩
  · --
    obtain rfl := heq.symm
    refine .w 5 .asI <| .nil ?_
    refine .seq <| .seq <| .r <| .w 11 .mvI <| .w 12 .eql <| .nil ?_
    refine .cd (fun C0 => ?_) (fun C0 => ?_)
    · --
      omega
    refine .skip <| .seq <| .seq <| .r <| .w 14 .mvI <| .w 15 (.addI (b := 1)) <| .w 6 .asI <| .nil ?_
    refine .block fun K0 hK0 => .loop (fun m s hh => ∃ (i j : Nat) (Q : List (List UInt8)), Has s [(0, .slice a S.length c), (1, .func (.func 86) #[] #[.pointer (some ⟨pb, 0, none⟩)]), (5, .int .i64 (i : Int)), (6, .int .i64 (j : Int))] ∧ Hp h (blkC (sv (a, S.length, c))) [capI 1 9 (a, S.length, c) (Q.map kvB)] [boxI pb 57 [.pointer (some ⟨d, 0, none⟩)], dskI d r] hh ∧ DelInv (thereN r.abs) S Q i j ∧ m = S.length - j) ?_ ?_
    · exact ⟨_, k, k + 1, S, ⟨rfl, rfl, rfl, rfl, trivial⟩, ok, DelInv.init hk hk1 hk2, rfl⟩
    rintro _ _ η1 ⟨i, j, Q, hs, ok, hv, rfl⟩ J0 hJ0
    refine .frame hs fun τ => ?_
    refine .seq <| .seq <| .r <| .w 16 .mvI <| .w 17 .mvS <| .w 18 (.len T.el82) <| .w 19 .lss <| .nil ?_
    refine .cdr (fun C1 => ?_) (fun C1 => ?_)
    · --
      have hlt := hv.lt
      have hjS : j = S.length := by have := hv.le; omega
      refine .exit <| hK0 _ _ <| .seq <| .r <| .w 36 .mvS <| .w 37 .mvI <| .w 38 (.sll i T.el82 T.sz9) <| .a0' (.clr (z := []) i T.el82 T.zr9 ok rfl (by omega)) ?_
      rintro _ η2 ⟨rfl, ok⟩
      refine .nil ?_
      refine .seq <| .r <| .w 39 .mvS <| .w 40 .mvI <| .w 41 (.sl_h i T.el82 T.sz9) <| .w 4 .asS <| .nil ?_
      refine .ret ⟨.slice a i c, Res.one rfl rfl, (by obtain ⟨h1, h2⟩ := hv.fin hjS; have o2 := preN (i := i) ok (by omega); rw [List.take_left' (by rw [List.length_take]; have := hv.len; omega), h1] at o2; exact ⟨a, c, by rw [← h2], by rw [← h2]; exact o2.sub (by simp)⟩)⟩
    have hlt := hv.lt
    have hjS : j < S.length := by omega
    have hjQ : j < Q.length := by rw [hv.len]; exact hjS
    refine .skip <| .seq <| .block fun K1 hK1 => .seq <| .r <| .w 22 .mvS <| .w 23 .mvI <| ?_
    obtain ⟨bb1, oo1, rfl, fb1⟩ := ok.m0.pos (n := S.length) (by omega)
    refine .w 24 (.ix1 j T.el82 T.sz9) <| .w 25 (.ld T.ag9 (Cap.nm ok.m0 (i := j) (by omega))) <| .w 7 .asT <| .nil ?_
    refine .seq <| .r <| .w 26 .mvF <| .w 27 .mvT <| .k 28 .dyn (filef_any (n := (Q[j])) (ok.r0) (ok.r1)) <| .w 29 .not <| .nil ?_
    refine .cond (fun C2 => ?_) (fun C2 => ?_)
    · --
      refine .seq <| .r <| .w 30 .mvS <| .w 31 .mvI <| .w 32 .mvT <| .w 33 (.ix1 i T.el82 T.sz9) <| .ur' (.sxT (q := i) T.sz9 ok (by omega)) ?_
      rintro η3 ⟨ok, cg⟩
      refine .nil ?_
      refine .r <| .w 34 .mvI <| .w 35 (.addI (b := 1)) <| .w 5 .asI <| .nil ?_
      refine .end <| hK1 _ _ <| .r <| .w 20 .mvI <| .w 21 (.addI (b := 1)) <| .w 6 .asI <| .nil ?_
      refine .end <| hJ0 _ _ _ ⟨i + 1, j + 1, Q.set i Q[j], ⟨rfl, rfl, rfl, rfl, trivial⟩, ok, hv.yes hjS hjQ (by simpa using C2), rfl⟩ (by have := hv.lt; omega)
    refine .skip <| .end <| hK1 _ _ <| .r <| .w 20 .mvI <| .w 21 (.addI (b := 1)) <| .w 6 .asI <| .nil ?_
    refine .end <| hJ0 _ _ _ ⟨i, j + 1, Q, ⟨rfl, rfl, rfl, rfl, trivial⟩, ok, hv.no hjS hjQ (by simpa using C2), rfl⟩ (by have := hv.lt; omega)
  obtain rfl := heq.symm
  refine .w 5 .asI <| .nil ?_
  refine .seq <| .seq <| .r <| .w 11 .mvI <| .w 12 .eql <| .nil ?_
  refine .ct <| .seq <| .r <| .w 13 .mvS <| .w 4 .asS <| .nil ?_
  refine .ret ⟨.slice a S.length c, Res.one rfl rfl, (by have hf : S.filter (thereN r.abs) = S := List.filter_eq_self.2 fun x hx => (by obtain ⟨j, hj, rfl⟩ := List.mem_iff_getElem.1 hx; exact hall j hj); rw [hf]; exact ⟨a, c, rfl, ok.sub (by simp)⟩)⟩

theorem rdR {h : Heap} {a b : Itm} (ha : a.p h) (hb : b.p h) (la : ∀ j, a.F j → j < h.size) (lb : ∀ j, b.F j → j < h.size) : Hp h none_ [] [a, b] h :=
  ⟨Chg.refl _ _, by simp, fun i hi => by
    rcases List.mem_cons.1 hi with rfl | hi
    · exact ⟨ha, la⟩
    · rw [List.mem_singleton.1 hi]; exact ⟨hb, lb⟩, .nil, by simp⟩
theorem keys_ex {r : RD} (hn : (r.fs.map (·.1)).Nodup) : ∃ S, Keys r.abs.fs S := by
  refine ⟨((ents r.fs).map (·.1)).mergeSort (fun x y => decide (x ≤ y)), keys_of hn (List.mergeSort_perm _ _) ?_⟩
  have := List.pairwise_mergeSort (le := fun x y : List UInt8 => decide (x ≤ y)) (fun a b c h1 h2 => by simp only [decide_eq_true_eq] at h1 h2 ⊢; exact List.le_trans h1 h2) (fun a b => by
    by_cases h : a ≤ b
    · simp [h]
    · simp [le_of_not h]) ((ents r.fs).map (·.1))
  exact this.imp fun h => by simpa using h
def filesN (d : Dk) (S : List (List UInt8)) : List (List UInt8) := if d.dark = true then [] else S.filter (thereN d)

set_option maxRecDepth 100000 in
set_option maxHeartbeats 2000000 in
theorem files_any {h : Heap} {d : Nat} {r : RD} {E : Nat → Prop} (ok : Hp h none_ [] [dskI d r, bysI E r.fs] h) (hk : DkOk r.abs) (hcg : r.chg < 1000000000) :
    HC Try.prog 43 #[.pointer (some ⟨d, 0, none⟩)] h (fun v h' => ∃ S, Keys r.abs.fs S ∧ Own h h' 1 9 v ((filesN r.abs S).map kvB)) := by
  refine HC.go Try.func43 15 ?_
  refine .seq <| .r <| .a' 1 (.bxP ok) ?_
  rintro _ η1 ⟨pb1, rfl, ok, xe⟩
  refine .w 2 .asS <| .nil ?_
  refine .seq <| .seq <| ?_
  obtain ⟨hd1, hd2, hd3, hd4⟩ := dsk_parts (ok.r0)
  refine .r <| .w 3 (.ldx T.ag57 ok.m0) <| .w 4 (.pEqS T.pt57) <| .w 5 .mvB <| .w 6 (.ldx T.ag57 ok.m0) <| .w 7 .nil <| .w 8 (.fa T.fd113_1) <| .w 9 (.ldx T.ag4 hd1) <| .w 10 .pkf <| .nil ?_
  refine .cond (fun C0 => ?_) (fun C0 => ?_)
  · --
    refine .seq <| .r <| .w 2 .asS <| .nil ?_
    refine .ret ⟨.slice none 0 0, Res.one rfl rfl, (by obtain ⟨S, hKS⟩ := keys_ex hd3; refine ⟨S, hKS, ?_⟩; rw [show filesN r.abs S = [] from by unfold filesN; rw [if_pos (by exact C0)]]; exact ok.nilC.toOwn)⟩
  refine .skip <| .seq <| ?_
  have ok := (ok).frz
  have hpbx := ok.r0
  refine .r <| .w 11 (.ldx T.ag57 hpbx) <| .c' 12 .func (names_any (d := d) (r := r) (E := E) (rdR (ok.r1) (ok.r2) (ok.l1) (ok.l2)) hk hcg) ?_
  rintro _ η2 ⟨S, hKS, own⟩
  obtain ⟨aS, nS, cS, rfl⟩ := own.form3
  have ok := ok.own own
  obtain rfl : nS = S.length := Cap.lenN ok.m0
  refine .w 13 .mkf <| .c' 14 .func (delf_any (d := d) (r := r) (pb := pb1) (a := aS) (c := cS) (S := S) (ok.f1.f1).loc2) ?_
  rintro _ η3 ⟨aD, cD, rfl, q⟩
  have ok := (ok).lift1 q
  refine .w 2 .asS <| .nil ?_
  refine .ret ⟨.slice aD ((S.filter (thereN r.abs)).length) cD, Res.one rfl rfl, ⟨S, hKS, by rw [show filesN r.abs S = S.filter (thereN r.abs) from by unfold filesN; rw [if_neg (by show ¬ r.dark = true; rw [C0]; decide)]]; exact ok.toOwn⟩⟩

end Go.Proofs.Ytpebbkhainpfaaa

namespace Go.HL
open Go Go.Proofs.Ytpebbkhainpfaaa
theorem Hp.frzN {h0 h : Heap} {D : Nat → Prop} {M R : List Itm} {e : TypeId} {x : SV} {S : List (List UInt8)} (ok : Hp h0 D (capI 1 e x (S.map kvB) :: M) R h) : Hp h0 D M (rdI (blkC (sv x)) none_ x (S.map Nm.mk) :: R) h :=
  (ok.re (rdI (blkC (sv x)) none_ x (S.map Nm.mk)) (RdL.ofCapN ok.m0) fun _ hj => hj.elim id fun f => f.elim).frz
theorem RdL.b8 {h : Heap} {F E E' : Nat → Prop} {x : SV} {l : List UInt8} (r : RdL h F E x l) : RdL h F E' x l := ⟨r.n, r.c, r.m, fun hp => r.at' hp⟩
end Go.HL
namespace Go.Proofs.Ytpebbkhainpfaaa
open Go Go.HL
theorem crC_t {b : List UInt8} {h : Bool} {c : Chn} {l : List Chn} {ks : List UInt8} {k : Nat} (hk : k = (ks.headD 0).toNat) (h1 : (keptN c k).2 = true) (h2 : c.kind = 0 ∨ h = true) : crC b h (c :: l) ks = crC (doneN (keptN c k).1 b h).1 (doneN (keptN c k).1 b h).2 l ks.tail := by
  subst hk; rw [crC]; exact if_pos ⟨h1, h2⟩
theorem crC_f {b : List UInt8} {h : Bool} {c : Chn} {l : List Chn} {ks : List UInt8} {k : Nat} (hk : k = (ks.headD 0).toNat) (h1 : ¬ ((keptN c k).2 = true ∧ (c.kind = 0 ∨ h = true))) : crC b h (c :: l) ks = crC b h l ks.tail := by
  subst hk; rw [crC]; exact if_neg h1
theorem kept_pre {c : Chn} {k : Nat} : (keptN c k).1.b <+: c.b := by
  unfold keptN
  split
  · exact List.prefix_refl _
  · split
    · exact List.take_prefix _ _
    · exact List.prefix_refl _
/-- Behind the crash of the first names: what is left is the crash of the others. -/
structure CrInv (fs0 fs : List UInt8 → Option Fl) (S : List (List UInt8)) (k0 ks : List UInt8) (i : Nat) : Prop where
  le : i ≤ S.length
  eq : crashL fs0 S k0 = crashL fs (S.drop i) ks
  old : ∀ n ∈ S.drop i, fs n = fs0 n
theorem CrInv.step {fs0 fs : List UInt8 → Option Fl} {S : List (List UInt8)} {k0 ks : List UInt8} {i : Nat} {f : Fl} (v : CrInv fs0 fs S k0 ks i) (hs : S.Pairwise (· < ·)) (hi : i < S.length) (hf : fs S[i] = some f) : CrInv fs0 (put1 fs S[i] (crF f ks)) S k0 (ks.drop f.opn.length) (i + 1) := by
  have h1 := v.eq
  rw [List.drop_eq_getElem_cons hi, crashL, hf] at h1
  refine ⟨hi, h1, fun n hn => ?_⟩
  have h2 : n ≠ S[i] := fun e => by
    subst e
    obtain ⟨j, hj, e⟩ := List.mem_iff_getElem.1 hn
    rw [List.getElem_drop] at e
    have h3 := List.pairwise_iff_getElem.1 hs i (i + 1 + j) hi (by simp at hj; omega) (by omega)
    rw [e] at h3
    exact absurd h3 (List.lt_irrefl _)
  rw [put1_ne h2]
  exact v.old n (by rw [List.drop_eq_getElem_cons hi]; exact List.mem_cons_of_mem _ hn)
theorem CrInv.has {fs0 fs : List UInt8 → Option Fl} {S : List (List UInt8)} {k0 ks : List UInt8} {i : Nat} (v : CrInv fs0 fs S k0 ks i) (hK : Keys fs0 S) (hi : i < S.length) : ∃ f, fs S[i] = some f := by
  rw [v.old _ (by rw [List.drop_eq_getElem_cons hi]; exact List.mem_cons_self)]
  have := (hK.iff S[i]).1 (List.getElem_mem hi)
  cases h : fs0 S[i] with
  | none => rw [h] at this; cases this
  | some f => exact ⟨f, rfl⟩
/-- A file within its crash. -/
theorem DkOk.crf {d : Dk} {n : List UInt8} {f : Fl} {ks : List UInt8} (k : DkOk d) (hf : d.fs n = some f) : DkOk ⟨put1 d.fs n (crF f ks), d.dark, d.left, d.chg⟩ := by
  have h0 := k.chg
  refine ⟨fun m g h => ?_, k.chg, k.left, let ⟨ks, h1, h2⟩ := k.cnt; ⟨ks, h1, fun m g h => ?_⟩⟩
  · simp only [put1] at h
    split at h
    · have h1 := crF_ok (k.fs n f hf).1 h
      exact ⟨h1.1, by rw [h1.2]; simpa using h0⟩
    · exact k.fs m g h
  · simp only [put1] at h
    split at h
    · rename_i e; subst e; exact h2 _ _ hf
    · exact h2 m g h
theorem opn_drop {f : RF} {k : Nat} (h : k < f.ol.length) : f.abs.opn.drop k = ⟨f.ol[k].kind, f.ol[k].pos, f.ol[k].bl⟩ :: f.abs.opn.drop (k + 1) := by
  rw [show f.abs.opn = f.ol.map RC.abs from rfl, List.drop_eq_getElem_cons (by simpa using h), List.getElem_map]; rfl
def nowR (f : RF) (xa : Option Addr) (xc : Nat) (xl : List UInt8) (hh : Bool) : RF := ⟨f.blk, xa, xc, xl, f.sa, f.sc, f.sl, hh, f.was, f.oa, f.oc, f.ol⟩
theorem cr_abs {rc : RD} {n : List UInt8} {f : RF} {xa : Option Addr} {xc : Nat} {xl kl : List UInt8} {hh : Bool} (hcr : crC f.sl f.was f.abs.opn kl = (xl, hh)) : (settleR ⟨rc.m, bput rc.fs n (nowR f xa xc xl hh), rc.dark, rc.left, rc.chg⟩ n (nowR f xa xc xl hh)).abs = ⟨put1 rc.abs.fs n (crF f.abs kl), rc.dark, rc.left, rc.chg⟩ := by
  rw [settleR_abs]
  congr 1
  funext m
  by_cases hm : m = n
  · subst hm
    rw [put1_at, put1_at]
    unfold crF settleF
    rw [show f.abs.safe = f.sl from rfl, show f.abs.was = f.was from rfl, hcr]
    rfl
  · rw [put1_ne hm, put1_ne hm, abs_get, abs_get, bget_put, if_neg hm]
theorem cr_close {h0 h : Heap} {D Ec Ex : Nat → Prop} {M R : List Itm} {K : Itm} {d : Nat} {rc : RD} {n : List UInt8} {f : RF} {xa : Option Addr} {xc : Nat} {xl : List UInt8} {hh : Bool} (hn : (rc.fs.map (·.1)).Nodup) (hg : bget rc.fs n = some f)
    (ok : Hp h0 D (boxI f.blk 122 [.slice xa xl.length xc, .slice f.sa f.sl.length f.sc, .bool hh, .bool f.was, .slice f.oa f.ol.length f.oc] :: fopnI f :: flsI (bdel rc.fs n) :: dboxI d rc :: mapI kvB rc.m (ents rc.fs) :: M) (rdI Ex none_ (xa, xl.length, xc) xl :: K :: byfI Ec f :: bysI Ec rc.fs :: R) h) :
    Hp h0 D (dskI d ⟨rc.m, bput rc.fs n (nowR f xa xc xl hh), rc.dark, rc.left, rc.chg⟩ :: M) (bysI (fun j => Ec j ∨ Ex j) (bput rc.fs n (nowR f xa xc xl hh)) :: K :: R) h := by
  have o2 := Hp.fcls (n := n) (f := nowR f xa xc xl hh) hn ok
  have o3 := Hp.dcls (r := ⟨rc.m, bput rc.fs n (nowR f xa xc xl hh), rc.dark, rc.left, rc.chg⟩) (d := d) (M := M) (by
    have o4 := o2.n2.n2
    simp only
    rw [ents_same hg (by rfl)]
    exact o4)
  have hby : Bys h (fun j => Ec j ∨ Ex j) (bput rc.fs n (nowR f xa xc xl hh)) := Bys.put (Bys.mono (fun _ h => .inl h) o3.r3) ⟨RdL.mono (fun _ h => .inr h) (fun _ f => f.elim) o3.r0, RdL.mono (fun _ h => .inl h) (fun _ h => .inl h) o3.r2.safe, fun x hx => RdL.mono (fun _ h => .inl h) (fun _ h => .inl h) (o3.r2.opn x hx)⟩
  exact (o3.or (r := rdI Ex none_ (xa, xl.length, xc) xl) (r' := bysI Ec rc.fs) (by simp) (by simp) (bysI (fun j => Ec j ∨ Ex j) (bput rc.fs n (nowR f xa xc xl hh))) hby (fun j hj => hj.elim .inr fun h => .inl (.inl h))).sub (by
    intro i hi
    simp only [List.mem_cons] at hi ⊢
    rcases hi with h | h | h
    · exact .inl h
    · exact .inr (.inr (.inl h))
    · exact .inr (.inr (.inr (.inr (.inr h)))))

set_option maxRecDepth 100000 in
set_option maxHeartbeats 2000000 in
theorem crash_any {h : Heap} {d : Nat} {r : RD} {E F2 E2 : Nat → Prop} {a : Option Addr} {c : Nat} {l : List UInt8} (ok : Hp h (dskI d r).F [dskI d r] [bysI E r.fs, rdI F2 E2 (a, l.length, c) l] h) (hk : DkOk r.abs) (hcg : r.chg < 1000000000) :
    HC Try.prog 42 #[.pointer (some ⟨d, 0, none⟩), .slice a l.length c] h (fun v h' => ∃ S r' E', v = .tuple #[] ∧ Keys r.abs.fs S ∧ r'.abs = crashN r.abs S l ∧ DUp h h' d r r' E E') := by
  refine HC.go Try.func42 107 ?_
  refine .seq <| .seq <| .r <| .w 12 .mvP <| .w 13 (.pEqS T.pt57) <| .nil ?_
  refine .cf <| .skip <| .seq <| .seq <| .r <| .w 14 .mvP <| .c' 15 .func (names_any (d := d) (r := r) (E := E) ((ok).rdo) hk hcg) ?_
  rintro _ η1 ⟨S, hKS, own⟩
  obtain ⟨aS, nS, cS, rfl⟩ := own.form3
  have ok := ok.own own
  obtain rfl : nS = S.length := Cap.lenN ok.m0
  have ok := ok.frzN
  have hSc : S.length ≤ cS := ok.r0.c
  have hSm : cS ≤ 9223372036854775807 := ok.r0.m
  generalize hFS : blkC (sv (aS, S.length, cS)) = FS at ok
  refine .w 16 (.len T.el82) <| .w 17 .mvI <| .nil ?_
  refine .block fun K0 hK0 => .loop (fun m s hh => ∃ (i : Nat) (rc : RD) (Ec : Nat → Prop) (ka : Option Addr) (kc : Nat) (kl : List UInt8), Has s [(0, .pointer (some ⟨d, 0, none⟩)), (1, .slice ka kl.length kc), (15, .slice aS S.length cS), (16, .int .i64 (S.length : Int)), (17, .int .i64 (i : Int))] ∧ Hp h (dskI d r).F [dskI d rc] [rdI F2 E2 (ka, kl.length, kc) kl, bysI Ec rc.fs, rdI FS none_ (aS, S.length, cS) (S.map Nm.mk)] hh ∧ CrInv r.abs.fs rc.abs.fs S l kl i ∧ DkOk rc.abs ∧ rc.chg = r.chg ∧ (∀ j, Ec j → E j ∨ h.size ≤ j) ∧ m = S.length - i) ?_ ?_
  · exact ⟨_, 0, r, E, a, c, l, ⟨rfl, rfl, rfl, rfl, rfl, trivial⟩, ok.f1.f2, ⟨Nat.zero_le _, rfl, fun _ _ => rfl⟩, hk, rfl, fun _ h => .inl h, rfl⟩
  rintro _ _ η2 ⟨i, rc, Ec, ka, kc, kl, hs, ok, hv, hkc, hch, hEc, rfl⟩ J0 hJ0
  refine .frame hs fun τ => ?_
  refine .seq <| .r <| .w 18 .lss <| .nil ?_
  refine .seq <| .cdr (fun C1 => ?_) (fun C1 => ?_)
  · --
    refine .exit <| hK0 _ _ <| ?_
    have ok := (ok).dopn
    refine .r <| .w 101 .mvP <| .w 102 .mvP <| .w 103 .nil <| .w 104 (.fa T.fd113_1) <| .ur' (.stB T.sz4 ok) ?_
    rintro η3 ⟨ok, cg⟩
    refine .w 105 .nil <| .w 106 (.fa T.fd113_2) <| .ur' (.stI T.sz3 ok) ?_
    rintro η4 ⟨ok, cg⟩
    refine .nil ?_
    refine .end <| ⟨.tuple #[], Res.none rfl, ⟨S, ⟨rc.m, rc.fs, false, -1, rc.chg⟩, Ec, rfl, hKS, by unfold crashN; rw [hv.eq, List.drop_eq_nil_of_le (by omega), crashL, show r.abs.chg = r.chg from rfl, ← hch]; rfl, (Hp.dcls (r := ⟨rc.m, rc.fs, false, -1, rc.chg⟩) (ok.n2.n2.n2).f2.f1.f2).up hEc⟩⟩
  refine .skip <| .seq <| .block fun K1 hK1 => .seq <| ?_
  have hiS : i < S.length := by omega
  refine .r <| ?_
  obtain ⟨bb1, oo1, rfl, fb1⟩ := ok.r2.pos (by first | omega | (simp; omega))
  refine .w 19 (.ix1 i T.el82 T.sz9) <| .w 20 (.ld T.ag9 (ok.r2.nm (i := i) (by omega))) <| .w 5 .asT <| .nil ?_
  refine .seq <| ?_
  obtain ⟨fa, hfa⟩ := hv.has hKS hiS
  obtain ⟨f, hg, hfe⟩ : ∃ f, bget rc.fs S[i] = some f ∧ f.abs = fa := by (rw [abs_get] at hfa; cases hb : bget rc.fs S[i] with | none => (rw [hb] at hfa; cases hfa) | some f => exact ⟨f, rfl, by rw [hb] at hfa; exact Option.some.inj hfa⟩)
  subst hfe
  have hfo : FlOk f.abs := (hkc.fs _ _ hfa).1
  have hol9 : (f.ol.length : Int) ≤ rc.chg := by have h9 := (hkc.fs _ _ hfa).2; simpa [RF.abs] using (show _ ≤ rc.chg from h9)
  obtain ⟨hd1, hd2, hd3, hd4⟩ := dsk_parts (ok.m0)
  refine .r <| .w 21 .mvP <| .w 22 .nil <| .w 23 (.fa T.fd113_0) <| .w 24 (.ldx T.ag111 hd1) <| .w 25 .mvT <| .w 26 (.lk KV.ba (S[i]) (v := .pointer (some ⟨f.blk, 0, none⟩)) T.mp111 (stB_iff T.st9) T.zr118 hd2 (by rw [ents_get, hg]; rfl)) <| .w 6 .asP <| .nil ?_
  refine .seq <| .join (fun s hh => Has s [(0, .pointer (some ⟨d, 0, none⟩)), (1, .slice ka kl.length kc), (5, .string (BA (S[i]))), (6, .pointer (some ⟨f.blk, 0, none⟩)), (15, .slice (some ⟨bb1, oo1, none⟩) S.length cS), (16, .int .i64 (S.length : Int)), (17, .int .i64 (i : Int))] ∧ Hp h (dskI d r).F [boxI f.blk 122 [.slice f.sa f.sl.length f.sc, .slice f.sa f.sl.length f.sc, .bool f.was, .bool f.was, .slice f.oa f.ol.length f.oc], capI 3 117 (f.oa, f.ol.length, f.oc) (f.ol.flatMap RC.cells), flsI (bdel rc.fs S[i]), boxI d 113 [.map (some rc.m), .bool rc.dark, .int .i64 rc.left, .int .i64 rc.chg], mapI kvB rc.m (ents rc.fs)] [byfI Ec f, rdI F2 E2 (ka, kl.length, kc) kl, bysI Ec rc.fs, rdI FS none_ (some ⟨bb1, oo1, none⟩, S.length, cS) (S.map Nm.mk)] hh) ?_ ?_
  · --
    have hnd : (rc.fs.map (·.1)).Nodup := hd3
    have ok := (ok).dopn
    have ok := Hp.fopn hnd hg ok.n2
    have ok := ok.d1 (byfI Ec f) (Bys.get ok.r1 hg) (fun _ h => h)
    refine .a 12 (fun fl hh => cond fl True (cell hh f.blk 1 = some (.slice f.sa f.sl.length f.sc) ∧ cell hh f.blk 3 = some (.bool f.was))) mixed ?_
    have hS := (And.intro (box_cell (o := 1) (v := .slice f.sa f.sl.length f.sc) ok.m0 rfl) (box_cell (o := 3) (v := .bool f.was) ok.m0 rfl))
    refine .g 0 false rfl 27 hS (fun _ => .mvP) <| .g 1 false rfl 28 hS (fun _ => .mvP) <| .g 2 false rfl 29 hS (fun _ => .mvP) <| .g 3 false rfl 30 hS (fun _ => .nil) <| .g 4 false rfl 31 hS (fun _ => .fa T.fd122_1) <| .l 5 false rfl 32 hS (fun _ hS => .ld T.ag22 hS.1) <| .g 6 false rfl 33 hS (fun _ => .mvP) <| .g 7 false rfl 34 hS (fun _ => .nil) <| .g 8 false rfl 35 hS (fun _ => .fa T.fd122_3) <| .l 9 false rfl 36 hS (fun _ hS => .ld T.ag4 hS.2) <| .g 10 false rfl 37 hS (fun _ => .nil) <| .g 11 false rfl 38 hS (fun _ => .fa T.fd122_0) <| .o1 12 <| .ur' true rfl (.stS T.sz22 ok) ?_
    rintro η5 ⟨ok, cg⟩
    refine ⟨trivial, ?_⟩
    refine .g 13 true rfl 39 trivial (fun _ => .nil) <| .g 14 true rfl 40 trivial (fun _ => .fa T.fd122_2) <| .o1 15 <| .ur' true rfl (.stB T.sz4 ok) ?_
    rintro η6 ⟨ok, cg⟩
    refine ⟨trivial, ?_⟩
    refine .e ?_
    refine .end <| ⟨⟨rfl, rfl, rfl, rfl, rfl, rfl, rfl, trivial⟩, ok.n4.n4.n4.n4.n4⟩
  rintro s η7 ⟨hs, ok⟩
  refine .frame hs fun τ => ?_
  refine .seq <| .seq <| ?_
  have ok := ok.d0 (rdI Ec none_ (f.sa, f.sl.length, f.sc) f.sl) (ok.r0).safe.b8 (fun _ h => h.elim id (fun f => f.elim))
  obtain ⟨oa, hoa⟩ : ∃ oa, f.oa = oa := ⟨_, rfl⟩
  rw [hoa] at ok
  refine .r <| .w 41 .mvP <| .w 42 .nil <| .w 43 (.fa T.fd122_4) <| .w 44 (.ldx T.ag120 ok.m0) <| .w 45 (.len T.el120) <| .w 46 .mvI <| .nil ?_
  refine .block fun K2 hK2 => .loop (fun m s hh => ∃ (k : Nat) (xa : Option Addr) (xc : Nat) (xl : List UInt8) (hh0 : Bool) (Ex : Nat → Prop) (kb : Option Addr) (kd : Nat) (km : List UInt8), Has s [(0, .pointer (some ⟨d, 0, none⟩)), (1, .slice kb km.length kd), (5, .string (BA (S[i]))), (6, .pointer (some ⟨f.blk, 0, none⟩)), (15, .slice (some ⟨bb1, oo1, none⟩) S.length cS), (16, .int .i64 (S.length : Int)), (17, .int .i64 (i : Int)), (44, .slice oa f.ol.length f.oc), (45, .int .i64 (f.ol.length : Int)), (46, .int .i64 (k : Int))] ∧ Hp h (dskI d r).F [boxI f.blk 122 [.slice xa xl.length xc, .slice f.sa f.sl.length f.sc, .bool hh0, .bool f.was, .slice oa f.ol.length f.oc], capI 3 117 (oa, f.ol.length, f.oc) (f.ol.flatMap RC.cells), flsI (bdel rc.fs S[i]), boxI d 113 [.map (some rc.m), .bool rc.dark, .int .i64 rc.left, .int .i64 rc.chg], mapI kvB rc.m (ents rc.fs)] [rdI Ex none_ (xa, xl.length, xc) xl, rdI F2 E2 (kb, km.length, kd) km, byfI Ec f, bysI Ec rc.fs, rdI FS none_ (some ⟨bb1, oo1, none⟩, S.length, cS) (S.map Nm.mk)] hh ∧ k ≤ f.ol.length ∧ crC f.sl f.was f.abs.opn kl = crC xl hh0 (f.abs.opn.drop k) km ∧ km = kl.drop k ∧ xl.length ≤ 16777216 ∧ (∀ j, Ex j → E j ∨ h.size ≤ j) ∧ m = f.ol.length - k) ?_ ?_
  · exact ⟨_, 0, f.sa, f.sc, f.sl, f.was, Ec, ka, kc, kl, ⟨rfl, rfl, rfl, rfl, rfl, rfl, rfl, rfl, rfl, rfl, trivial⟩, ok.f4.f4.f3.f4.f4, Nat.zero_le _, rfl, rfl, hfo.safe, hEc, rfl⟩
  rintro _ _ η8 ⟨k, xa, xc, xl, hh0, Ex, kb, kd, km, hs, ok, hkf, hcr, hkm, hxl, hEx, rfl⟩ J1 hJ1
  refine .frame hs fun τ => ?_
  refine .seq <| .r <| .w 47 .lss <| .nil ?_
  refine .seq <| .cdr (fun C2 => ?_) (fun C2 => ?_)
  · --
    refine .exit <| hK2 _ _ <| ?_
    have hkL : k = f.ol.length := by omega
    have hcr2 : crC f.sl f.was f.abs.opn kl = (xl, hh0) := by rw [hcr, List.drop_eq_nil_of_le (by rw [hkL]; simp [RF.abs]), crC]
    obtain ⟨rn, hrn⟩ : ∃ rn : RD, rn = ⟨rc.m, bput rc.fs S[i] (nowR f xa xc xl hh0), rc.dark, rc.left, rc.chg⟩ := ⟨_, rfl⟩
    have hg2 : bget rn.fs S[i] = some (nowR f xa xc xl hh0) := by rw [hrn]; simp only; rw [bget_put, if_pos rfl]
    rw [← hoa] at ok
    have ok := cr_close hd3 hg ok
    have ok : Hp h (dskI d r).F [dskI d rn] [bysI (fun j => Ec j ∨ Ex j) rn.fs, rdI F2 E2 (kb, km.length, kd) km, rdI FS none_ (some ⟨bb1, oo1, none⟩, S.length, cS) (S.map Nm.mk)] η8 := by rw [hrn]; exact ok
    refine .r <| .w 96 .mvP <| .w 97 .mvT <| .w 98 .mvP <| .c' 99 .func (settle_any (d := d) (r := rn) (E := fun j => Ec j ∨ Ex j) (f := (nowR f xa xc xl hh0)) (ok).loc1 hg2) ?_
    rintro _ η9 ⟨rfl, q⟩
    have ok := (ok).dsk (d := d) (r := rn) (r' := (settleR rn S[i] (nowR f xa xc xl hh0))) (E' := fun j => Ec j ∨ Ex j) ⟨q, fun _ h => .inl h⟩
    refine .nil ?_
    refine .end <| hK1 _ _ <| ?_
    have hqa : (settleR rn S[i] (nowR f xa xc xl hh0)).abs = ⟨put1 rc.abs.fs S[i] (crF f.abs kl), rc.dark, rc.left, rc.chg⟩ := by rw [hrn]; exact cr_abs hcr2
    generalize hrq : settleR rn S[i] (nowR f xa xc xl hh0) = rq at ok hqa
    refine .r <| .w 100 (.addI (b := 1)) <| .w 17 .mvI <| .nil ?_
    refine .end <| hJ0 _ _ _ ⟨i + 1, rq, (fun j => Ec j ∨ Ex j), kb, kd, km, ⟨rfl, rfl, rfl, rfl, rfl, trivial⟩, (ok).f2.f1.f2, by rw [hqa, hkm, hkL, show f.ol.length = f.abs.opn.length from by simp [RF.abs]]; exact hv.step hKS.up hiS hfa, by rw [hqa]; exact hkc.crf hfa, by rw [show rq.chg = rq.abs.chg from rfl, hqa]; exact hch, fun j hj => hj.elim (hEc j) (hEx j), rfl⟩ (by omega)
  have hkL : k < f.ol.length := by omega
  have hco : ChOk f.ol[k].abs := hfo.opn _ (List.mem_map.2 ⟨_, List.getElem_mem hkL, rfl⟩)
  have hbl : f.ol[k].pos + f.ol[k].bl.length ≤ 16777216 := hco.fit
  refine .skip <| .seq <| .block fun K3 hK3 => .seq <| .r <| ?_
  obtain ⟨bb2, oo2, rfl, fb2⟩ := ok.m1.pos (n := f.ol.length) (by first | omega | (simp; omega))
  refine .w 48 (.ix k T.el120 T.sz117) <| .w 49 (.ldc (vs := RC.cells f.ol[k]) T.ag117 (sl_ats RC.cells_len (ok.m1).sl (i := k) (by omega)) T.sz117) <| .a' 8 (.alA T.zr117 ok) ?_
  rintro _ η10 ⟨pb1, rfl, ok, xe⟩
  refine .ur' (.stW (vs := [.int .i64 (f.ol[k].kind : Int), .int .i64 (f.ol[k].pos : Int), .slice (f.ol[k].ba) (f.ol[k].bl.length) (f.ol[k].bc)]) T.sz117 ok (oneL rfl)) ?_
  rintro η11 ⟨ok, cg⟩
  refine .nil ?_
  refine .seq <| .r <| .w 9 .asI <| .nil ?_
  refine .seq <| .seq <| .r <| .w 50 .mvS <| .w 51 (.len T.el22) <| .w 52 .gtr <| .nil ?_
  refine .join (fun s hh => ∃ (by0 : Nat) (ka2 : Option Addr) (kc2 : Nat), Has s [(0, .pointer (some ⟨d, 0, none⟩)), (1, .slice ka2 km.tail.length kc2), (5, .string (BA (S[i]))), (6, .pointer (some ⟨f.blk, 0, none⟩)), (8, .pointer (some ⟨pb1, 0, none⟩)), (9, .int .u8 (by0 : Int)), (15, .slice (some ⟨bb1, oo1, none⟩) S.length cS), (16, .int .i64 (S.length : Int)), (17, .int .i64 (i : Int)), (44, .slice (some ⟨bb2, oo2, none⟩) f.ol.length f.oc), (45, .int .i64 (f.ol.length : Int)), (46, .int .i64 (k : Int))] ∧ Hp h (dskI d r).F [boxI pb1 117 [.int .i64 (f.ol[k].kind : Int), .int .i64 (f.ol[k].pos : Int), .slice (f.ol[k].ba) (f.ol[k].bl.length) (f.ol[k].bc)], boxI f.blk 122 [.slice xa xl.length xc, .slice f.sa f.sl.length f.sc, .bool hh0, .bool f.was, .slice (some ⟨bb2, oo2, none⟩) f.ol.length f.oc], capI 3 117 (some ⟨bb2, oo2, none⟩, f.ol.length, f.oc) (f.ol.flatMap RC.cells), flsI (bdel rc.fs S[i]), boxI d 113 [.map (some rc.m), .bool rc.dark, .int .i64 rc.left, .int .i64 rc.chg], mapI kvB rc.m (ents rc.fs)] [rdI F2 E2 (ka2, km.tail.length, kc2) km.tail, rdI Ex none_ (xa, xl.length, xc) xl, byfI Ec f, bysI Ec rc.fs, rdI FS none_ (some ⟨bb1, oo1, none⟩, S.length, cS) (S.map Nm.mk)] hh ∧ by0 = (km.headD 0).toNat) ?_ ?_
  · --
    refine .cd (fun C3 => ?_) (fun C3 => ?_)
    · --
      have hk1 : 0 < km.length := by omega
      refine .q (hm := mixed) <| .w 53 .mvS <| ?_
      obtain ⟨bb3, oo3, rfl, fb3⟩ := ok.r1.pos (by first | omega | (simp; omega))
      refine .w 54 (.ix1 0 T.el22 T.sz5) <| .w 55 (.ld T.ag5 (ok.r1.u8 (i := 0) (by omega))) <| .w 56 .mvS <| .w 57 (.sll 1 T.el22 T.sz5) <| ?_
      generalize hc1 : cutA (some ⟨bb3, oo3, none⟩) 1 kd 1 = ca1
      generalize hn1 : km.length - 1 = cn1
      obtain rfl : cn1 = (km.tail).length := by rw [← hn1]; simp
      have ok := ok.d1 (rdI F2 E2 (ca1, (km.tail).length, kd - 1) km.tail) (by have h1 := ok.r1.cut (i := 1) (j := km.length) (by omega) (by omega); rw [show ((km).drop 1).take (km.length - 1) = km.tail from by cases km <;> simp] at h1; rw [← hc1, ← hn1]; exact h1) (fun _ h => h)
      refine .w 9 .asI <| .w 1 .asS <| .nil ?_
      refine .end <| ⟨(km[0].toNat), ca1, kd - 1, ⟨rfl, rfl, rfl, rfl, rfl, rfl, rfl, rfl, rfl, rfl, rfl, rfl, trivial⟩, ok.f5.f5.f5.f4.f4.e5, by cases km with | nil => (simp at hk1) | cons x y => rfl⟩
    have hk0 : km = [] := List.eq_nil_of_length_eq_zero (by omega)
    have ok := ok.d1 (rdI F2 E2 (kb, km.tail.length, kd) km.tail) (by have h9 := ok.r1; rw [hk0] at h9 ⊢; exact h9) (fun _ h => h)
    rw [show km.length = km.tail.length from by rw [hk0]; rfl]
    refine .skip <| .end <| ⟨0, kb, kd, ⟨rfl, rfl, rfl, rfl, rfl, rfl, rfl, rfl, rfl, rfl, rfl, rfl, trivial⟩, ok.f5.f5.f5.f4.f4.e5, by rw [hk0]; rfl⟩
  rintro s η12 ⟨by0, ka2, kc2, hs, ok, hby0⟩
  refine .frame hs fun τ => ?_
  refine .seq <| ?_
  have hb256 : by0 < 256 := by rw [hby0]; exact UInt8.toNat_lt _
  have ok := ok.d2 (rdI Ec Ec (f.ol[k].ba, f.ol[k].bl.length, f.ol[k].bc) f.ol[k].bl) ((ok.r2).opn _ (List.getElem_mem hkL)) (fun _ h => h.elim id id)
  have hbc : f.ol[k].bl.length ≤ f.ol[k].bc := ok.r0.c
  refine .r <| .w 59 (.ldb T.ag117 ok.m0 T.sz117) <| .w 60 .mvI <| .c' 61 .func (kept_any (kind := f.ol[k].kind) (pos := f.ol[k].pos) (k := by0) (ba := f.ol[k].ba) (bc := f.ol[k].bc) (bl := f.ol[k].bl) (by omega) (by omega) (by omega)) ?_
  rintro _ η13 ⟨rfl, hx⟩
  have ok := ok.ext hx
  refine .w 58 .mvU <| .w 62 .ex <| .w 63 .ex <| .a' 10 (.alA T.zr117 ok) ?_
  rintro _ η14 ⟨pb2, rfl, ok, xe⟩
  refine .ur' (.stW (vs := [.int .i64 ((keptN ⟨f.ol[k].kind, f.ol[k].pos, f.ol[k].bl⟩ by0).1.kind : Int), .int .i64 ((keptN ⟨f.ol[k].kind, f.ol[k].pos, f.ol[k].bl⟩ by0).1.pos : Int), .slice (f.ol[k].ba) ((keptN ⟨f.ol[k].kind, f.ol[k].pos, f.ol[k].bl⟩ by0).1.b.length) (f.ol[k].bc)]) T.sz117 ok (oneL rfl)) ?_
  rintro η15 ⟨ok, cg⟩
  refine .w 11 .asB <| .nil ?_
  refine .seq <| .r <| .w 64 .mvB <| .w 65 .mvB <| .spl (fun G65 => ?_) (fun G65 => ?_)
  ·
    refine .w 66 (.fa T.fd117_0) <| .w 67 (.ldx T.ag3 ok.m1) <| .w 68 .eql <| .w 69 .mvB <| .sd (fun G69 => ?_) (fun G69 => ?_)
    ·
      refine .x 70 <| .x 71 <| .x 72 <| .x 73 <| .w 74 .pkt <| .w 75 .pkt <| .nil ?_
      refine .join (fun s hh => ∃ (xa2 : Option Addr) (xc2 : Nat) (xl2 : List UInt8) (hh2 : Bool) (Ex2 : Nat → Prop), Has s [(0, .pointer (some ⟨d, 0, none⟩)), (1, .slice ka2 km.tail.length kc2), (5, .string (BA (S[i]))), (6, .pointer (some ⟨f.blk, 0, none⟩)), (15, .slice (some ⟨bb1, oo1, none⟩) S.length cS), (16, .int .i64 (S.length : Int)), (17, .int .i64 (i : Int)), (44, .slice (some ⟨bb2, oo2, none⟩) f.ol.length f.oc), (45, .int .i64 (f.ol.length : Int)), (46, .int .i64 (k : Int))] ∧ Hp h (dskI d r).F [boxI f.blk 122 [.slice xa2 xl2.length xc2, .slice f.sa f.sl.length f.sc, .bool hh2, .bool f.was, .slice (some ⟨bb2, oo2, none⟩) f.ol.length f.oc], capI 3 117 (some ⟨bb2, oo2, none⟩, f.ol.length, f.oc) (f.ol.flatMap RC.cells), flsI (bdel rc.fs S[i]), boxI d 113 [.map (some rc.m), .bool rc.dark, .int .i64 rc.left, .int .i64 rc.chg], mapI kvB rc.m (ents rc.fs)] [rdI Ex2 none_ (xa2, xl2.length, xc2) xl2, rdI F2 E2 (ka2, km.tail.length, kc2) km.tail, byfI Ec f, bysI Ec rc.fs, rdI FS none_ (some ⟨bb1, oo1, none⟩, S.length, cS) (S.map Nm.mk)] hh ∧ crC xl hh0 (f.abs.opn.drop k) km = crC xl2 hh2 (f.abs.opn.drop (k + 1)) km.tail ∧ xl2.length ≤ 16777216 ∧ (∀ j, Ex2 j → E j ∨ h.size ≤ j)) ?_ ?_
      · --
        refine .ct <| ?_
        have hkp := (keptN_ok (k := by0) hco).fit
        have hkp : (keptN ⟨f.ol[k].kind, f.ol[k].pos, f.ol[k].bl⟩ by0).1.pos + (keptN ⟨f.ol[k].kind, f.ol[k].pos, f.ol[k].bl⟩ by0).1.b.length ≤ 16777216 := hkp
        have ok := ok.d0 (rdI Ec Ec (f.ol[k].ba, (keptN ⟨f.ol[k].kind, f.ol[k].pos, f.ol[k].bl⟩ by0).1.b.length, f.ol[k].bc) (keptN ⟨f.ol[k].kind, f.ol[k].pos, f.ol[k].bl⟩ by0).1.b) ((ok.r0).pre kept_pre) (fun _ h => h)
        refine .a 11 (fun fl hh => cond fl True (Hp h (dskI d r).F [boxI pb2 117 [.int .i64 ((keptN ⟨f.ol[k].kind, f.ol[k].pos, f.ol[k].bl⟩ by0).1.kind : Int), .int .i64 ((keptN ⟨f.ol[k].kind, f.ol[k].pos, f.ol[k].bl⟩ by0).1.pos : Int), .slice (f.ol[k].ba) ((keptN ⟨f.ol[k].kind, f.ol[k].pos, f.ol[k].bl⟩ by0).1.b.length) (f.ol[k].bc)], boxI pb1 117 [.int .i64 (f.ol[k].kind : Int), .int .i64 (f.ol[k].pos : Int), .slice (f.ol[k].ba) (f.ol[k].bl.length) (f.ol[k].bc)], boxI f.blk 122 [.slice xa xl.length xc, .slice f.sa f.sl.length f.sc, .bool hh0, .bool f.was, .slice (some ⟨bb2, oo2, none⟩) f.ol.length f.oc], capI 3 117 (some ⟨bb2, oo2, none⟩, f.ol.length, f.oc) (f.ol.flatMap RC.cells), flsI (bdel rc.fs S[i]), boxI d 113 [.map (some rc.m), .bool rc.dark, .int .i64 rc.left, .int .i64 rc.chg], mapI kvB rc.m (ents rc.fs)] [rdI Ec Ec (f.ol[k].ba, (keptN ⟨f.ol[k].kind, f.ol[k].pos, f.ol[k].bl⟩ by0).1.b.length, f.ol[k].bc) ((keptN ⟨f.ol[k].kind, f.ol[k].pos, f.ol[k].bl⟩ by0).1.b), rdI Ec Ec (f.ol[k].ba, f.ol[k].bl.length, f.ol[k].bc) (f.ol[k].bl), rdI F2 E2 (ka2, km.tail.length, kc2) km.tail, rdI Ex none_ (xa, xl.length, xc) xl, byfI Ec f, bysI Ec rc.fs, rdI FS none_ (some ⟨bb1, oo1, none⟩, S.length, cS) (S.map Nm.mk)] hh)) mixed ?_
        have hS := ok
        refine .g 0 false rfl 77 hS (fun _ => .mvP) <| .g 1 false rfl 78 hS (fun _ => .mvP) <| .l 2 false rfl 79 hS (fun _ hS => .ldb T.ag117 hS.m0 T.sz117) <| .g 3 false rfl 80 hS (fun _ => .mvP) <| .g 4 false rfl 81 hS (fun _ => .nil) <| .g 5 false rfl 82 hS (fun _ => .fa T.fd122_0) <| .l 6 false rfl 83 hS (fun _ hS => .ldx T.ag22 hS.m2) <| .g 7 false rfl 84 hS (fun _ => .mvP) <| .g 8 false rfl 85 hS (fun _ => .nil) <| .g 9 false rfl 86 hS (fun _ => .fa T.fd122_2) <| .l 10 false rfl 87 hS (fun _ hS => .ldx T.ag4 hS.m2) <| .o1 11 <| .c' true rfl 88 .func (done_any (kind := (keptN ⟨f.ol[k].kind, f.ol[k].pos, f.ol[k].bl⟩ by0).1.kind) (pos := (keptN ⟨f.ol[k].kind, f.ol[k].pos, f.ol[k].bl⟩ by0).1.pos) (ba := f.ol[k].ba) (bc := f.ol[k].bc) (bl := (keptN ⟨f.ol[k].kind, f.ol[k].pos, f.ol[k].bl⟩ by0).1.b) (a := xa) (c := xc) (l := xl) (here := hh0) ok.r0 ok.r3 (by omega) (by omega)) ?_
        rintro _ η16 ⟨_, rfl, own⟩
        obtain ⟨ya1, yc1, rfl⟩ := own.formB
        have hyf := fun j hj => Nat.le_trans ok.chg.size (own.fresh j hj)
        have ok := ok.own own
        refine ⟨trivial, ?_⟩
        refine .g 12 true rfl 76 trivial (fun _ => .mvU) <| .g 13 true rfl 89 trivial (fun _ => .ex) <| .g 14 true rfl 90 trivial (fun _ => .ex) <| .g 15 true rfl 91 trivial (fun _ => .nil) <| .g 16 true rfl 92 trivial (fun _ => .fa T.fd122_0) <| .o1 17 <| .ur' true rfl (.stS T.sz22 ok.n3) ?_
        rintro η17 ⟨ok, cg⟩
        refine ⟨trivial, ?_⟩
        refine .g 18 true rfl 93 trivial (fun _ => .nil) <| .g 19 true rfl 94 trivial (fun _ => .fa T.fd122_2) <| .o1 20 <| .ur' true rfl (.stB T.sz4 ok) ?_
        rintro η18 ⟨ok, cg⟩
        refine ⟨trivial, ?_⟩
        refine .e ?_
        refine .end <| ⟨ya1, yc1, (doneN (keptN ⟨f.ol[k].kind, f.ol[k].pos, f.ol[k].bl⟩ by0).1 xl hh0).1, (doneN (keptN ⟨f.ol[k].kind, f.ol[k].pos, f.ol[k].bl⟩ by0).1 xl hh0).2, (blkC (sv (ya1, (doneN (keptN ⟨f.ol[k].kind, f.ol[k].pos, f.ol[k].bl⟩ by0).1 xl hh0).1.length, yc1))), ⟨rfl, rfl, rfl, rfl, rfl, rfl, rfl, rfl, rfl, rfl, trivial⟩, ((ok.n1.n7.n7.n7.n7.n5).n5.frzB rfl).k5.f7.f7.f7.f6.f4.e5, by rw [opn_drop hkL]; exact crC_t (c := ⟨f.ol[k].kind, f.ol[k].pos, f.ol[k].bl⟩) hby0 (by assumption) (by first | exact .inl (show f.ol[k].kind = 0 by omega) | exact .inr (by assumption)), doneN_len (keptN_ok hco) hxl, fun j hj => .inr (hyf j hj)⟩
      rintro s η19 ⟨xa2, xc2, xl2, hh2, Ex2, hs, ok, hst, hxl2, hEx2⟩
      refine .frame hs fun τ => ?_
      refine .end <| hK3 _ _ <| .r <| .w 95 (.addI (b := 1)) <| .w 46 .mvI <| .nil ?_
      refine .end <| hJ1 _ _ _ ⟨k + 1, xa2, xc2, xl2, hh2, Ex2, ka2, kc2, km.tail, ⟨rfl, rfl, rfl, rfl, rfl, rfl, rfl, rfl, rfl, rfl, trivial⟩, ok, by omega, by rw [hcr, hst], by rw [hkm, List.tail_drop], hxl2, hEx2, rfl⟩ (by omega)
    refine .w 70 .mvP <| .w 71 .nil <| .w 72 (.fa T.fd122_2) <| .w 73 (.ldx T.ag4 ok.m2) <| .w 74 .pkf <| .w 75 .pkt <| .nil ?_
    refine .join (fun s hh => ∃ (xa2 : Option Addr) (xc2 : Nat) (xl2 : List UInt8) (hh2 : Bool) (Ex2 : Nat → Prop), Has s [(0, .pointer (some ⟨d, 0, none⟩)), (1, .slice ka2 km.tail.length kc2), (5, .string (BA (S[i]))), (6, .pointer (some ⟨f.blk, 0, none⟩)), (15, .slice (some ⟨bb1, oo1, none⟩) S.length cS), (16, .int .i64 (S.length : Int)), (17, .int .i64 (i : Int)), (44, .slice (some ⟨bb2, oo2, none⟩) f.ol.length f.oc), (45, .int .i64 (f.ol.length : Int)), (46, .int .i64 (k : Int))] ∧ Hp h (dskI d r).F [boxI f.blk 122 [.slice xa2 xl2.length xc2, .slice f.sa f.sl.length f.sc, .bool hh2, .bool f.was, .slice (some ⟨bb2, oo2, none⟩) f.ol.length f.oc], capI 3 117 (some ⟨bb2, oo2, none⟩, f.ol.length, f.oc) (f.ol.flatMap RC.cells), flsI (bdel rc.fs S[i]), boxI d 113 [.map (some rc.m), .bool rc.dark, .int .i64 rc.left, .int .i64 rc.chg], mapI kvB rc.m (ents rc.fs)] [rdI Ex2 none_ (xa2, xl2.length, xc2) xl2, rdI F2 E2 (ka2, km.tail.length, kc2) km.tail, byfI Ec f, bysI Ec rc.fs, rdI FS none_ (some ⟨bb1, oo1, none⟩, S.length, cS) (S.map Nm.mk)] hh ∧ crC xl hh0 (f.abs.opn.drop k) km = crC xl2 hh2 (f.abs.opn.drop (k + 1)) km.tail ∧ xl2.length ≤ 16777216 ∧ (∀ j, Ex2 j → E j ∨ h.size ≤ j)) ?_ ?_
    · --
      refine .cond (fun C4 => ?_) (fun C4 => ?_)
      · --
        have hkp := (keptN_ok (k := by0) hco).fit
        have hkp : (keptN ⟨f.ol[k].kind, f.ol[k].pos, f.ol[k].bl⟩ by0).1.pos + (keptN ⟨f.ol[k].kind, f.ol[k].pos, f.ol[k].bl⟩ by0).1.b.length ≤ 16777216 := hkp
        have ok := ok.d0 (rdI Ec Ec (f.ol[k].ba, (keptN ⟨f.ol[k].kind, f.ol[k].pos, f.ol[k].bl⟩ by0).1.b.length, f.ol[k].bc) (keptN ⟨f.ol[k].kind, f.ol[k].pos, f.ol[k].bl⟩ by0).1.b) ((ok.r0).pre kept_pre) (fun _ h => h)
        refine .a 11 (fun fl hh => cond fl True (Hp h (dskI d r).F [boxI pb2 117 [.int .i64 ((keptN ⟨f.ol[k].kind, f.ol[k].pos, f.ol[k].bl⟩ by0).1.kind : Int), .int .i64 ((keptN ⟨f.ol[k].kind, f.ol[k].pos, f.ol[k].bl⟩ by0).1.pos : Int), .slice (f.ol[k].ba) ((keptN ⟨f.ol[k].kind, f.ol[k].pos, f.ol[k].bl⟩ by0).1.b.length) (f.ol[k].bc)], boxI pb1 117 [.int .i64 (f.ol[k].kind : Int), .int .i64 (f.ol[k].pos : Int), .slice (f.ol[k].ba) (f.ol[k].bl.length) (f.ol[k].bc)], boxI f.blk 122 [.slice xa xl.length xc, .slice f.sa f.sl.length f.sc, .bool hh0, .bool f.was, .slice (some ⟨bb2, oo2, none⟩) f.ol.length f.oc], capI 3 117 (some ⟨bb2, oo2, none⟩, f.ol.length, f.oc) (f.ol.flatMap RC.cells), flsI (bdel rc.fs S[i]), boxI d 113 [.map (some rc.m), .bool rc.dark, .int .i64 rc.left, .int .i64 rc.chg], mapI kvB rc.m (ents rc.fs)] [rdI Ec Ec (f.ol[k].ba, (keptN ⟨f.ol[k].kind, f.ol[k].pos, f.ol[k].bl⟩ by0).1.b.length, f.ol[k].bc) ((keptN ⟨f.ol[k].kind, f.ol[k].pos, f.ol[k].bl⟩ by0).1.b), rdI Ec Ec (f.ol[k].ba, f.ol[k].bl.length, f.ol[k].bc) (f.ol[k].bl), rdI F2 E2 (ka2, km.tail.length, kc2) km.tail, rdI Ex none_ (xa, xl.length, xc) xl, byfI Ec f, bysI Ec rc.fs, rdI FS none_ (some ⟨bb1, oo1, none⟩, S.length, cS) (S.map Nm.mk)] hh)) mixed ?_
        have hS := ok
        refine .g 0 false rfl 77 hS (fun _ => .mvP) <| .g 1 false rfl 78 hS (fun _ => .mvP) <| .l 2 false rfl 79 hS (fun _ hS => .ldb T.ag117 hS.m0 T.sz117) <| .g 3 false rfl 80 hS (fun _ => .mvP) <| .g 4 false rfl 81 hS (fun _ => .nil) <| .g 5 false rfl 82 hS (fun _ => .fa T.fd122_0) <| .l 6 false rfl 83 hS (fun _ hS => .ldx T.ag22 hS.m2) <| .g 7 false rfl 84 hS (fun _ => .mvP) <| .g 8 false rfl 85 hS (fun _ => .nil) <| .g 9 false rfl 86 hS (fun _ => .fa T.fd122_2) <| .l 10 false rfl 87 hS (fun _ hS => .ldx T.ag4 hS.m2) <| .o1 11 <| .c' true rfl 88 .func (done_any (kind := (keptN ⟨f.ol[k].kind, f.ol[k].pos, f.ol[k].bl⟩ by0).1.kind) (pos := (keptN ⟨f.ol[k].kind, f.ol[k].pos, f.ol[k].bl⟩ by0).1.pos) (ba := f.ol[k].ba) (bc := f.ol[k].bc) (bl := (keptN ⟨f.ol[k].kind, f.ol[k].pos, f.ol[k].bl⟩ by0).1.b) (a := xa) (c := xc) (l := xl) (here := hh0) ok.r0 ok.r3 (by omega) (by omega)) ?_
        rintro _ η20 ⟨_, rfl, own⟩
        obtain ⟨ya2, yc2, rfl⟩ := own.formB
        have hyf := fun j hj => Nat.le_trans ok.chg.size (own.fresh j hj)
        have ok := ok.own own
        refine ⟨trivial, ?_⟩
        refine .g 12 true rfl 76 trivial (fun _ => .mvU) <| .g 13 true rfl 89 trivial (fun _ => .ex) <| .g 14 true rfl 90 trivial (fun _ => .ex) <| .g 15 true rfl 91 trivial (fun _ => .nil) <| .g 16 true rfl 92 trivial (fun _ => .fa T.fd122_0) <| .o1 17 <| .ur' true rfl (.stS T.sz22 ok.n3) ?_
        rintro η21 ⟨ok, cg⟩
        refine ⟨trivial, ?_⟩
        refine .g 18 true rfl 93 trivial (fun _ => .nil) <| .g 19 true rfl 94 trivial (fun _ => .fa T.fd122_2) <| .o1 20 <| .ur' true rfl (.stB T.sz4 ok) ?_
        rintro η22 ⟨ok, cg⟩
        refine ⟨trivial, ?_⟩
        refine .e ?_
        refine .end <| ⟨ya2, yc2, (doneN (keptN ⟨f.ol[k].kind, f.ol[k].pos, f.ol[k].bl⟩ by0).1 xl hh0).1, (doneN (keptN ⟨f.ol[k].kind, f.ol[k].pos, f.ol[k].bl⟩ by0).1 xl hh0).2, (blkC (sv (ya2, (doneN (keptN ⟨f.ol[k].kind, f.ol[k].pos, f.ol[k].bl⟩ by0).1 xl hh0).1.length, yc2))), ⟨rfl, rfl, rfl, rfl, rfl, rfl, rfl, rfl, rfl, rfl, trivial⟩, ((ok.n1.n7.n7.n7.n7.n5).n5.frzB rfl).k5.f7.f7.f7.f6.f4.e5, by rw [opn_drop hkL]; exact crC_t (c := ⟨f.ol[k].kind, f.ol[k].pos, f.ol[k].bl⟩) hby0 (by assumption) (by first | exact .inl (show f.ol[k].kind = 0 by omega) | exact .inr (by assumption)), doneN_len (keptN_ok hco) hxl, fun j hj => .inr (hyf j hj)⟩
      refine .skip <| .end <| ⟨xa, xc, xl, hh0, Ex, ⟨rfl, rfl, rfl, rfl, rfl, rfl, rfl, rfl, rfl, rfl, trivial⟩, (ok.n6.n6.n6.n6.n6).k5.f5.f5.f5.f4.f5.e5, by rw [opn_drop hkL]; exact crC_f (c := ⟨f.ol[k].kind, f.ol[k].pos, f.ol[k].bl⟩) hby0 (by rintro ⟨h1, h2 | h2⟩ <;> simp_all), hxl, hEx⟩
    rintro s η23 ⟨xa2, xc2, xl2, hh2, Ex2, hs, ok, hst, hxl2, hEx2⟩
    refine .frame hs fun τ => ?_
    refine .end <| hK3 _ _ <| .r <| .w 95 (.addI (b := 1)) <| .w 46 .mvI <| .nil ?_
    refine .end <| hJ1 _ _ _ ⟨k + 1, xa2, xc2, xl2, hh2, Ex2, ka2, kc2, km.tail, ⟨rfl, rfl, rfl, rfl, rfl, rfl, rfl, rfl, rfl, rfl, trivial⟩, ok, by omega, by rw [hcr, hst], by rw [hkm, List.tail_drop], hxl2, hEx2, rfl⟩ (by omega)
  refine .x 66 <| .x 67 <| .x 68 <| .x 69 <| .x 70 <| .x 71 <| .x 72 <| .x 73 <| .x 74 <| .w 75 .pkf <| .nil ?_
  refine .join (fun s hh => ∃ (xa2 : Option Addr) (xc2 : Nat) (xl2 : List UInt8) (hh2 : Bool) (Ex2 : Nat → Prop), Has s [(0, .pointer (some ⟨d, 0, none⟩)), (1, .slice ka2 km.tail.length kc2), (5, .string (BA (S[i]))), (6, .pointer (some ⟨f.blk, 0, none⟩)), (15, .slice (some ⟨bb1, oo1, none⟩) S.length cS), (16, .int .i64 (S.length : Int)), (17, .int .i64 (i : Int)), (44, .slice (some ⟨bb2, oo2, none⟩) f.ol.length f.oc), (45, .int .i64 (f.ol.length : Int)), (46, .int .i64 (k : Int))] ∧ Hp h (dskI d r).F [boxI f.blk 122 [.slice xa2 xl2.length xc2, .slice f.sa f.sl.length f.sc, .bool hh2, .bool f.was, .slice (some ⟨bb2, oo2, none⟩) f.ol.length f.oc], capI 3 117 (some ⟨bb2, oo2, none⟩, f.ol.length, f.oc) (f.ol.flatMap RC.cells), flsI (bdel rc.fs S[i]), boxI d 113 [.map (some rc.m), .bool rc.dark, .int .i64 rc.left, .int .i64 rc.chg], mapI kvB rc.m (ents rc.fs)] [rdI Ex2 none_ (xa2, xl2.length, xc2) xl2, rdI F2 E2 (ka2, km.tail.length, kc2) km.tail, byfI Ec f, bysI Ec rc.fs, rdI FS none_ (some ⟨bb1, oo1, none⟩, S.length, cS) (S.map Nm.mk)] hh ∧ crC xl hh0 (f.abs.opn.drop k) km = crC xl2 hh2 (f.abs.opn.drop (k + 1)) km.tail ∧ xl2.length ≤ 16777216 ∧ (∀ j, Ex2 j → E j ∨ h.size ≤ j)) ?_ ?_
  · --
    refine .cf <| .skip <| .end <| ⟨xa, xc, xl, hh0, Ex, ⟨rfl, rfl, rfl, rfl, rfl, rfl, rfl, rfl, rfl, rfl, trivial⟩, (ok.n6.n6.n6.n6.n6).k5.f5.f5.f5.f4.f5.e5, by rw [opn_drop hkL]; exact crC_f (c := ⟨f.ol[k].kind, f.ol[k].pos, f.ol[k].bl⟩) hby0 (by rintro ⟨h1, h2 | h2⟩ <;> simp_all), hxl, hEx⟩
  rintro s η24 ⟨xa2, xc2, xl2, hh2, Ex2, hs, ok, hst, hxl2, hEx2⟩
  refine .frame hs fun τ => ?_
  refine .end <| hK3 _ _ <| .r <| .w 95 (.addI (b := 1)) <| .w 46 .mvI <| .nil ?_
  refine .end <| hJ1 _ _ _ ⟨k + 1, xa2, xc2, xl2, hh2, Ex2, ka2, kc2, km.tail, ⟨rfl, rfl, rfl, rfl, rfl, rfl, rfl, rfl, rfl, rfl, trivial⟩, ok, by omega, by rw [hcr, hst], by rw [hkm, List.tail_drop], hxl2, hEx2, rfl⟩ (by omega)

end Go.Proofs.Ytpebbkhainpfaaa

namespace Go.Proofs.Ytpebbkhainpfaaa
open Go Go.HL
theorem write_chg {d : Dk} {n : List UInt8} {z : Int} {l : List UInt8} : (writeN d n z l).1.chg ≤ d.chg + 1 := by
  unfold writeN doN powerN; repeat' split
  all_goals (simp only; omega)
theorem sync_chg {d : Dk} {n : List UInt8} : (syncN d n).1.chg ≤ d.chg + 1 := by
  unfold syncN powerN; repeat' split
  all_goals (simp only; omega)
theorem remove_chg {d : Dk} {n : List UInt8} : (removeN d n).1.chg ≤ d.chg + 1 := by
  unfold removeN doN powerN; repeat' split
  all_goals (simp only; omega)
theorem trunc_chg {d : Dk} {n : List UInt8} {z : Int} : (truncN d n z).1.chg ≤ d.chg + 1 := by
  unfold truncN doN powerN; repeat' split
  all_goals (simp only; omega)
def lv1 : Dk := (writeN newN [102] 0 [1, 2]).1
def lv2 : Dk := (syncN lv1 [102]).1
def lv3 : Dk := (writeN lv2 [102] 1 [3, 4]).1
def lv4 : Dk := crashN lv3 [[102]] [128]
def lv5 : Dk := cutN lv4 0
def lv6 : Dk := (writeN lv5 [102] 0 []).1
theorem keys_one {fs : List UInt8 → Option Fl} {S : List (List UInt8)} {n : List UInt8} (k : Keys fs S) (h : ∀ m, (fs m).isSome = true ↔ m = n) : S = [n] := by
  have h1 : ∀ m ∈ S, m = n := fun m hm => (h m).1 ((k.iff m).1 hm)
  have h2 : n ∈ S := (k.iff n).2 ((h n).2 rfl)
  match S, k.up, h1, h2 with
  | [a], _, h1, _ => rw [h1 a (by simp)]
  | a :: b :: l, u, h1, _ =>
    have h3 := (List.pairwise_cons.1 u).1 b (by simp)
    rw [h1 a (by simp), h1 b (by simp)] at h3
    exact absurd h3 (List.lt_irrefl _)
theorem lv3_keys {S : List (List UInt8)} (k : Keys lv3.fs S) : S = [[102]] := keys_one k fun m => by
  have h : lv3.fs = put1 (put1 (put1 (fun _ => none) [102] (lv1.fs [102])) [102] (lv2.fs [102])) [102] (lv3.fs [102]) := by
    funext m
    by_cases hm : m = [102]
    · subst hm; simp [put1]
    · simp only [put1, hm, if_false]
      show put1 _ _ _ m = _
      rw [put1_ne hm]
      show put1 _ _ _ m = _
      rw [put1_ne hm]
      show put1 _ _ _ m = _
      rw [put1_ne hm]
      rfl
  rw [h]
  by_cases hm : m = [102]
  · subst hm; simp only [put1_at]; exact ⟨fun _ => trivial, fun _ => rfl⟩
  · rw [put1_ne hm, put1_ne hm, put1_ne hm]; simp [hm]

set_option maxRecDepth 100000 in
set_option maxHeartbeats 2000000 in
theorem live_any {h : Heap} : HC Try.prog 30 #[] h (fun v h' => v = .bool true ∧ Ext h h') := by
  have ok := Hp.nil h none_
  refine HC.go Try.func30 122 ?_
  refine .seq <| .r <| .w 0 .asB <| .nil ?_
  refine .seq <| .r <| .c' 13 .func new_any ?_
  rintro _ η1 ⟨dnd1, rnd1, rfl, hand1, q⟩
  have ok := ok.addE q (fun _ f => f.elim)
  have hknd1 : DkOk rnd1.abs := by rw [hand1]; exact newN_ok
  have hcnd1 : rnd1.chg = 0 := congrArg Dk.chg hand1
  refine .w 1 .asP <| .nil ?_
  refine .seq <| .seq <| .r <| .w 14 .mvP <| .w 15 (.pEqS T.pt57) <| .nil ?_
  refine .cf <| .skip <| .seq <| .r <| .w 16 .mvP <| .a' 17 (.lit [.const (.int .u8 1), .const (.int .u8 2)] (cs := [.int .u8 1, .int .u8 2]) T.el22 T.sz5 T.zr5 ok ⟨rfl, rfl, trivial⟩) ?_
  rintro _ η2 ⟨pb1, rfl, ok, xe⟩
  have ok := ok.cx (ys := ([1, 2] : List UInt8).map bv) rfl
  have ok := (ok).frzB (l := [1, 2]) rfl
  refine .c' 18 .func (write_any (d := dnd1) (r := rnd1) (E := none_) (n := ([102] : List UInt8)) (z := 0) (a := some ⟨pb1, 0, none⟩) (c := 2) (l := [1, 2]) (ok.f1).loc2 hknd1 (by omega) ⟨by omega, by omega⟩) ?_
  rintro _ η3 ⟨rw1, Ew1, rfl, haw1, upw1⟩
  have ok := (ok.f1).dsk (d := dnd1) (r := rnd1) upw1
  have hkw1 : DkOk rw1.abs := by rw [haw1]; exact (hknd1).write
  have hcw1 : rw1.chg ≤ rnd1.chg + 1 := Int.le_trans (Int.le_of_eq (congrArg Dk.chg haw1)) write_chg
  have hvw1 : (writeN rnd1.abs ([102] : List UInt8) 0 [1, 2]).2 = 0 := by rw [hand1]; rfl
  rw [hvw1]
  have hbw1 : rw1.abs = lv1 := haw1.trans (by rw [hand1]; rfl)
  refine .w 19 .mvP <| .c' 20 .func (sync_any (d := dnd1) (r := rw1) (E := Ew1) (n := ([102] : List UInt8)) (ok).loc1 hkw1 (by omega)) ?_
  rintro _ η4 ⟨rw2, Ew2, rfl, haw2, upw2⟩
  have ok := (ok).dsk (d := dnd1) (r := rw1) upw2
  have hkw2 : DkOk rw2.abs := by rw [haw2]; exact (hkw1).sync
  have hcw2 : rw2.chg ≤ rw1.chg + 1 := Int.le_trans (Int.le_of_eq (congrArg Dk.chg haw2)) sync_chg
  have hvw2 : (syncN rw1.abs ([102] : List UInt8)).2 = 0 := by rw [hbw1]; rfl
  rw [hvw2]
  have hbw2 : rw2.abs = lv2 := haw2.trans (by rw [hbw1]; rfl)
  refine .w 21 .mvP <| .a' 22 (.lit [.const (.int .u8 3), .const (.int .u8 4)] (cs := [.int .u8 3, .int .u8 4]) T.el22 T.sz5 T.zr5 ok ⟨rfl, rfl, trivial⟩) ?_
  rintro _ η5 ⟨pb2, rfl, ok, xe⟩
  have ok := ok.cx (ys := ([3, 4] : List UInt8).map bv) rfl
  have ok := (ok).frzB (l := [3, 4]) rfl
  refine .c' 23 .func (write_any (d := dnd1) (r := rw2) (E := Ew2) (n := ([102] : List UInt8)) (z := 1) (a := some ⟨pb2, 0, none⟩) (c := 2) (l := [3, 4]) (ok.f1).loc2 hkw2 (by omega) ⟨by omega, by omega⟩) ?_
  rintro _ η6 ⟨rw3, Ew3, rfl, haw3, upw3⟩
  have ok := (ok.f1).dsk (d := dnd1) (r := rw2) upw3
  have hkw3 : DkOk rw3.abs := by rw [haw3]; exact (hkw2).write
  have hcw3 : rw3.chg ≤ rw2.chg + 1 := Int.le_trans (Int.le_of_eq (congrArg Dk.chg haw3)) write_chg
  have hvw3 : (writeN rw2.abs ([102] : List UInt8) 1 [3, 4]).2 = 0 := by rw [hbw2]; rfl
  rw [hvw3]
  have hbw3 : rw3.abs = lv3 := haw3.trans (by rw [hbw2]; rfl)
  refine .w 2 .asI <| .w 3 .asI <| .w 4 .asI <| .nil ?_
  refine .seq <| .r <| .w 25 .mvP <| .c' 26 .func (read_anyD (d := dnd1) (r := rw3) (E := Ew3) (n := ([102] : List UInt8)) (y := 0) (z := 9) ((ok).rdo) hkw3 ⟨by omega, by omega⟩ ⟨by omega, by omega⟩) ?_
  rintro _ η7 ⟨w, rfl, own⟩
  have hrd : readN rw3.abs ([102] : List UInt8) 0 9 = (([1, 3, 4] : List UInt8), 0) := by rw [hbw3]; rfl
  rw [hrd] at own
  rw [hrd]
  obtain ⟨ya1, yc1, rfl⟩ := own.formB
  have ok := ok.own own
  refine .w 24 .mvU <| .w 27 .ex <| .w 28 .ex <| .w 5 .asS <| .w 6 .asI <| .nil ?_
  refine .seq <| .r <| .w 29 .mvP <| .a' 30 (.lit [.const (.int .u8 128)] (cs := [.int .u8 128]) T.el22 T.sz5 T.zr5 ok ⟨rfl, trivial⟩) ?_
  rintro _ η8 ⟨pb3, rfl, ok, xe⟩
  have ok := ok.cx (ys := ([128] : List UInt8).map bv) rfl
  have ok := (ok).frzB (l := [128]) rfl
  refine .c' 31 .func (crash_any (d := dnd1) (r := rw3) (E := Ew3) (a := some ⟨pb3, 0, none⟩) (c := 1) (l := [128]) (ok.n1.f1).loc2 hkw3 (by omega)) ?_
  rintro _ η9 ⟨Scr1, rcr1, Ecr1, rfl, hKcr1, hacr1, upcr1⟩
  have ok := (ok.n1.f1).dsk (d := dnd1) (r := rw3) upcr1
  have hkcr1 : DkOk rcr1.abs := by rw [hacr1]; exact (hkw3).crash
  have hccr1 : rcr1.chg = rw3.chg := congrArg Dk.chg hacr1
  have hbcr1 : rcr1.abs = lv4 := hacr1.trans (by rw [hbw3] at hKcr1 ⊢; rw [lv3_keys hKcr1]; rfl)
  refine .nil ?_
  refine .seq <| .r <| .w 33 .mvP <| .c' 34 .func (read_anyD (d := dnd1) (r := rcr1) (E := Ecr1) (n := ([102] : List UInt8)) (y := 0) (z := 9) ((ok).rdo) hkcr1 ⟨by omega, by omega⟩ ⟨by omega, by omega⟩) ?_
  rintro _ η10 ⟨w, rfl, own⟩
  have hrd : readN rcr1.abs ([102] : List UInt8) 0 9 = (([1, 3] : List UInt8), 0) := by rw [hbcr1]; rfl
  rw [hrd] at own
  rw [hrd]
  obtain ⟨ya2, yc2, rfl⟩ := own.formB
  have ok := ok.own own
  refine .w 32 .mvU <| .w 35 .ex <| .w 36 .ex <| .w 7 .asS <| .w 8 .asI <| .nil ?_
  refine .seq <| .r <| .w 37 .mvP <| .c' 38 .func (cut_any (d := dnd1) (r := rcr1) (z := 0) (ok.n1).loc0) ?_
  rintro _ η11 ⟨rfl, q⟩
  have ok := (ok.n1).lift1 q
  obtain ⟨rcu1, hrcu1⟩ : ∃ rcu1, cutR rcr1 0 = rcu1 := ⟨_, rfl⟩
  have hacu1 : rcu1.abs = cutN rcr1.abs 0 := by rw [← hrcu1]; exact cutR_abs
  have hfcu1 : rcu1.fs = rcr1.fs := by rw [← hrcu1]; exact cutR_fs
  rw [hrcu1, ← hfcu1] at ok
  have hkcu1 : DkOk rcu1.abs := by rw [hacu1]; exact (hkcr1).cut (by omega)
  have hccu1 : rcu1.chg = rcr1.chg := by rw [← hrcu1]; unfold cutR; split <;> rfl
  have hbcu1 : rcu1.abs = lv5 := hacu1.trans (by rw [hbcr1]; rfl)
  refine .nil ?_
  refine .seq <| .r <| .w 39 .mvP <| ?_
  have ok := ok.dE (rdI none_ none_ (none, 0, 0) ([] : List UInt8)) (RdL.nil _ none_ none_) (fun _ f => f.elim id id)
  refine .c' 40 .func (write_any (d := dnd1) (r := rcu1) (E := Ecr1) (n := ([102] : List UInt8)) (z := 0) (a := none) (c := 0) (l := ([] : List UInt8)) (ok.f1).loc2 hkcu1 (by omega) ⟨by omega, by omega⟩) ?_
  rintro _ η12 ⟨rw4, Ew4, rfl, haw4, upw4⟩
  have ok := (ok.f1).dsk (d := dnd1) (r := rcu1) upw4
  have hkw4 : DkOk rw4.abs := by rw [haw4]; exact (hkcu1).write
  have hcw4 : rw4.chg ≤ rcu1.chg + 1 := Int.le_trans (Int.le_of_eq (congrArg Dk.chg haw4)) write_chg
  have hvw4 : (writeN rcu1.abs ([102] : List UInt8) 0 ([] : List UInt8)).2 = 13 := by rw [hbcu1]; rfl
  rw [hvw4]
  have hbw4 : rw4.abs = lv6 := haw4.trans (by rw [hbcu1]; rfl)
  refine .w 9 .asI <| .nil ?_
  refine .seq <| .r <| .w 42 .mvP <| .k 43 .func ((size_anyD (d := dnd1) (r := rw4) (n := ([102] : List UInt8)) (ok.m0)).mono fun _ _ q => (by rw [show sizeN rw4.abs ([102] : List UInt8) = (0, false) from by rw [hbw4]; rfl] at q; exact q : _ = Value.tuple #[.int .i64 ((0 : Nat) : Int), .bool false] ∧ _)) <| .w 41 .mvU <| .w 44 .ex <| .w 45 .ex <| .w 10 .asI <| .w 11 .asB <| .nil ?_
  refine .seq <| .r <| .w 12 .asP <| .nil ?_
  refine .seq <| .r <| .w 46 .mvI <| .w 47 .eql <| .w 48 .mvB <| .sd (fun G48 => ?_) (fun G48 => ?_)
  ·
    refine .w 49 .mvI <| .w 50 .eql <| .w 51 .pkt <| .w 52 .mvB <| .sd (fun G52 => ?_) (fun G52 => ?_)
    ·
      refine .w 53 .mvI <| .w 54 .eql <| .w 55 .pkt <| .w 56 .mvB <| .sd (fun G56 => ?_) (fun G56 => ?_)
      ·
        refine .w 57 .mvI <| .w 58 .eql <| .w 59 .pkt <| .w 60 .mvB <| .sd (fun G60 => ?_) (fun G60 => ?_)
        ·
          refine .w 61 .mvI <| .w 62 .eql <| .w 63 .pkt <| .w 64 .mvB <| .sd (fun G64 => ?_) (fun G64 => ?_)
          ·
            refine .w 65 .mvS <| .a' 66 (.lit [.const (.int .u8 1), .const (.int .u8 3), .const (.int .u8 4)] (cs := [.int .u8 1, .int .u8 3, .int .u8 4]) T.el22 T.sz5 T.zr5 ok ⟨rfl, rfl, rfl, trivial⟩) ?_
            rintro _ η13 ⟨pb4, rfl, ok, xe⟩
            have ok := ok.cx (ys := ([1, 3, 4] : List UInt8).map bv) rfl
            refine .k 67 .func (same_any (a := ya1) (c := yc1) (l := (([1, 3, 4] : List UInt8))) (b := some ⟨pb4, 0, none⟩) (d := 3) (l2 := [1, 3, 4]) (RdL.ofCapB (v := (ya1, (([1, 3, 4] : List UInt8)).length, yc1)) (l := (([1, 3, 4] : List UInt8))) ok.m3) (RdL.ofCapB (v := (some ⟨pb4, 0, none⟩, 3, 3)) (l := [1, 3, 4]) ok.m0)) <| .w 68 .pkt <| .w 69 .mvB <| .sd (fun G69 => ?_) (fun G69 => ?_)
            ·
              refine .w 70 .mvS <| .a' 71 (.lit [.const (.int .u8 1), .const (.int .u8 3)] (cs := [.int .u8 1, .int .u8 3]) T.el22 T.sz5 T.zr5 ok ⟨rfl, rfl, trivial⟩) ?_
              rintro _ η14 ⟨pb5, rfl, ok, xe⟩
              have ok := ok.cx (ys := ([1, 3] : List UInt8).map bv) rfl
              refine .k 72 .func (same_any (a := ya2) (c := yc2) (l := (([1, 3] : List UInt8))) (b := some ⟨pb5, 0, none⟩) (d := 2) (l2 := [1, 3]) (RdL.ofCapB (v := (ya2, (([1, 3] : List UInt8)).length, yc2)) (l := (([1, 3] : List UInt8))) ok.m3) (RdL.ofCapB (v := (some ⟨pb5, 0, none⟩, 2, 2)) (l := [1, 3]) ok.m0)) <| .w 73 .pkt <| .w 74 .mvB <| .sd (fun G74 => ?_) (fun G74 => ?_)
              ·
                refine .w 75 .mvI <| .w 76 .eql <| .w 77 .pkt <| .w 78 .mvB <| .sd (fun G78 => ?_) (fun G78 => ?_)
                ·
                  refine .w 79 .mvP <| .k 80 .func (dark_any (d := dnd1) (r := rw4) (dsk_parts (ok.m2)).1) <| .w 81 .pkt <| .w 82 .mvB <| .spl (fun G82 => ?_) (fun G82 => ?_)
                  ·
                    refine .w 83 .mvB <| .w 84 .not <| .w 85 .pkt <| .w 86 .mvB <| .w 87 .mvP <| .k 88 .func (changes_any (d := dnd1) (r := rw4) (dsk_parts (ok.m2)).1) <| .w 89 .eql <| .w 90 .pkt <| .w 91 .mvB <| .sd (fun G91 => ?_) (fun G91 => ?_)
                    ·
                      refine .w 92 .mvP <| ?_
                      have ok := ok.dE (rdI none_ none_ (none, 0, 0) ([] : List UInt8)) (RdL.nil _ none_ none_) (fun _ f => f.elim id id)
                      refine .c' 93 .func (write_any (d := dnd1) (r := rw4) (E := Ew4) (n := ([] : List UInt8)) (z := 0) (a := none) (c := 0) (l := ([] : List UInt8)) (ok.n2.f1).loc2 hkw4 (by omega) ⟨by omega, by omega⟩) ?_
                      rintro _ η15 ⟨rw5, Ew5, rfl, haw5, upw5⟩
                      have ok := (ok.n2.f1).dsk (d := dnd1) (r := rw4) upw5
                      have hkw5 : DkOk rw5.abs := by rw [haw5]; exact (hkw4).write
                      have hcw5 : rw5.chg ≤ rw4.chg + 1 := Int.le_trans (Int.le_of_eq (congrArg Dk.chg haw5)) write_chg
                      have hvw5 : (writeN rw4.abs ([] : List UInt8) 0 ([] : List UInt8)).2 = 1 := by rw [hbw4]; rfl
                      rw [hvw5]
                      have hbw5 : rw5.abs = lv6 := haw5.trans (by rw [hbw4]; rfl)
                      refine .w 94 .eql <| .w 95 .pkt <| .w 96 .mvB <| .sd (fun G96 => ?_) (fun G96 => ?_)
                      ·
                        refine .w 97 .mvP <| .c' 98 .func (writeNil_any (n := ([102] : List UInt8)) (z := 0) (v := .slice none 0 0)) ?_
                        rintro _ η16 ⟨rfl, hx⟩
                        have ok := ok.ext hx
                        refine .w 99 .eql <| .w 100 .pkt <| .w 101 .mvB <| .w 102 .mvP <| .c' 103 .func filesNil_any ?_
                        rintro _ η17 ⟨rfl, hx⟩
                        have ok := ok.ext hx
                        refine .w 104 (.len T.el82) <| .w 105 .eql <| .w 106 .pkt <| .w 107 .mvB <| .w 108 .mvP <| .k 109 .func copyNil_any <| .w 110 (.pEqN T.pt57) <| .w 111 .pkt <| .w 112 .mvB <| .w 113 .mvP <| .k 114 .func darkNil_any <| .w 115 .not <| .w 116 .pkt <| .w 117 .mvB <| .w 118 .mvP <| .k 119 .func changesNil_any <| .w 120 .eql <| .w 121 .pkt <| .w 0 .asB <| .nil ?_
                        refine .ret ⟨.bool true, Res.one rfl rfl, ⟨rfl, ok.chg⟩⟩
                      exact absurd rfl G96
                    exact absurd (congrArg Dk.chg hbw4) G91
                  exact absurd (G82.symm.trans (congrArg Dk.dark hbw4)) (by decide)
                exact absurd rfl G78
              exact absurd rfl G74
            exact absurd rfl G69
          exact absurd rfl G64
        exact absurd rfl G60
      exact absurd rfl G56
    exact absurd rfl G52
  exact absurd rfl G48

end Go.Proofs.Ytpebbkhainpfaaa

namespace Go.Proofs.Ytpebbkhainpfaaa
open Go Go.HL
/-! ### Plain -/
structure WF where
  n : List UInt8
  b : List UInt8
structure WC where
  kind : Nat
  pos : Nat
  n : List UInt8
  b : List UInt8
def WC.ch (c : WC) : Chn := ⟨c.kind, c.pos, c.b⟩
section
variable {α β : Type} (nm : α → List UInt8)
def withoutL (l : List α) (n : List UInt8) : List α := l.filter fun x => decide (nm x ≠ n)
def withL (f : α) : List α → List α
  | [] => [f]
  | x :: l => if nm x = nm f then withL f l else if nm f < nm x then f :: x :: withoutL nm l (nm f) else x :: withL f l
theorem withoutL_map (nm' : β → List UInt8) (g : α → β) (h : ∀ x, nm' (g x) = nm x) (l : List α) (n : List UInt8) : (withoutL nm l n).map g = withoutL nm' (l.map g) n := by
  unfold withoutL; rw [List.filter_map]; congr 1; apply List.filter_congr; intro x _; simp [h]
theorem withL_map (nm' : β → List UInt8) (g : α → β) (h : ∀ x, nm' (g x) = nm x) (f : α) : ∀ l : List α, (withL nm f l).map g = withL nm' (g f) (l.map g)
  | [] => rfl
  | x :: l => by
    simp only [withL, List.map_cons, h]
    split
    · exact withL_map nm' g h f l
    · split
      · simp only [List.map_cons]; rw [withoutL_map nm nm' g h]
      · simp only [List.map_cons]; rw [withL_map nm' g h f l]
theorem withoutL_len (l : List α) (n : List UInt8) : (withoutL nm l n).length ≤ l.length := List.length_filter_le _ _
theorem withL_len (f : α) : ∀ l : List α, (withL nm f l).length ≤ l.length + 1
  | [] => by simp [withL]
  | x :: l => by
    have h1 := withL_len f l
    have h2 := withoutL_len nm l (nm f)
    simp only [withL]; repeat' split
    all_goals simp only [List.length_cons]; omega
theorem withL_mem (f : α) : ∀ {l : List α} {x : α}, x ∈ withL nm f l → x = f ∨ x ∈ l
  | [], x, h => by simp [withL] at h; exact .inl h
  | y :: l, x, h => by
    simp only [withL] at h
    split at h
    · exact (withL_mem f h).imp id (List.mem_cons_of_mem _)
    · split at h
      · rcases List.mem_cons.1 h with h | h
        · exact .inl h
        · rcases List.mem_cons.1 h with h | h
          · exact .inr (by rw [h]; exact List.mem_cons_self)
          · exact .inr (List.mem_cons_of_mem _ (List.mem_filter.1 h).1)
      · rcases List.mem_cons.1 h with h | h
        · exact .inr (by rw [h]; exact List.mem_cons_self)
        · exact (withL_mem f h).imp id (List.mem_cons_of_mem _)
end
def newB (c : WC) (b : List UInt8) : List UInt8 := patchN (longN b (max b.length (c.pos + c.b.length))) c.pos c.b
def doW (l : List WF) (c : WC) : List WF := match l.find? fun f => decide (f.n = c.n) with
  | none => if 0 < c.kind then l else withL WF.n ⟨c.n, newB c []⟩ l
  | some f => if c.kind = 0 then withL WF.n ⟨c.n, newB c f.b⟩ l else if c.kind = 1 then withL WF.n ⟨c.n, longN f.b c.pos⟩ l else withoutL WF.n l c.n
structure WD where
  safe : List WF
  now : List WF
  pend : List WC
  left : Int
  gone : Bool
  many : Int
/-! ### In memory -/
abbrev SB := Option Addr × Nat × List UInt8
structure RWF where
  n : List UInt8
  ba : Option Addr
  bc : Nat
  bl : List UInt8
def RWF.abs (f : RWF) : WF := ⟨f.n, f.bl⟩
def RWF.cells (f : RWF) : List Value := [.string (BA f.n), .slice f.ba f.bl.length f.bc]
def RWF.sb (f : RWF) : SB := (f.ba, f.bc, f.bl)
theorem RWF.cells_len (f : RWF) : f.cells.length = 2 := rfl
structure RWC where
  kind : Nat
  pos : Nat
  n : List UInt8
  ba : Option Addr
  bc : Nat
  bl : List UInt8
def RWC.abs (c : RWC) : WC := ⟨c.kind, c.pos, c.n, c.bl⟩
def RWC.cells (c : RWC) : List Value := [.int .i64 (c.kind : Int), .int .i64 (c.pos : Int), .string (BA c.n), .slice c.ba c.bl.length c.bc]
def RWC.sb (c : RWC) : SB := (c.ba, c.bc, c.bl)
theorem RWC.cells_len (c : RWC) : c.cells.length = 4 := rfl
/-- A slice of elements with names and bytes. -/
structure RwB {α : Type} (k : Nat) (f : α → List Value) (g : α → SB) (h : Heap) (E : Nat → Prop) (x : SV) (l : List α) : Prop where
  sl : Sl h k (sv x) (l.flatMap f)
  n : x.2.1 = l.length
  bl : ∀ j, blk (sv x) j → E j
  by' : ∀ y ∈ l, RdL h E E ((g y).1, (g y).2.2.length, (g y).2.1) (g y).2.2
section
variable {α : Type} {k : Nat} {f : α → List Value} {g : α → SB} {h h' : Heap} {E E' G : Nat → Prop} {x : SV} {l : List α}
theorem RwB.st (c : Chg G h h') (d : ∀ j, E j → ¬ G j) (r : RwB k f g h E x l) : RwB k f g h' E x l := ⟨Sl.chg c r.sl fun j hj => d j (r.bl j hj), r.n, r.bl, fun y hy => (r.by' y hy).st c d d⟩
theorem RwB.mono (hE : ∀ j, E j → E' j) (r : RwB k f g h E x l) : RwB k f g h E' x l := ⟨r.sl, r.n, fun j hj => hE j (r.bl j hj), fun y hy => (r.by' y hy).mono hE hE⟩
theorem RwB.lt (hk : 0 < k) (r : RwB k f g h E x l) : RwB k f g h (fun j => E j ∧ j < h.size) x l := ⟨r.sl, r.n, fun j hj => ⟨r.bl j hj, blk_lt hk r.sl j hj⟩, fun y hy => (r.by' y hy).lt⟩
@[reducible] def rwI (k : Nat) (f : α → List Value) (g : α → SB) (E : Nat → Prop) (x : SV) (l : List α) : Itm := ⟨fun h => RwB k f g h E x l, E, fun _ _ _ c d r => r.st c d⟩
theorem RwB.pos {a : Option Addr} {n c : Nat} (r : RwB k f g h E (a, n, c) l) (hk : 0 < n) : ∃ b o, a = some ⟨b, o, none⟩ ∧ E b := by
  obtain ⟨a', n', c', e, _, _, h3⟩ := r.sl
  injection e with e1 e2 e3; subst e1 e2 e3
  obtain ⟨b, o, e, _⟩ := h3.2 hk
  subst e
  exact ⟨b, o, rfl, r.bl b ⟨o, n, c, rfl, hk⟩⟩
theorem RwB.nil (h : Heap) (E : Nat → Prop) (c : Nat) (hc : c ≤ 9223372036854775807) : RwB k f g h E (none, 0, c) ([] : List α) := ⟨⟨none, 0, c, rfl, Nat.zero_le _, hc, by simp, fun h => absurd h (by omega)⟩, rfl, fun j ⟨o, n, c, e, hn⟩ => (by cases e), fun _ h => (by cases h)⟩
theorem RwB.m {a : Option Addr} {n c : Nat} (r : RwB k f g h E (a, n, c) l) : n ≤ c ∧ c ≤ 9223372036854775807 := by
  obtain ⟨a', n', c', e, h1, h2, h3⟩ := r.sl
  injection e with e1 e2 e3; subst e1 e2 e3
  exact ⟨h1, h2⟩
/-- A slice of one's own, whose elements' bytes are read. -/
theorem RwB.ofCap {e : TypeId} (hk : 0 < k) (hf : ∀ y, (f y).length = k) (c : Cap h k e (sv x) (l.flatMap f)) (hb : ∀ j, blkC (sv x) j → E j) (h2 : ∀ y ∈ l, RdL h E E ((g y).1, (g y).2.2.length, (g y).2.1) (g y).2.2) : RwB k f g h E x l := by
  obtain ⟨a, n, c'⟩ := x
  have hs := c.sl
  refine ⟨hs, ?_, fun j ⟨o, n, c, e, _⟩ => hb j ⟨o, n, c, e⟩, h2⟩
  have h1 := hs.cells.1
  have h3 : (l.flatMap f).length = l.length * k := by
    clear hs h1 c h2
    induction l with
    | nil => simp
    | cons y l ih => rw [List.flatMap_cons, List.length_append, hf, ih, List.length_cons, Nat.add_mul]; omega
  rw [h3] at h1
  exact (Nat.eq_of_mul_eq_mul_right hk h1).symm
end
@[reducible] def flwI (E : Nat → Prop) (x : SV) (l : List RWF) : Itm := rwI 2 RWF.cells RWF.sb E x l
@[reducible] def chwI (E : Nat → Prop) (x : SV) (l : List RWC) : Itm := rwI 4 RWC.cells RWC.sb E x l
structure RW where
  sa : Option Addr
  sc : Nat
  sl : List RWF
  na : Option Addr
  nc : Nat
  nl : List RWF
  pa : Option Addr
  pc : Nat
  pl : List RWC
  left : Int
  gone : Bool
  many : Int
def RW.abs (w : RW) : WD := ⟨w.sl.map RWF.abs, w.nl.map RWF.abs, w.pl.map RWC.abs, w.left, w.gone, w.many⟩
def RW.cells (w : RW) : List Value := [.slice w.sa w.sl.length w.sc, .slice w.na w.nl.length w.nc, .slice w.pa w.pl.length w.pc, .int .i64 w.left, .bool w.gone, .int .i64 w.many]
structure DocW (h : Heap) (E : Nat → Prop) (w : RW) : Prop where
  s : RwB 2 RWF.cells RWF.sb h E (w.sa, w.sl.length, w.sc) w.sl
  n : RwB 2 RWF.cells RWF.sb h E (w.na, w.nl.length, w.nc) w.nl
  p : RwB 4 RWC.cells RWC.sb h E (w.pa, w.pl.length, w.pc) w.pl
@[reducible] def docI (E : Nat → Prop) (w : RW) : Itm := ⟨fun h => DocW h E w, E, fun _ _ _ c d r => ⟨r.s.st c d, r.n.st c d, r.p.st c d⟩⟩
theorem DocW.mono {h : Heap} {E E' : Nat → Prop} {w : RW} (hE : ∀ j, E j → E' j) (r : DocW h E w) : DocW h E' w := ⟨r.s.mono hE, r.n.mono hE, r.p.mono hE⟩
/-- What a call leaves: the old as it was, and a state of old and new blocks. -/
structure WRet (h : Heap) (E : Nat → Prop) (w : RW) (h' : Heap) : Prop where
  ext : Ext h h'
  rd : DocW h' (fun j => E j ∨ Nw h h' j) w
end Go.Proofs.Ytpebbkhainpfaaa

namespace Go.Proofs.Ytpebbkhainpfaaa
open Go Go.HL
theorem flat_len {α : Type} {f : α → List Value} {k : Nat} (hf : ∀ x, (f x).length = k) : ∀ l : List α, (l.flatMap f).length = l.length * k
  | [] => by simp
  | x :: l => by rw [List.flatMap_cons, List.length_append, hf, flat_len hf l, List.length_cons, Nat.add_mul]; omega
theorem drop_here {α : Type} {l : List α} {i : Nat} (h : i < l.length) : l.drop i = l[i] :: l.drop (i + 1) := List.drop_eq_getElem_cons h
theorem wo_go {x : RWF} {l : List RWF} {n : List UInt8} (h : x.n ≠ n) : withoutL RWF.n (x :: l) n = x :: withoutL RWF.n l n := by simp [withoutL, h]
theorem wo_skip {x : RWF} {l : List RWF} {n : List UInt8} (h : x.n = n) : withoutL RWF.n (x :: l) n = withoutL RWF.n l n := by simp [withoutL, h]
def wl (d : Bool) (f : RWF) (l : List RWF) : List RWF := if d = true then withoutL RWF.n l f.n else withL RWF.n f l
theorem wl_eq {d : Bool} {f x : RWF} {l : List RWF} (h : x.n = f.n) : wl d f (x :: l) = wl d f l := by cases d <;> simp [wl, withL, withoutL, h]
theorem wl_put {f x : RWF} {l : List RWF} (h : ¬ x.n = f.n) (h2 : f.n < x.n) : wl false f (x :: l) = f :: x :: wl true f l := by simp [wl, withL, withoutL, h, h2]
theorem wl_go {d : Bool} {f x : RWF} {l : List RWF} (h : ¬ x.n = f.n) (h2 : ¬ (d = false ∧ f.n < x.n)) : wl d f (x :: l) = x :: wl d f l := by
  cases d
  · have h3 : ¬ f.n < x.n := fun h => h2 ⟨rfl, h⟩
    simp [wl, withL, h, h3]
  · simp [wl, withoutL, h]

set_option maxRecDepth 100000 in
set_option maxHeartbeats 2000000 in
theorem find_any {h : Heap} {E : Nat → Prop} {a : Option Addr} {c : Nat} {l : List RWF} (hl : RwB 2 RWF.cells RWF.sb h E (a, l.length, c) l) {n : List UInt8} : HC Try.prog 102 #[.slice a l.length c, .string (BA n)] h (fun v h' => ∃ i : Int, v = .int .i64 i ∧ ((∃ (k : Nat) (hk : k < l.length), i = k ∧ l[k].n = n ∧ ∀ j (hj : j < l.length), j < k → l[j].n ≠ n) ∨ (i = -1 ∧ ∀ j (hj : j < l.length), l[j].n ≠ n)) ∧ h' = h) := by
  have hc2 := hl.m
  refine HC.go Try.func102 20 ?_
  refine .seq <| .r <| .w 4 .asI <| .nil ?_
  refine .seq <| .seq <| .r <| .w 5 .asI <| .nil ?_
  refine .block fun K0 hK0 => .loop (fun m s hh => ∃ (i : Nat), Has s [(0, .slice a l.length c), (1, .string (BA n)), (5, .int .i64 (i : Int))] ∧ h = hh ∧ i ≤ l.length ∧ (∀ j (hj : j < l.length), j < i → l[j].n ≠ n) ∧ m = l.length - i) ?_ ?_
  · exact ⟨_, 0, ⟨rfl, rfl, rfl, trivial⟩, rfl, Nat.zero_le _, fun _ _ h => absurd h (Nat.not_lt_zero _), rfl⟩
  rintro _ _ _ ⟨i, hs, rfl, hi, hall, rfl⟩ J0 hJ0
  refine .frame hs fun τ => ?_
  refine .seq <| .seq <| .r <| .w 6 .mvI <| .w 7 .mvS <| .w 8 (.len T.el66) <| .w 9 .lss <| .nil ?_
  refine .cdr (fun C0 => ?_) (fun C0 => ?_)
  · --
    refine .exit <| hK0 _ _ <| .seq <| .r <| .w 4 .asI <| .nil ?_
    refine .ret ⟨.int .i64 (-1), Res.one rfl rfl, ⟨_, rfl, .inr ⟨rfl, fun j hj => hall j hj (by omega)⟩, rfl⟩⟩
  have hil : i < l.length := by omega
  refine .skip <| .seq <| .block fun K1 hK1 => .seq <| .r <| .w 12 .mvS <| .w 13 .mvI <| ?_
  obtain ⟨bb1, oo1, rfl, fb1⟩ := hl.pos (by omega)
  refine .w 14 (.ix i T.el66 T.sz86) <| .w 15 (.fa T.fd86_0) <| .w 16 (.ld T.ag9 (sl_at RWF.cells_len (hl).sl (i := i) (j := 0) (by omega) rfl)) <| .w 17 .mvT <| .w 18 .tEqB <| .nil ?_
  refine .cd (fun C1 => ?_) (fun C1 => ?_)
  · --
    refine .seq <| .r <| .w 19 .mvI <| .w 4 .asI <| .nil ?_
    refine .ret ⟨.int .i64 (i : Int), Res.one rfl rfl, ⟨_, rfl, .inl ⟨i, hil, rfl, C1, hall⟩, rfl⟩⟩
  refine .skip <| .end <| hK1 _ _ <| .r <| .w 10 .mvI <| .w 11 (.addI (b := 1)) <| .w 5 .asI <| .nil ?_
  refine .end <| hJ0 _ _ _ ⟨i + 1, ⟨rfl, rfl, rfl, trivial⟩, rfl, by omega, fun j hj h => (Nat.lt_succ_iff_lt_or_eq.1 h).elim (hall j hj) (fun e => by subst e; exact C1), rfl⟩ (by omega)

set_option maxRecDepth 100000 in
set_option maxHeartbeats 2000000 in
theorem without_any {h : Heap} {E : Nat → Prop} {a : Option Addr} {c : Nat} {l : List RWF} (hl : RwB 2 RWF.cells RWF.sb h E (a, l.length, c) l) (hN : l.length ≤ 1000000) {n : List UInt8} : HC Try.prog 104 #[.slice a l.length c, .string (BA n)] h (fun v h' => Own h h' 2 86 v ((withoutL RWF.n l n).flatMap RWF.cells)) := by
  have hc2 := hl.m
  have ok := (Hp.nil h none_).old (flwI (fun j => E j ∧ j < h.size) (a, l.length, c) l) (hl.lt (by decide)) (fun j hj => hj.2)
  refine HC.go Try.func104 28 ?_
  refine .seq <| .r <| .w 4 .asS <| .nil ?_
  refine .seq <| .r <| .w 5 .asS <| ?_
  have ok := ok.nilC (k := 2) (e := 86)
  refine .nil ?_
  refine .seq <| .seq <| .r <| .w 6 .asI <| .nil ?_
  refine .block fun K0 hK0 => .loop (fun m s hh => ∃ (i : Nat) (o : List RWF) (a5 : Option Addr) (c5 : Nat), Has s [(0, .slice a l.length c), (1, .string (BA n)), (5, .slice a5 o.length c5), (6, .int .i64 (i : Int))] ∧ Hp h none_ [capI 2 86 (a5, o.length, c5) (o.flatMap RWF.cells)] [flwI (fun j => E j ∧ j < h.size) (a, l.length, c) l] hh ∧ i ≤ l.length ∧ withoutL RWF.n l n = o ++ withoutL RWF.n (l.drop i) n ∧ o.length ≤ i ∧ m = l.length - i) ?_ ?_
  · exact ⟨_, 0, [], none, 0, ⟨rfl, rfl, rfl, rfl, trivial⟩, (ok).k1, Nat.zero_le _, rfl, Nat.le_refl _, rfl⟩
  rintro _ _ η1 ⟨i, o, a5, c5, hs, ok, hi, ho, hol, rfl⟩ J0 hJ0
  refine .frame hs fun τ => ?_
  refine .seq <| .seq <| .r <| .w 7 .mvI <| .w 8 .mvS <| .w 9 (.len T.el66) <| .w 10 .lss <| .nil ?_
  refine .cdr (fun C0 => ?_) (fun C0 => ?_)
  · --
    refine .exit <| hK0 _ _ <| .seq <| .r <| .w 27 .mvS <| .w 4 .asS <| .nil ?_
    refine .ret ⟨.slice a5 o.length c5, Res.one rfl rfl, (by rw [ho, List.drop_eq_nil_of_le (by omega)]; simpa [withoutL] using ok.toOwn)⟩
  have hil : i < l.length := by omega
  refine .skip <| .seq <| .block fun K1 hK1 => .seq <| .r <| .w 13 .mvS <| .w 14 .mvI <| ?_
  obtain ⟨bb1, oo1, rfl, fb1⟩ := ok.r0.pos (by omega)
  refine .w 15 (.ix i T.el66 T.sz86) <| .w 16 (.fa T.fd86_0) <| .w 17 (.ld T.ag9 (sl_at RWF.cells_len (ok.r0).sl (i := i) (j := 0) (by omega) rfl)) <| .w 18 .mvT <| .w 19 .tNeB <| .nil ?_
  refine .cd (fun C1 => ?_) (fun C1 => ?_)
  · --
    refine .r <| .w 20 .mvS <| .w 21 .mvS <| .w 22 .mvI <| .w 23 (.ix i T.el66 T.sz86) <| .w 24 (.ldc (vs := RWF.cells l[i]) T.ag86 (sl_ats RWF.cells_len (ok.r0).sl (i := i) (by omega)) T.sz86) <| .a' 25 (.lit [.tmp 24] (cs := [.string (BA (l[i].n)), .slice (l[i].ba) (l[i].bl.length) (l[i].bc)]) T.el66 T.sz86 T.zr86 ok ⟨rfl, trivial⟩) ?_
    rintro _ η2 ⟨pb1, rfl, ok, xe⟩
    refine .a' 26 (.app (news := [.string (BA (l[i].n)), .slice (l[i].ba) (l[i].bl.length) (l[i].bc)]) T.el66 T.sz86 T.by86 T.zr86 ok.n1 (ok.n1.m1).sl (oneL rfl) (by rw [flat_len RWF.cells_len]; simp only [List.length_cons, List.length_nil]; omega)) ?_
    rintro _ η3 ⟨ya1, yn1, yc1, rfl, ok, ap⟩
    have ok := ok.cx (ys := (o ++ [l[i]]).flatMap RWF.cells) (by simp [RWF.cells])
    obtain rfl : yn1 = (o ++ [l[i]]).length := (Sl.sz (Cap.sl ok.m0) RWF.cells_len (by decide)).1.symm
    refine .w 5 .asS <| .nil ?_
    refine .end <| hK1 _ _ <| .r <| .w 11 .mvI <| .w 12 (.addI (b := 1)) <| .w 6 .asI <| .nil ?_
    refine .end <| hJ0 _ _ _ ⟨i + 1, o ++ [l[i]], ya1, yc1, ⟨rfl, rfl, rfl, rfl, trivial⟩, (ok).k1, by omega, by rw [ho, drop_here hil, wo_go C1]; simp only [List.append_assoc, List.singleton_append, List.cons_append, List.nil_append], by first | omega | (simp only [List.length_append, List.length_singleton]; omega), rfl⟩ (by omega)
  refine .skip <| .end <| hK1 _ _ <| .r <| .w 11 .mvI <| .w 12 (.addI (b := 1)) <| .w 6 .asI <| .nil ?_
  refine .end <| hJ0 _ _ _ ⟨i + 1, o, a5, c5, ⟨rfl, rfl, rfl, rfl, trivial⟩, (ok).k1, by omega, by rw [ho, drop_here hil, wo_skip (by simpa using C1)], by first | omega | (simp only [List.length_append, List.length_singleton]; omega), rfl⟩ (by omega)

set_option maxRecDepth 100000 in
set_option maxHeartbeats 2000000 in
theorem with_any {h : Heap} {E : Nat → Prop} {a : Option Addr} {c : Nat} {l : List RWF} (hl : RwB 2 RWF.cells RWF.sb h E (a, l.length, c) l) (hN : l.length ≤ 1000000) {f : RWF} : HC Try.prog 105 #[.slice a l.length c, .agg #[.string (BA f.n), .slice f.ba f.bl.length f.bc]] h (fun v h' => Own h h' 2 86 v ((withL RWF.n f l).flatMap RWF.cells)) := by
  have hc2 := hl.m
  have ok := (Hp.nil h none_).old (flwI (fun j => E j ∧ j < h.size) (a, l.length, c) l) (hl.lt (by decide)) (fun j hj => hj.2)
  refine HC.go Try.func105 52 ?_
  refine .seq <| .r <| .a' 3 (.bxA (cs := [.string (BA f.n), .slice f.ba f.bl.length f.bc]) ok) ?_
  rintro _ η1 ⟨pb1, rfl, ok, xe⟩
  refine .w 4 .asS <| .nil ?_
  refine .seq <| .r <| .w 5 .asS <| ?_
  have ok := ok.nilC (k := 2) (e := 86)
  refine .nil ?_
  refine .seq <| .r <| .w 6 .asB <| .nil ?_
  refine .seq <| .seq <| .r <| .w 7 .asI <| .nil ?_
  refine .block fun K0 hK0 => .loop (fun m s hh => ∃ (i : Nat) (o : List RWF) (dn : Bool) (a5 : Option Addr) (c5 : Nat), Has s [(0, .slice a l.length c), (3, .pointer (some ⟨pb1, 0, none⟩)), (5, .slice a5 o.length c5), (6, .bool dn), (7, .int .i64 (i : Int))] ∧ Hp h none_ [capI 2 86 (a5, o.length, c5) (o.flatMap RWF.cells), boxI pb1 86 [.string (BA f.n), .slice f.ba f.bl.length f.bc]] [flwI (fun j => E j ∧ j < h.size) (a, l.length, c) l] hh ∧ i ≤ l.length ∧ withL RWF.n f l = o ++ wl dn f (l.drop i) ∧ o.length ≤ 2 * i ∧ m = l.length - i) ?_ ?_
  · exact ⟨_, 0, [], false, none, 0, ⟨rfl, rfl, rfl, rfl, rfl, trivial⟩, (ok.n1.n1).k2, Nat.zero_le _, rfl, Nat.le_refl _, rfl⟩
  rintro _ _ η2 ⟨i, o, dn, a5, c5, hs, ok, hi, ho, hol, rfl⟩ J0 hJ0
  refine .frame hs fun τ => ?_
  refine .seq <| .seq <| .r <| .w 8 .mvI <| .w 9 .mvS <| .w 10 (.len T.el66) <| .w 11 .lss <| .nil ?_
  refine .cdr (fun C0 => ?_) (fun C0 => ?_)
  · --
    refine .exit <| hK0 _ _ <| .seq <| .seq <| .r <| .w 45 .mvB <| .w 46 .not <| .nil ?_
    refine .cond (fun C3 => ?_) (fun C3 => ?_)
    · --
      refine .r <| .w 47 .mvS <| .w 48 (.ldb T.ag86 ok.m1 T.sz86) <| .a' 49 (.lit [.tmp 48] (cs := [.string (BA f.n), .slice f.ba f.bl.length f.bc]) T.el66 T.sz86 T.zr86 ok ⟨rfl, trivial⟩) ?_
      rintro _ η3 ⟨pb2, rfl, ok, xe⟩
      refine .a' 50 (.app (news := [.string (BA f.n), .slice f.ba f.bl.length f.bc]) T.el66 T.sz86 T.by86 T.zr86 ok.n1 (ok.n1.m1).sl (oneL rfl) (by rw [flat_len RWF.cells_len]; simp only [List.length_cons, List.length_nil]; omega)) ?_
      rintro _ η4 ⟨ya1, yn1, yc1, rfl, ok, ap⟩
      have ok := ok.cx (ys := (o ++ [f]).flatMap RWF.cells) (by simp [RWF.cells])
      obtain rfl : yn1 = (o ++ [f]).length := (Sl.sz (Cap.sl ok.m0) RWF.cells_len (by decide)).1.symm
      refine .w 5 .asS <| .nil ?_
      refine .seq <| .r <| .w 51 .mvS <| .w 4 .asS <| .nil ?_
      refine .ret ⟨.slice ya1 ((o ++ [f]).length) yc1, Res.one rfl rfl, (by rw [ho, List.drop_eq_nil_of_le (by omega)]; simpa [wl, withL, withoutL, show dn = false by simpa using C3] using (ok).toOwn)⟩
    refine .skip <| .seq <| .r <| .w 51 .mvS <| .w 4 .asS <| .nil ?_
    refine .ret ⟨.slice a5 o.length c5, Res.one rfl rfl, (by rw [ho, List.drop_eq_nil_of_le (by omega)]; simpa [wl, withL, withoutL, show dn = true by simpa using C3] using (ok).toOwn)⟩
  have hil : i < l.length := by omega
  refine .skip <| .seq <| .block fun K1 hK1 => .seq <| .seq <| .q (hm := mixed) <| .w 14 .mvS <| .w 15 .mvI <| ?_
  obtain ⟨bb1, oo1, rfl, fb1⟩ := ok.r0.pos (by omega)
  refine .w 16 (.ix i T.el66 T.sz86) <| .w 17 (.fa T.fd86_0) <| .w 18 (.ld T.ag9 (sl_at RWF.cells_len (ok.r0).sl (i := i) (j := 0) (by omega) rfl)) <| .w 19 (.fa T.fd86_0) <| .w 20 (.ldx T.ag9 ok.m1) <| .w 21 .tEqB <| .nil ?_
  refine .cd (fun C1 => ?_) (fun C1 => ?_)
  · --
    refine .exit <| hK1 _ _ <| .r <| .w 12 .mvI <| .w 13 (.addI (b := 1)) <| .w 7 .asI <| .nil ?_
    refine .end <| hJ0 _ _ _ ⟨i + 1, o, dn, a5, c5, ⟨rfl, rfl, rfl, rfl, rfl, trivial⟩, (ok.n1.n1).k2, by omega, by rw [ho, drop_here hil, wl_eq C1], by omega, rfl⟩ (by omega)
  refine .skip <| .seq <| .seq <| .q (hm := mixed) <| .w 22 .mvB <| .w 23 .not <| .w 24 .mvB <| .spl (fun G24 => ?_) (fun G24 => ?_)
  ·
    have hdf : dn = false := by simpa using G24
    refine .w 25 .mvS <| .w 26 .mvI <| .w 27 (.ix i T.el66 T.sz86) <| .w 28 (.fa T.fd86_0) <| .w 29 (.ld T.ag9 (sl_at RWF.cells_len (ok.r0).sl (i := i) (j := 0) (by omega) rfl)) <| .w 30 (.fa T.fd86_0) <| .w 31 (.ldx T.ag9 ok.m1) <| .w 32 .tGtB <| .w 33 .pkt <| .nil ?_
    refine .cd (fun C2 => ?_) (fun C2 => ?_)
    · --
      refine .seq <| .r <| .w 34 .mvS <| .w 35 (.ldb T.ag86 ok.m1 T.sz86) <| .a' 36 (.lit [.tmp 35] (cs := [.string (BA f.n), .slice f.ba f.bl.length f.bc]) T.el66 T.sz86 T.zr86 ok ⟨rfl, trivial⟩) ?_
      rintro _ η5 ⟨pb3, rfl, ok, xe⟩
      refine .a' 37 (.app (news := [.string (BA f.n), .slice f.ba f.bl.length f.bc]) T.el66 T.sz86 T.by86 T.zr86 ok.n1 (ok.n1.m1).sl (oneL rfl) (by rw [flat_len RWF.cells_len]; simp only [List.length_cons, List.length_nil]; omega)) ?_
      rintro _ η6 ⟨ya2, yn2, yc2, rfl, ok, ap⟩
      have ok := ok.cx (ys := (o ++ [f]).flatMap RWF.cells) (by simp [RWF.cells])
      obtain rfl : yn2 = (o ++ [f]).length := (Sl.sz (Cap.sl ok.m0) RWF.cells_len (by decide)).1.symm
      refine .w 5 .asS <| .nil ?_
      refine .r <| .w 6 .asB <| .nil ?_
      refine .r <| .w 38 .mvS <| .w 39 .mvS <| .w 40 .mvI <| .w 41 (.ix i T.el66 T.sz86) <| .w 42 (.ldc (vs := RWF.cells l[i]) T.ag86 (sl_ats RWF.cells_len (ok.r0).sl (i := i) (by omega)) T.sz86) <| .a' 43 (.lit [.tmp 42] (cs := [.string (BA (l[i].n)), .slice (l[i].ba) (l[i].bl.length) (l[i].bc)]) T.el66 T.sz86 T.zr86 ok ⟨rfl, trivial⟩) ?_
      rintro _ η7 ⟨pb4, rfl, ok, xe⟩
      refine .a' 44 (.app (news := [.string (BA (l[i].n)), .slice (l[i].ba) (l[i].bl.length) (l[i].bc)]) T.el66 T.sz86 T.by86 T.zr86 ok.n1 (ok.n1.m1).sl (oneL rfl) (by rw [flat_len RWF.cells_len]; simp only [List.length_append, List.length_cons, List.length_nil]; omega)) ?_
      rintro _ η8 ⟨ya3, yn3, yc3, rfl, ok, ap⟩
      have ok := ok.cx (ys := (o ++ [f] ++ [l[i]]).flatMap RWF.cells) (by simp [RWF.cells])
      obtain rfl : yn3 = (o ++ [f] ++ [l[i]]).length := (Sl.sz (Cap.sl ok.m0) RWF.cells_len (by decide)).1.symm
      refine .w 5 .asS <| .nil ?_
      refine .end <| hK1 _ _ <| .r <| .w 12 .mvI <| .w 13 (.addI (b := 1)) <| .w 7 .asI <| .nil ?_
      refine .end <| hJ0 _ _ _ ⟨i + 1, o ++ [f] ++ [l[i]], true, ya3, yc3, ⟨rfl, rfl, rfl, rfl, rfl, trivial⟩, (ok.n3.n1).k2, by omega, by rw [ho, drop_here hil, hdf, wl_put C1 C2]; simp only [List.append_assoc, List.singleton_append, List.cons_append, List.nil_append], by simp only [List.length_append, List.length_singleton]; omega, rfl⟩ (by omega)
    refine .skip <| .r <| .w 38 .mvS <| .w 39 .mvS <| .w 40 .mvI <| .w 41 (.ix i T.el66 T.sz86) <| .w 42 (.ldc (vs := RWF.cells l[i]) T.ag86 (sl_ats RWF.cells_len (ok.r0).sl (i := i) (by omega)) T.sz86) <| .a' 43 (.lit [.tmp 42] (cs := [.string (BA (l[i].n)), .slice (l[i].ba) (l[i].bl.length) (l[i].bc)]) T.el66 T.sz86 T.zr86 ok ⟨rfl, trivial⟩) ?_
    rintro _ η9 ⟨pb5, rfl, ok, xe⟩
    refine .a' 44 (.app (news := [.string (BA (l[i].n)), .slice (l[i].ba) (l[i].bl.length) (l[i].bc)]) T.el66 T.sz86 T.by86 T.zr86 ok.n1 (ok.n1.m1).sl (oneL rfl) (by rw [flat_len RWF.cells_len]; simp only [List.length_append, List.length_cons, List.length_nil]; omega)) ?_
    rintro _ η10 ⟨ya4, yn4, yc4, rfl, ok, ap⟩
    have ok := ok.cx (ys := (o ++ [l[i]]).flatMap RWF.cells) (by simp [RWF.cells])
    obtain rfl : yn4 = (o ++ [l[i]]).length := (Sl.sz (Cap.sl ok.m0) RWF.cells_len (by decide)).1.symm
    refine .w 5 .asS <| .nil ?_
    refine .end <| hK1 _ _ <| .r <| .w 12 .mvI <| .w 13 (.addI (b := 1)) <| .w 7 .asI <| .nil ?_
    refine .end <| hJ0 _ _ _ ⟨i + 1, o ++ [l[i]], dn, ya4, yc4, ⟨rfl, rfl, rfl, rfl, rfl, trivial⟩, (ok.n2.n1).k2, by omega, by rw [ho, drop_here hil, wl_go C1 (by rintro ⟨h1, h2⟩; simp_all)]; simp only [List.append_assoc, List.singleton_append, List.cons_append, List.nil_append], by simp only [List.length_append, List.length_singleton]; omega, rfl⟩ (by omega)
  refine .x 25 <| .x 26 <| .x 27 <| .x 28 <| .x 29 <| .x 30 <| .x 31 <| .x 32 <| .w 33 .pkf <| .nil ?_
  refine .cf <| .skip <| .r <| .w 38 .mvS <| .w 39 .mvS <| .w 40 .mvI <| .w 41 (.ix i T.el66 T.sz86) <| .w 42 (.ldc (vs := RWF.cells l[i]) T.ag86 (sl_ats RWF.cells_len (ok.r0).sl (i := i) (by omega)) T.sz86) <| .a' 43 (.lit [.tmp 42] (cs := [.string (BA (l[i].n)), .slice (l[i].ba) (l[i].bl.length) (l[i].bc)]) T.el66 T.sz86 T.zr86 ok ⟨rfl, trivial⟩) ?_
  rintro _ η11 ⟨pb6, rfl, ok, xe⟩
  refine .a' 44 (.app (news := [.string (BA (l[i].n)), .slice (l[i].ba) (l[i].bl.length) (l[i].bc)]) T.el66 T.sz86 T.by86 T.zr86 ok.n1 (ok.n1.m1).sl (oneL rfl) (by rw [flat_len RWF.cells_len]; simp only [List.length_append, List.length_cons, List.length_nil]; omega)) ?_
  rintro _ η12 ⟨ya5, yn5, yc5, rfl, ok, ap⟩
  have ok := ok.cx (ys := (o ++ [l[i]]).flatMap RWF.cells) (by simp [RWF.cells])
  obtain rfl : yn5 = (o ++ [l[i]]).length := (Sl.sz (Cap.sl ok.m0) RWF.cells_len (by decide)).1.symm
  refine .w 5 .asS <| .nil ?_
  refine .end <| hK1 _ _ <| .r <| .w 12 .mvI <| .w 13 (.addI (b := 1)) <| .w 7 .asI <| .nil ?_
  refine .end <| hJ0 _ _ _ ⟨i + 1, o ++ [l[i]], dn, ya5, yc5, ⟨rfl, rfl, rfl, rfl, rfl, trivial⟩, (ok.n2.n1).k2, by omega, by rw [ho, drop_here hil, wl_go C1 (by rintro ⟨h1, h2⟩; simp_all)]; simp only [List.append_assoc, List.singleton_append, List.cons_append, List.nil_append], by simp only [List.length_append, List.length_singleton]; omega, rfl⟩ (by omega)

theorem set_long {l : List UInt8} {i n : Nat} (h : i < n) (h2 : i < l.length) : ((l.take i ++ List.replicate (n - i) 0).map bv).set i (.int .u8 (l[i].toNat : Int)) = (l.take (i + 1) ++ List.replicate (n - (i + 1)) 0).map bv := by
  rw [show n - i = (n - (i + 1)) + 1 by omega, List.replicate_succ, List.map_append, List.map_cons, List.set_append_right _ _ (by simp; omega)]
  rw [show i - ((l.take i).map bv).length = 0 by simp; omega, List.set_cons_zero, List.take_succ_eq_append_getElem h2]
  simp only [List.map_append, List.map_cons, List.map_nil, List.append_assoc, List.singleton_append]; rfl
theorem long_end {l : List UInt8} {i n : Nat} (h1 : i ≤ n) (h2 : i ≤ l.length) (h : ¬ (i < n ∧ i < l.length)) : l.take i ++ List.replicate (n - i) 0 = longN l n := by
  unfold longN
  rcases Nat.lt_or_ge i n with h3 | h3
  · have : i = l.length := by omega
    subst this; simp [List.take_of_length_le (show l.length ≤ n by omega)]
  · have : i = n := by omega
    subst this; simp [show i - l.length = 0 by omega]

set_option maxRecDepth 100000 in
set_option maxHeartbeats 2000000 in
theorem rlong_any {h : Heap} {F E : Nat → Prop} {a : Option Addr} {c : Nat} {l : List UInt8} {n : Nat} (hl : RdL h F E (a, l.length, c) l) (hN : n ≤ 100000000) : HC Try.prog 101 #[.slice a l.length c, .int .i64 (n : Int)] h (fun v h' => Own h h' 1 5 v ((longN l n).map bv)) := by
  have hc2 := hl.m
  have hc1 : l.length ≤ c := hl.c
  simp only at hc2
  have ok := (Hp.nil h none_).arg hl
  refine HC.go Try.func101 28 ?_
  refine .seq <| .r <| .w 4 .asS <| .nil ?_
  refine .seq <| .r <| .w 7 .mvI <| .a' 8 (.mks n n T.el22 T.sz5 T.by5 T.zr5 ok) ?_
  rintro _ η1 ⟨pb1, rfl, ok, xe⟩
  have ok := ok.cx (ys := (List.replicate n (0 : UInt8)).map bv) (zeros8 _)
  refine .w 5 .asS <| .nil ?_
  refine .seq <| .seq <| .r <| .w 6 .asI <| .nil ?_
  refine .block fun K0 hK0 => .loop (fun m s hh => ∃ (i : Nat), Has s [(0, .slice a l.length c), (1, .int .i64 (n : Int)), (5, .slice (some ⟨pb1, 0, none⟩) n n), (6, .int .i64 (i : Int))] ∧ Hp h none_ [capI 1 5 (some ⟨pb1, 0, none⟩, n, n) ((l.take i ++ List.replicate (n - i) (0 : UInt8)).map bv)] [rdI (fun j => F j ∧ j < h.size) (fun j => E j ∧ j < h.size) (a, l.length, c) l] hh ∧ i ≤ n ∧ i ≤ l.length ∧ m = n - i) ?_ ?_
  · exact ⟨_, 0, ⟨rfl, rfl, rfl, rfl, trivial⟩, ok, Nat.zero_le _, Nat.zero_le _, rfl⟩
  rintro _ _ η2 ⟨i, hs, ok, hi, hil, rfl⟩ J0 hJ0
  refine .frame hs fun τ => ?_
  refine .seq <| .seq <| .r <| .w 9 .mvI <| .w 10 .mvI <| .w 11 .lss <| .w 12 .mvB <| .sd (fun G12 => ?_) (fun G12 => ?_)
  ·
    refine .w 13 .mvI <| .w 14 .mvS <| .w 15 (.len T.el22) <| .w 16 .lss <| .w 17 .pkt <| .nil ?_
    refine .cdr (fun C0 => ?_) (fun C0 => ?_)
    · --
      refine .exit <| hK0 _ _ <| .seq <| .r <| .w 27 .mvS <| .w 4 .asS <| .nil ?_
      refine .ret ⟨.slice (some ⟨pb1, 0, none⟩) n n, Res.one rfl rfl, (by rw [← long_end hi hil (by omega)]; exact ok.toOwn)⟩
    have hil : i < l.length := by omega
    have hin : i < n := by omega
    refine .skip <| .seq <| .block fun K1 hK1 => .r <| .w 20 .mvS <| .w 21 .mvI <| .w 22 .mvS <| .w 23 .mvI <| ?_
    obtain ⟨bb1, oo1, rfl, fb1⟩ := ok.r0.pos (by omega)
    refine .w 24 (.ix1 i T.el22 T.sz5) <| .w 25 (.ld T.ag5 (ok.r0.u8 (i := i) (by omega))) <| .w 26 (.ix1 i T.el22 T.sz5) <| .ur' (.sxI (q := i) T.sz5 ok) ?_
    rintro η3 ⟨ok, cg⟩
    refine .nil ?_
    refine .end <| hK1 _ _ <| .r <| .w 18 .mvI <| .w 19 (.addI (b := 1)) <| .w 6 .asI <| .nil ?_
    refine .end <| hJ0 _ _ _ ⟨i + 1, ⟨rfl, rfl, rfl, rfl, trivial⟩, (ok.cx (set_long hin hil)), by omega, by omega, rfl⟩ (by omega)
  refine .x 13 <| .x 14 <| .x 15 <| .x 16 <| .w 17 .pkf <| .nil ?_
  refine .cf <| .exit <| hK0 _ _ <| .seq <| .r <| .w 27 .mvS <| .w 4 .asS <| .nil ?_
  refine .ret ⟨.slice (some ⟨pb1, 0, none⟩) n n, Res.one rfl rfl, (by rw [← long_end hi hil (by omega)]; exact ok.toOwn)⟩

end Go.Proofs.Ytpebbkhainpfaaa
