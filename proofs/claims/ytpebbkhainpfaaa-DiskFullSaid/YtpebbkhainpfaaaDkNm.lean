/- The names of a disk's files. Conditions: the disk is in order, its changes few. -/
import Derived.Test.YtpebbkhainpfaaaDkRd
import Derived.Test.YtpebbkhainpfaaaDkSort
import Derived.Test.YtpebbkhainpfaaaHlNm
namespace Go.Proofs.Ytpebbkhainpfaaa
open Go Go.HL
theorem nodup_le {α : Type} [DecidableEq α] : ∀ {l m : List α}, l.Nodup → (∀ x ∈ l, x ∈ m) → l.length ≤ m.length
  | [], _, _, _ => Nat.zero_le _
  | a :: l, m, h, hs => by
    have h1 := List.nodup_cons.1 h
    have h2 := hs a List.mem_cons_self
    have h3 := nodup_le (l := l) (m := m.erase a) h1.2 fun x hx => (List.mem_erase_of_ne (a := x) (b := a) (fun e => h1.1 (by rw [← e]; exact hx))).2 (hs x (List.mem_cons_of_mem _ hx))
    rw [List.length_erase_of_mem h2] at h3
    have := List.length_pos_of_mem h2
    simp only [List.length_cons]; omega
theorem abs_get {r : RD} {n : List UInt8} : r.abs.fs n = (bget r.fs n).map RF.abs := rfl
theorem names_few {r : RD} (hk : DkOk r.abs) (hcg : r.chg < 1000000000) (hn : (r.fs.map (·.1)).Nodup) : (∀ p ∈ ents r.fs, p.1.length ≤ 1000000000) ∧ (ents r.fs).length ≤ 1000000000 := by
  obtain ⟨ks, h1, h2⟩ := hk.cnt
  have hin : ∀ p ∈ r.fs, p.1 ∈ ks ∧ p.1.length ≤ 32 := fun p hp => h2 p.1 p.2.abs (by rw [abs_get, bget_of hn (by exact hp)]; rfl)
  refine ⟨fun p hp => ?_, ?_⟩
  · obtain ⟨q, hq, rfl⟩ := List.mem_map.1 hp
    have := (hin q hq).2
    simp only; omega
  · have h3 : (r.fs.map (·.1)).length ≤ ks.length := (nodup_le hn fun x hx => by
      obtain ⟨p, hp, rfl⟩ := List.mem_map.1 hx
      exact (hin p hp).1)
    have h4 : (ks.length : Int) ≤ r.chg := h1
    simp [ents] at h3 ⊢; omega
theorem keys_of {r : RD} {S : List (List UInt8)} (hn : (r.fs.map (·.1)).Nodup) (hp : S.Perm ((ents r.fs).map (·.1))) (hs : S.Pairwise (· ≤ ·)) : Keys r.abs.fs S := by
  rw [ents_keys] at hp
  have hnd : S.Nodup := hp.nodup_iff.2 hn
  refine ⟨(hs.and hnd).imp fun {a b} h => ?_, fun n => ?_⟩
  · rcases list_tri a b with h1 | h1 | h1
    · exact h1
    · exact absurd h1 h.2
    · exact absurd (List.le_antisymm h.1 (List.le_of_lt h1)) h.2
  · rw [hp.mem_iff, abs_get]
    constructor
    · intro h
      obtain ⟨p, hp, rfl⟩ := List.mem_map.1 h
      rw [bget_of hn (by exact hp)]; rfl
    · intro h
      cases hb : bget r.fs n with
      | none => rw [hb] at h; cases h
      | some f => exact List.mem_map.2 ⟨_, bget_mem hb, rfl⟩
theorem preN {h0 h : Heap} {D : Nat → Prop} {M R : List Itm} {e : TypeId} {a : Option Addr} {n c i : Nat} {Q : List (List UInt8)} (ok : Hp h0 D (capI 1 e (a, n, c) (Q.map kvB) :: M) R h) (hi : i ≤ n) : Hp h0 D (capI 1 e (a, i, c) ((Q.take i).map kvB) :: M) R h := by
  have h1 := Cap.pre ok.m0 hi
  rw [Nat.mul_one, ← List.map_take] at h1
  refine ok.re _ h1 fun j hj => ?_
  obtain ⟨o, n', c', hv⟩ := hj
  injection hv with h1 h2 h3
  exact ⟨o, _, _, by rw [← h1]⟩
structure DelInv (p : List UInt8 → Bool) (S Q : List (List UInt8)) (i j : Nat) : Prop where
  lt : i < j
  le : j ≤ S.length
  len : Q.length = S.length
  tk : Q.take i = (S.take j).filter p
  dr : Q.drop j = S.drop j
theorem DelInv.init {p : List UInt8 → Bool} {S : List (List UInt8)} {k : Nat} (hk : k < S.length) (h1 : p S[k] = false) (h2 : ∀ j (hj : j < S.length), j < k → p S[j] = true) : DelInv p S S k (k + 1) := by
  refine ⟨by omega, hk, rfl, ?_, rfl⟩
  rw [List.take_succ_eq_append_getElem hk, List.filter_append, List.filter_eq_self.2]
  · simp [h1]
  · intro a ha
    obtain ⟨j, hj, rfl⟩ := List.mem_iff_getElem.1 ha
    simp only [List.length_take] at hj
    rw [List.getElem_take]
    exact h2 j (by omega) (by omega)
theorem DelInv.at {p : List UInt8 → Bool} {S Q : List (List UInt8)} {i j : Nat} (v : DelInv p S Q i j) (hj : j < S.length) (hj2 : j < Q.length) : Q[j] = S[j] := by
  have h1 := congrArg (fun l => l[0]?) v.dr
  simp only [List.getElem?_drop, Nat.add_zero] at h1
  rw [List.getElem?_eq_getElem hj, List.getElem?_eq_getElem hj2] at h1
  exact Option.some.inj h1
theorem DelInv.no {p : List UInt8 → Bool} {S Q : List (List UInt8)} {i j : Nat} (v : DelInv p S Q i j) (hj : j < S.length) (hj2 : j < Q.length) (h : p Q[j] = false) : DelInv p S Q i (j + 1) := by
  rw [v.at hj hj2] at h
  refine ⟨by have := v.lt; omega, hj, v.len, ?_, ?_⟩
  · rw [v.tk, List.take_succ_eq_append_getElem hj, List.filter_append]; simp [h]
  · have := congrArg (List.drop 1) v.dr
    simpa [List.drop_drop, Nat.add_comm] using this
theorem DelInv.yes {p : List UInt8 → Bool} {S Q : List (List UInt8)} {i j : Nat} (v : DelInv p S Q i j) (hj : j < S.length) (hj2 : j < Q.length) (h : p Q[j] = true) : DelInv p S (Q.set i Q[j]) (i + 1) (j + 1) := by
  have hlt := v.lt
  have e := v.at hj hj2
  refine ⟨by omega, hj, by rw [List.length_set, v.len], ?_, ?_⟩
  · rw [List.take_succ_eq_append_getElem (by rw [List.length_set]; omega), List.getElem_set_self, List.take_set_of_le (Nat.le_refl _), v.tk, List.take_succ_eq_append_getElem hj, List.filter_append]
    rw [e] at h ⊢
    simp [h]
  · rw [List.drop_set_of_lt (by omega)]
    have := congrArg (List.drop 1) v.dr
    simpa [List.drop_drop, Nat.add_comm] using this
theorem DelInv.fin {p : List UInt8 → Bool} {S Q : List (List UInt8)} {i j : Nat} (v : DelInv p S Q i j) (hj : j = S.length) : Q.take i = S.filter p ∧ i = (S.filter p).length := by
  have h1 := v.tk
  rw [hj, List.take_length] at h1
  refine ⟨h1, ?_⟩
  rw [← h1, List.length_take]
  have := v.len; have := v.lt; have := v.le
  omega

set_option maxRecDepth 100000 in
set_option maxHeartbeats 2000000 in
theorem names_any {h : Heap} {d : Nat} {r : RD} {E : Nat → Prop} (ok : Hp h none_ [] [dskI d r, bysI E r.fs] h) (hk : DkOk r.abs) (hcg : r.chg < 1000000000) :
    HC Try.prog 82 #[.pointer (some ⟨d, 0, none⟩)] h (fun v h' => ∃ S, Keys r.abs.fs S ∧ Own h h' 1 9 v (S.map kvB)) := by
  refine HC.go Try.func82 9 ?_
  refine .seq <| .r <| .w 2 .asS <| .nil ?_
  refine .seq <| ?_
  obtain ⟨hd1, hd2, hd3, hd4⟩ := dsk_parts (ok.r0)
  obtain ⟨hkr, hkl⟩ := names_few hk hcg hd3
  refine .r <| .w 3 .mvP <| .w 4 .nil <| .w 5 (.fa T.fd113_0) <| .w 6 (.ldx T.ag111 hd1) <| .c' 7 .func keysS_any ?_
  rintro _ _ ⟨rfl, rfl⟩
  have ok := ok.ext (Ext.push _ (.cells #[.map (some r.m)] 111 (0, 0)))
  refine .c' 8 .func (sortedS_any hd2 hkr hkl) ?_
  rintro _ η1 ⟨S, hSp, hSs, own⟩
  obtain ⟨aS, nS, cS, rfl⟩ := own.form3
  have ok := ok.own own
  obtain rfl : nS = S.length := Cap.lenN ok.m0
  refine .w 2 .asS <| .nil ?_
  refine .ret ⟨.slice aS S.length cS, Res.one rfl rfl, ⟨S, keys_of hd3 hSp hSs, ok.toOwn⟩⟩

set_option maxRecDepth 100000 in
set_option maxHeartbeats 2000000 in
theorem filef_any {h : Heap} {d : Nat} {r : RD} {pb : Nat} {n : List UInt8} (hpb : (boxI pb 57 [.pointer (some ⟨d, 0, none⟩)]).p h) (hd : (dskI d r).p h) :
    HC Try.prog 86 #[.string (BA n), .pointer (some ⟨pb, 0, none⟩)] h (fun v h' => v = .bool (!thereN r.abs n) ∧ h' = h) := by
  refine HC.go Try.func86 8 ?_
  refine .seq <| .r <| .w 3 .asB <| .nil ?_
  refine .seq <| .r <| .w 4 (.ldx T.ag57 hpb) <| .w 5 .mvT <| .c' 6 .func (there_any (d := d) (r := r) (n := n) hd) ?_
  rintro _ _ ⟨(⟨hnotf1, rfl⟩ | ⟨tf1, hgtf1, hhtf1, rfl⟩), heq⟩
  · --
    obtain rfl := heq.symm
    refine .w 7 (.pEqN T.pt118) <| .w 3 .asB <| .nil ?_
    refine .ret ⟨.bool true, Res.one rfl rfl, ⟨by first | rw [hnotf1]; rfl | rw [there_f hgtf1, hhtf1]; rfl, rfl⟩⟩
  obtain rfl := heq.symm
  refine .w 7 (.pEqS T.pt118) <| .w 3 .asB <| .nil ?_
  refine .ret ⟨.bool false, Res.one rfl rfl, ⟨by first | rw [hnotf1]; rfl | rw [there_f hgtf1, hhtf1]; rfl, rfl⟩⟩

set_option maxRecDepth 100000 in
set_option maxHeartbeats 2000000 in
theorem ixs_any {h : Heap} {d : Nat} {r : RD} {pb : Nat} {F E : Nat → Prop} {a : Option Addr} {c : Nat} {S : List (List UInt8)} (hl : RdL h F E (a, S.length, c) (S.map Nm.mk)) (hpb : (boxI pb 57 [.pointer (some ⟨d, 0, none⟩)]).p h) (hd : (dskI d r).p h) :
    HC Try.prog 110 #[.slice a S.length c, .func (.func 86) #[] #[.pointer (some ⟨pb, 0, none⟩)]] h (fun v h' => ∃ i : Int, v = .int .i64 i ∧ ((∃ (k : Nat) (hk : k < S.length), i = k ∧ thereN r.abs S[k] = false ∧ ∀ j (hj : j < S.length), j < k → thereN r.abs S[j] = true) ∨ (i = -1 ∧ ∀ j (hj : j < S.length), thereN r.abs S[j] = true)) ∧ h' = h) := by
  have hc2 := hl.m
  have hc1 : S.length ≤ c := hl.c
  simp only at hc2
  refine HC.go Try.func110 19 ?_
  refine .seq <| .r <| .w 4 .asI <| .nil ?_
  refine .seq <| .seq <| .r <| .w 6 .mvS <| .w 7 (.len T.el82) <| .w 8 .mvI <| .nil ?_
  refine .block fun K0 hK0 => .loop (fun m s hh => ∃ (i : Nat), Has s [(0, .slice a S.length c), (1, .func (.func 86) #[] #[.pointer (some ⟨pb, 0, none⟩)]), (7, .int .i64 (S.length : Int)), (8, .int .i64 (i : Int))] ∧ h = hh ∧ i ≤ S.length ∧ (∀ j (hj : j < S.length), j < i → thereN r.abs S[j] = true) ∧ m = S.length - i) ?_ ?_
  · exact ⟨_, 0, ⟨rfl, rfl, rfl, rfl, trivial⟩, rfl, Nat.zero_le _, fun _ _ h => absurd h (by omega), rfl⟩
  rintro _ _ _ ⟨i, hs, rfl, hi, hz, rfl⟩ J0 hJ0
  refine .frame hs fun τ => ?_
  refine .seq <| .r <| .w 9 .lss <| .nil ?_
  refine .seq <| .cdr (fun C0 => ?_) (fun C0 => ?_)
  · --
    have hil : i = S.length := by omega
    refine .exit <| hK0 _ _ <| .seq <| .r <| .w 4 .asI <| .nil ?_
    refine .ret ⟨.int .i64 (-1), Res.one rfl rfl, ⟨_, rfl, .inr ⟨rfl, fun j hj => hz j hj (by omega)⟩, rfl⟩⟩
  have hil : i < S.length := by omega
  refine .skip <| .seq <| .block fun K1 hK1 => .seq <| .r <| .w 10 .mvI <| .w 5 .asI <| .nil ?_
  refine .seq <| .r <| .w 11 .mvF <| .w 12 .mvS <| .w 13 .mvI <| ?_
  obtain ⟨bb1, oo1, rfl, fb1⟩ := hl.pos (by simp; omega)
  refine .w 14 (.ix1 i T.el82 T.sz9) <| .w 15 (.ld T.ag9 (hl.nm (i := i) (by omega))) <| .k 16 .dyn (filef_any (n := (S[i])) hpb hd) <| .nil ?_
  refine .cond (fun C1 => ?_) (fun C1 => ?_)
  · --
    refine .seq <| .r <| .w 17 .mvI <| .w 4 .asI <| .nil ?_
    refine .ret ⟨.int .i64 (i : Int), Res.one rfl rfl, ⟨_, rfl, .inl ⟨i, hil, rfl, by simpa using C1, hz⟩, rfl⟩⟩
  refine .skip <| .end <| hK1 _ _ <| .r <| .w 18 (.addI (b := 1)) <| .w 8 .mvI <| .nil ?_
  refine .end <| hJ0 _ _ _ ⟨i + 1, ⟨rfl, rfl, rfl, rfl, trivial⟩, rfl, by omega, fun j hj h => (by by_cases hji : j = i; (subst hji; simpa using C1); exact hz j hj (by omega)), rfl⟩ (by omega)

set_option maxRecDepth 100000 in
set_option maxHeartbeats 2000000 in
theorem delf_any {h : Heap} {d : Nat} {r : RD} {pb : Nat} {a : Option Addr} {c : Nat} {S : List (List UInt8)} (ok : Hp h (blkC (sv (a, S.length, c))) [capI 1 9 (a, S.length, c) (S.map kvB)] [boxI pb 57 [.pointer (some ⟨d, 0, none⟩)], dskI d r] h) :
    HC Try.prog 85 #[.slice a S.length c, .func (.func 86) #[] #[.pointer (some ⟨pb, 0, none⟩)]] h (fun v h' => ∃ a' c', v = .slice a' (S.filter (thereN r.abs)).length c' ∧ Hp h (blkC (sv (a, S.length, c))) [capI 1 9 (a', (S.filter (thereN r.abs)).length, c') ((S.filter (thereN r.abs)).map kvB)] [] h') := by
  have hle : S.length ≤ c := Cap.le ok.m0
  have hbd : c ≤ 9223372036854775807 := Cap.bd ok.m0
  refine HC.go Try.func85 42 ?_
  refine .seq <| .r <| .w 4 .asS <| .nil ?_
  refine .seq <| .r <| .w 8 .mvS <| .w 9 .mvF <| .c' 10 .func (ixs_any (a := a) (c := c) (S := S) (RdL.ofCapN ok.m0) (ok.r0) (ok.r1)) ?_
  rintro _ _ ⟨_, rfl, (⟨k, hk, rfl, hk1, hk2⟩ | ⟨rfl, hall⟩), heq⟩
  · --
    obtain rfl := heq.symm
    refine .w 5 .asI <| .nil ?_
    refine .seq <| .seq <| .r <| .w 11 .mvI <| .w 12 .eql <| .nil ?_
    refine .cd (fun C0 => ?_) (fun C0 => ?_)
    · --
      omega
    refine .skip <| .seq <| .seq <| .r <| .w 14 .mvI <| .w 15 (.addI (b := 1)) <| .w 6 .asI <| .nil ?_
    refine .block fun K0 hK0 => .loop (fun m s hh => ∃ (i j : Nat) (Q : List (List UInt8)), Has s [(0, .slice a S.length c), (1, .func (.func 86) #[] #[.pointer (some ⟨pb, 0, none⟩)]), (5, .int .i64 (i : Int)), (6, .int .i64 (j : Int))] ∧ Hp h (blkC (sv (a, S.length, c))) [capI 1 9 (a, S.length, c) (Q.map kvB)] [boxI pb 57 [.pointer (some ⟨d, 0, none⟩)], dskI d r] hh ∧ DelInv (thereN r.abs) S Q i j ∧ m = S.length - j) ?_ ?_
    · exact ⟨_, k, k + 1, S, ⟨rfl, rfl, rfl, rfl, trivial⟩, ok, DelInv.init hk hk1 hk2, rfl⟩
    rintro _ _ η1 ⟨i, j, Q, hs, ok, hv, rfl⟩ J0 hJ0
    refine .frame hs fun τ => ?_
    refine .seq <| .seq <| .r <| .w 16 .mvI <| .w 17 .mvS <| .w 18 (.len T.el82) <| .w 19 .lss <| .nil ?_
    refine .cdr (fun C1 => ?_) (fun C1 => ?_)
    · --
      have hlt := hv.lt
      have hjS : j = S.length := by have := hv.le; omega
      refine .exit <| hK0 _ _ <| .seq <| .r <| .w 36 .mvS <| .w 37 .mvI <| .w 38 (.sll i T.el82 T.sz9) <| .a0' (.clr (z := []) i T.el82 T.zr9 ok rfl (by omega)) ?_
      rintro _ η2 ⟨rfl, ok⟩
      refine .nil ?_
      refine .seq <| .r <| .w 39 .mvS <| .w 40 .mvI <| .w 41 (.sl_h i T.el82 T.sz9) <| .w 4 .asS <| .nil ?_
      refine .ret ⟨.slice a i c, Res.one rfl rfl, (by obtain ⟨h1, h2⟩ := hv.fin hjS; have o2 := preN (i := i) ok (by omega); rw [List.take_left' (by rw [List.length_take]; have := hv.len; omega), h1] at o2; exact ⟨a, c, by rw [← h2], by rw [← h2]; exact o2.sub (by simp)⟩)⟩
    have hlt := hv.lt
    have hjS : j < S.length := by omega
    have hjQ : j < Q.length := by rw [hv.len]; exact hjS
    refine .skip <| .seq <| .block fun K1 hK1 => .seq <| .r <| .w 22 .mvS <| .w 23 .mvI <| ?_
    obtain ⟨bb1, oo1, rfl, fb1⟩ := ok.m0.pos (n := S.length) (by omega)
    refine .w 24 (.ix1 j T.el82 T.sz9) <| .w 25 (.ld T.ag9 (Cap.nm ok.m0 (i := j) (by omega))) <| .w 7 .asT <| .nil ?_
    refine .seq <| .r <| .w 26 .mvF <| .w 27 .mvT <| .k 28 .dyn (filef_any (n := (Q[j])) (ok.r0) (ok.r1)) <| .w 29 .not <| .nil ?_
    refine .cond (fun C2 => ?_) (fun C2 => ?_)
    · --
      refine .seq <| .r <| .w 30 .mvS <| .w 31 .mvI <| .w 32 .mvT <| .w 33 (.ix1 i T.el82 T.sz9) <| .ur' (.sxT (q := i) T.sz9 ok (by omega)) ?_
      rintro η3 ⟨ok, cg⟩
      refine .nil ?_
      refine .r <| .w 34 .mvI <| .w 35 (.addI (b := 1)) <| .w 5 .asI <| .nil ?_
      refine .end <| hK1 _ _ <| .r <| .w 20 .mvI <| .w 21 (.addI (b := 1)) <| .w 6 .asI <| .nil ?_
      refine .end <| hJ0 _ _ _ ⟨i + 1, j + 1, Q.set i Q[j], ⟨rfl, rfl, rfl, rfl, trivial⟩, ok, hv.yes hjS hjQ (by simpa using C2), rfl⟩ (by have := hv.lt; omega)
    refine .skip <| .end <| hK1 _ _ <| .r <| .w 20 .mvI <| .w 21 (.addI (b := 1)) <| .w 6 .asI <| .nil ?_
    refine .end <| hJ0 _ _ _ ⟨i, j + 1, Q, ⟨rfl, rfl, rfl, rfl, trivial⟩, ok, hv.no hjS hjQ (by simpa using C2), rfl⟩ (by have := hv.lt; omega)
  obtain rfl := heq.symm
  refine .w 5 .asI <| .nil ?_
  refine .seq <| .seq <| .r <| .w 11 .mvI <| .w 12 .eql <| .nil ?_
  refine .ct <| .seq <| .r <| .w 13 .mvS <| .w 4 .asS <| .nil ?_
  refine .ret ⟨.slice a S.length c, Res.one rfl rfl, (by have hf : S.filter (thereN r.abs) = S := List.filter_eq_self.2 fun x hx => (by obtain ⟨j, hj, rfl⟩ := List.mem_iff_getElem.1 hx; exact hall j hj); rw [hf]; exact ⟨a, c, rfl, ok.sub (by simp)⟩)⟩

theorem rdR {h : Heap} {a b : Itm} (ha : a.p h) (hb : b.p h) (la : ∀ j, a.F j → j < h.size) (lb : ∀ j, b.F j → j < h.size) : Hp h none_ [] [a, b] h :=
  ⟨Chg.refl _ _, by simp, fun i hi => by
    rcases List.mem_cons.1 hi with rfl | hi
    · exact ⟨ha, la⟩
    · rw [List.mem_singleton.1 hi]; exact ⟨hb, lb⟩, .nil, by simp⟩
theorem keys_ex {r : RD} (hn : (r.fs.map (·.1)).Nodup) : ∃ S, Keys r.abs.fs S := by
  refine ⟨((ents r.fs).map (·.1)).mergeSort (fun x y => decide (x ≤ y)), keys_of hn (List.mergeSort_perm _ _) ?_⟩
  have := List.pairwise_mergeSort (le := fun x y : List UInt8 => decide (x ≤ y)) (fun a b c h1 h2 => by simp only [decide_eq_true_eq] at h1 h2 ⊢; exact List.le_trans h1 h2) (fun a b => by
    by_cases h : a ≤ b
    · simp [h]
    · simp [le_of_not h]) ((ents r.fs).map (·.1))
  exact this.imp fun h => by simpa using h
def filesN (d : Dk) (S : List (List UInt8)) : List (List UInt8) := if d.dark = true then [] else S.filter (thereN d)

set_option maxRecDepth 100000 in
set_option maxHeartbeats 2000000 in
theorem files_any {h : Heap} {d : Nat} {r : RD} {E : Nat → Prop} (ok : Hp h none_ [] [dskI d r, bysI E r.fs] h) (hk : DkOk r.abs) (hcg : r.chg < 1000000000) :
    HC Try.prog 43 #[.pointer (some ⟨d, 0, none⟩)] h (fun v h' => ∃ S, Keys r.abs.fs S ∧ Own h h' 1 9 v ((filesN r.abs S).map kvB)) := by
  refine HC.go Try.func43 15 ?_
  refine .seq <| .r <| .a' 1 (.bxP ok) ?_
  rintro _ η1 ⟨pb1, rfl, ok, xe⟩
  refine .w 2 .asS <| .nil ?_
  refine .seq <| .seq <| ?_
  obtain ⟨hd1, hd2, hd3, hd4⟩ := dsk_parts (ok.r0)
  refine .r <| .w 3 (.ldx T.ag57 ok.m0) <| .w 4 (.pEqS T.pt57) <| .w 5 .mvB <| .w 6 (.ldx T.ag57 ok.m0) <| .w 7 .nil <| .w 8 (.fa T.fd113_1) <| .w 9 (.ldx T.ag4 hd1) <| .w 10 .pkf <| .nil ?_
  refine .cond (fun C0 => ?_) (fun C0 => ?_)
  · --
    refine .seq <| .r <| .w 2 .asS <| .nil ?_
    refine .ret ⟨.slice none 0 0, Res.one rfl rfl, (by obtain ⟨S, hKS⟩ := keys_ex hd3; refine ⟨S, hKS, ?_⟩; rw [show filesN r.abs S = [] from by unfold filesN; rw [if_pos (by exact C0)]]; exact ok.nilC.toOwn)⟩
  refine .skip <| .seq <| ?_
  have ok := (ok).frz
  have hpbx := ok.r0
  refine .r <| .w 11 (.ldx T.ag57 hpbx) <| .c' 12 .func (names_any (d := d) (r := r) (E := E) (rdR (ok.r1) (ok.r2) (ok.l1) (ok.l2)) hk hcg) ?_
  rintro _ η2 ⟨S, hKS, own⟩
  obtain ⟨aS, nS, cS, rfl⟩ := own.form3
  have ok := ok.own own
  obtain rfl : nS = S.length := Cap.lenN ok.m0
  refine .w 13 .mkf <| .c' 14 .func (delf_any (d := d) (r := r) (pb := pb1) (a := aS) (c := cS) (S := S) (ok.f1.f1).loc2) ?_
  rintro _ η3 ⟨aD, cD, rfl, q⟩
  have ok := (ok).lift1 q
  refine .w 2 .asS <| .nil ?_
  refine .ret ⟨.slice aD ((S.filter (thereN r.abs)).length) cD, Res.one rfl rfl, ⟨S, hKS, by rw [show filesN r.abs S = S.filter (thereN r.abs) from by unfold filesN; rw [if_neg (by show ¬ r.dark = true; rw [C0]; decide)]]; exact ok.toOwn⟩⟩

end Go.Proofs.Ytpebbkhainpfaaa
