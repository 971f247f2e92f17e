/- Several items as one; what a call may turn alone, taken from and put back into what the caller has. Conditions: those that each fact names. -/
import Derived.Test.YtpebbkhainpfaaaHlTxt
namespace Go.HL
open Go
@[reducible] def apart (l : List Itm) : Prop := l.Pairwise fun (a b : Itm) => ∀ j, a.F j → ¬ b.F j
/-- Items that are apart from each other, as one. -/
@[reducible] def starI (l : List Itm) : Itm := ⟨fun h => (∀ i ∈ l, i.p h) ∧ apart l, fun j => ∃ i ∈ l, i.F j, fun _ _ _ c d hp => ⟨fun i hi => i.st _ _ _ c (fun j hj => d j ⟨i, hi, hj⟩) (hp.1 i hi), hp.2⟩⟩
section
variable {h0 h h' h1 : Heap} {D G : Nat → Prop} {M R : List Itm} {a b c x y : Itm} {l l' : List Itm}
theorem Hp.unstar (ok : Hp h0 D (starI l :: M) R h) : Hp h0 D (l ++ M) R h := by
  have hs := (ok.m _ List.mem_cons_self)
  have hmm := List.pairwise_cons.1 ok.mm
  refine ⟨ok.chg, fun i hi => ?_, ok.r, List.pairwise_append.2 ⟨hs.1.2, hmm.2, fun p hp q hq j hj hj2 => hmm.1 q hq j ⟨p, hp, hj⟩ hj2⟩, fun p hp q hq j hj hj2 => ?_⟩
  · rcases List.mem_append.1 hi with hi | hi
    · exact ⟨hs.1.1 i hi, fun j hj => hs.2 j ⟨i, hi, hj⟩⟩
    · exact ok.m i (List.mem_cons_of_mem _ hi)
  · rcases List.mem_append.1 hp with hp | hp
    · exact ok.mr _ List.mem_cons_self q hq j ⟨p, hp, hj⟩ hj2
    · exact ok.mr p (List.mem_cons_of_mem _ hp) q hq j hj hj2
theorem Hp.star (ok : Hp h0 D (l ++ M) R h) : Hp h0 D (starI l :: M) R h := by
  have hmm := List.pairwise_append.1 ok.mm
  refine ⟨ok.chg, fun i hi => ?_, ok.r, List.pairwise_cons.2 ⟨fun q hq j ⟨p, hp, hj⟩ hj2 => hmm.2.2 p hp q hq j hj hj2, hmm.2.1⟩, fun p hp q hq j hj hj2 => ?_⟩
  · rcases List.mem_cons.1 hi with rfl | hi
    · exact ⟨⟨fun i hi => (ok.m i (List.mem_append_left _ hi)).1, hmm.1⟩, fun j ⟨i, hi, hj⟩ => (ok.m i (List.mem_append_left _ hi)).2 j hj⟩
    · exact ok.m i (List.mem_append_right _ hi)
  · rcases List.mem_cons.1 hp with rfl | hp
    · obtain ⟨i, hi, hj⟩ := hj
      exact ok.mr i (List.mem_append_left _ hi) q hq j hj hj2
    · exact ok.mr p (List.mem_append_right _ hp) q hq j hj hj2
theorem Hp.starP (ok : Hp h0 D (starI l :: M) R h) (p : l'.Perm l) : Hp h0 D (starI l' :: M) R h := (ok.unstar.perm (p.append_right M)).star
theorem Hp.star1 (ok : Hp h0 D (starI (a :: l) :: M) R h) : Hp h0 D (a :: starI l :: M) R h := Hp.n1 ((ok.unstar.perm (M' := l ++ a :: M) List.perm_middle).star)
theorem Hp.star2 (ok : Hp h0 D (starI (a :: b :: l) :: M) R h) : Hp h0 D (a :: b :: starI l :: M) R h := by
  have o : Hp h0 D (starI l :: a :: b :: M) R h := (ok.unstar.perm (M' := l ++ a :: b :: M) (by simpa using (List.perm_append_comm (l₁ := l) (l₂ := [a, b])).append_right M)).star
  exact o.n2.n2
theorem Hp.unstar1 (ok : Hp h0 D (a :: starI l :: M) R h) : Hp h0 D (starI (a :: l) :: M) R h := Hp.star ((ok.n1.unstar).perm (M' := a :: (l ++ M)) List.perm_middle.symm)
theorem Hp.unstar2 (ok : Hp h0 D (a :: b :: starI l :: M) R h) : Hp h0 D (starI (a :: b :: l) :: M) R h :=
  Hp.star ((ok.n2.unstar).perm (M' := a :: b :: (l ++ M)) (by simpa using (List.perm_append_comm (l₁ := [a, b]) (l₂ := l)).append_right M))
end
section
variable {h0 h : Heap} {D : Nat → Prop} {M R : List Itm} {q0 q1 q2 q3 q4 q5 q6 q7 q8 q9 : Itm}
theorem Hp.e5 (ok : Hp h0 D M (q0 :: q1 :: q2 :: q3 :: q4 :: R) h) : Hp h0 D M [q0, q1, q2, q3, q4] h := ok.sub (by simp)
theorem Hp.e6 (ok : Hp h0 D M (q0 :: q1 :: q2 :: q3 :: q4 :: q5 :: R) h) : Hp h0 D M [q0, q1, q2, q3, q4, q5] h := ok.sub (by simp)
theorem Hp.e7 (ok : Hp h0 D M (q0 :: q1 :: q2 :: q3 :: q4 :: q5 :: q6 :: R) h) : Hp h0 D M [q0, q1, q2, q3, q4, q5, q6] h := ok.sub (by simp)
theorem Hp.f6 (ok : Hp h0 D M (q0 :: q1 :: q2 :: q3 :: q4 :: q5 :: q6 :: R) h) : Hp h0 D M (q6 :: q0 :: q1 :: q2 :: q3 :: q4 :: q5 :: R) h := ok.sub (by simp; grind)
theorem Hp.f7 (ok : Hp h0 D M (q0 :: q1 :: q2 :: q3 :: q4 :: q5 :: q6 :: q7 :: R) h) : Hp h0 D M (q7 :: q0 :: q1 :: q2 :: q3 :: q4 :: q5 :: q6 :: R) h := ok.sub (by simp; grind)
theorem Hp.f8 (ok : Hp h0 D M (q0 :: q1 :: q2 :: q3 :: q4 :: q5 :: q6 :: q7 :: q8 :: R) h) : Hp h0 D M (q8 :: q0 :: q1 :: q2 :: q3 :: q4 :: q5 :: q6 :: q7 :: R) h := ok.sub (by simp; grind)
theorem Hp.f9 (ok : Hp h0 D M (q0 :: q1 :: q2 :: q3 :: q4 :: q5 :: q6 :: q7 :: q8 :: q9 :: R) h) : Hp h0 D M (q9 :: q0 :: q1 :: q2 :: q3 :: q4 :: q5 :: q6 :: q7 :: q8 :: R) h := ok.sub (by simp; grind)
theorem Hp.l7 (ok : Hp h0 D M (q0 :: q1 :: q2 :: q3 :: q4 :: q5 :: q6 :: q7 :: R) h) : ∀ j, q7.F j → j < h.size := (ok.r q7 (by simp)).2
theorem Hp.l8 (ok : Hp h0 D M (q0 :: q1 :: q2 :: q3 :: q4 :: q5 :: q6 :: q7 :: q8 :: R) h) : ∀ j, q8.F j → j < h.size := (ok.r q8 (by simp)).2
theorem Hp.l9 (ok : Hp h0 D M (q0 :: q1 :: q2 :: q3 :: q4 :: q5 :: q6 :: q7 :: q8 :: q9 :: R) h) : ∀ j, q9.F j → j < h.size := (ok.r q9 (by simp)).2
theorem Hp.d6 (ok : Hp h0 D M (q0 :: q1 :: q2 :: q3 :: q4 :: q5 :: q6 :: R) h) (it : Itm) (hp : it.p h) (hF : ∀ j, it.F j → q6.F j := by exact fun _ x => x) : Hp h0 D M (it :: q0 :: q1 :: q2 :: q3 :: q4 :: q5 :: q6 :: R) h := ok.der (r := q6) (by simp) it hp hF
theorem Hp.d7 (ok : Hp h0 D M (q0 :: q1 :: q2 :: q3 :: q4 :: q5 :: q6 :: q7 :: R) h) (it : Itm) (hp : it.p h) (hF : ∀ j, it.F j → q7.F j := by exact fun _ x => x) : Hp h0 D M (it :: q0 :: q1 :: q2 :: q3 :: q4 :: q5 :: q6 :: q7 :: R) h := ok.der (r := q7) (by simp) it hp hF
theorem Hp.d8 (ok : Hp h0 D M (q0 :: q1 :: q2 :: q3 :: q4 :: q5 :: q6 :: q7 :: q8 :: R) h) (it : Itm) (hp : it.p h) (hF : ∀ j, it.F j → q8.F j := by exact fun _ x => x) : Hp h0 D M (it :: q0 :: q1 :: q2 :: q3 :: q4 :: q5 :: q6 :: q7 :: q8 :: R) h := ok.der (r := q8) (by simp) it hp hF
theorem Hp.d9 (ok : Hp h0 D M (q0 :: q1 :: q2 :: q3 :: q4 :: q5 :: q6 :: q7 :: q8 :: q9 :: R) h) (it : Itm) (hp : it.p h) (hF : ∀ j, it.F j → q9.F j := by exact fun _ x => x) : Hp h0 D M (it :: q0 :: q1 :: q2 :: q3 :: q4 :: q5 :: q6 :: q7 :: q8 :: q9 :: R) h := ok.der (r := q9) (by simp) it hp hF
end
end Go.HL
