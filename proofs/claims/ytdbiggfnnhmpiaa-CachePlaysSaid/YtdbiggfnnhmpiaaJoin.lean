/- tomeref01.Join answers its rows of bytes, one behind the other. Conditions: the rows are readable, and few. -/
import Derived.Test.YtdbiggfnnhmpiaaWa
import Derived.Test.YtdbiggfnnhmpiaaHlRep
namespace Go.Proofs.Ytdbiggfnnhmpiaa
open Go Go.HL

set_option maxRecDepth 100000 in
set_option maxHeartbeats 2000000 in
theorem join_any {h : Heap} {F E : Nat → Prop} {x : SV} {L : List (List UInt8)} (hl : RdL h F E x L) (hN : L.flatten.length ≤ 1000000000) :
    HC Try.prog 35 #[sv x] h (fun v h' => Own h h' 1 5 v (L.flatten.map bv)) := by
  obtain ⟨a, c, rfl, hc1, hc2⟩ := hl.form
  have ok := (Hp.nil h none_).arg hl
  refine HC.go Try.func35 32 ?_
  refine .seq <| .r <| .w 2 .asS <| .nil ?_
  refine .seq <| .r <| .w 3 .asS <| .nil ?_
  refine .seq <| .seq <| ?_
  have ok := ok.nilC (k := 1) (e := 5)
  refine .r <| .w 4 .asI <| .nil ?_
  refine .block fun K0 hK0 => .loop (fun m s hh => ∃ (i : Nat) (a1 : Option Addr) (n1 c1 : Nat), Has s [(0, .slice a L.length c), (3, .slice a1 n1 c1), (4, .int .i64 (i : Int))] ∧ Hp h none_ [capI 1 5 (a1, n1, c1) ((L.take i).flatten.map bv)] [rdI (fun j => F j ∧ j < h.size) (fun j => E j ∧ j < h.size) (a, L.length, c) L] hh ∧ i ≤ L.length ∧ m = L.length - i) ?_ ?_
  · exact ⟨_, 0, _, _, _, ⟨rfl, rfl, rfl, trivial⟩, ok.cx (by simp), Nat.zero_le _, rfl⟩
  rintro _ _ η1 ⟨i, a1, n1, c1, hs, ok, hi, rfl⟩ J0 hJ0
  refine .frame hs fun τ => ?_
  refine .seq <| .seq <| .r <| .w 6 .mvI <| .w 7 .mvS <| .w 8 (.len T.el81) <| .w 9 .lss <| .nil ?_
  refine .cdr (fun C0 => ?_) (fun C0 => ?_)
  · --
    have hil : i = L.length := by omega
    refine .exit <| hK0 _ _ <| .seq <| .r <| .w 31 .mvS <| .w 2 .asS <| .nil ?_
    refine .ret ⟨.slice a1 n1 c1, Res.one rfl rfl, by have := ok.toOwn; rwa [hil, List.take_length] at this⟩
  have hil : i < L.length := by omega
  have hfl := flatten_take hil
  have hlen : (L.take (i + 1)).flatten.length ≤ L.flatten.length := by rw [← List.take_append_drop (i + 1) L, List.flatten_append]; simp
  refine .skip <| .seq <| .block fun K1 hK1 => .seq <| .r <| .w 5 .asI <| .nil ?_
  refine .block fun K2 hK2 => .loop (fun m s hh => ∃ (j : Nat) (a1 : Option Addr) (n1 c1 : Nat), Has s [(0, .slice a L.length c), (3, .slice a1 n1 c1), (4, .int .i64 (i : Int)), (5, .int .i64 (j : Int))] ∧ Hp h none_ [capI 1 5 (a1, n1, c1) (((L.take i).flatten ++ L[i].take j).map bv)] [rdI (fun j => F j ∧ j < h.size) (fun j => E j ∧ j < h.size) (a, L.length, c) L] hh ∧ j ≤ L[i].length ∧ m = L[i].length - j) ?_ ?_
  · exact ⟨_, 0, _, _, _, ⟨rfl, rfl, rfl, rfl, trivial⟩, ok.cx (by simp), Nat.zero_le _, rfl⟩
  rintro _ _ η2 ⟨j, a1, n1, c1, hs, ok, hj, rfl⟩ J1 hJ1
  refine .frame hs fun τ => ?_
  refine .seq <| .seq <| .r <| .w 12 .mvI <| .w 13 .mvS <| .w 14 .mvI <| ?_
  obtain ⟨bb1, oo1, rfl, fb1⟩ := ok.r0.pos (by omega)
  refine .w 15 (.ix1 i T.el81 T.sz30) <| ?_
  obtain ⟨ya1, yc1, he1, hr1⟩ := ok.r0.row (i := i) (by omega)
  have ok := ok.d0 (rdI (fun j => E j ∧ j < h.size) (fun j => E j ∧ j < h.size) (ya1, L[i].length, yc1) (L[i])) hr1 (fun _ h => .inr (h.elim id id))
  refine .w 16 (.ld T.ag30 he1) <| .w 17 (.len T.el30) <| .w 18 .lss <| .nil ?_
  refine .cdr (fun C1 => ?_) (fun C1 => ?_)
  · --
    have hjl : j = L[i].length := by omega
    have ok := ok.cx (ys := (L.take (i + 1)).flatten.map bv) (by rw [hfl, hjl, List.take_length])
    refine .exit <| hK2 _ _ <| .end <| hK1 _ _ <| .r <| .w 10 .mvI <| .w 11 .add <| .w 4 .asI <| .nil ?_
    refine .end <| hJ0 _ _ _ ⟨i + 1, _, _, _, ⟨rfl, rfl, rfl, trivial⟩, ok.tR.cx (by simp), by omega, rfl⟩ (by omega)
  have hjl : j < L[i].length := by omega
  have hbd : (L.take i).flatten.length + j + 1 ≤ 1000000000 := by rw [hfl, List.length_append] at hlen; omega
  have htk := take_next hjl
  refine .skip <| .seq <| .block fun K3 hK3 => .r <| .w 21 .mvS <| .w 22 .mvS <| .w 23 .mvI <| .w 24 (.ix1 i T.el81 T.sz30) <| ?_
  obtain ⟨ya2, yc2, he2, hr2⟩ := ok.r1.row (i := i) (by omega)
  have ok := ok.d1 (rdI (fun j => E j ∧ j < h.size) (fun j => E j ∧ j < h.size) (ya2, L[i].length, yc2) (L[i])) hr2 (fun _ h => .inr (h.elim id id))
  refine .w 25 (.ld T.ag30 he2) <| .w 26 .mvI <| ?_
  obtain ⟨bb2, oo2, rfl, fb2⟩ := ok.r0.pos (by omega)
  refine .w 27 (.ix1 j T.el30 T.sz5) <| .w 28 (.ld T.ag5 (ok.r0.u8 (i := j) (by omega))) <| .a' 29 (.lit [.tmp 28] (cs := [.int .u8 ((L[i])[j].toNat : Int)]) T.el30 T.sz5 T.zr5 ok ⟨rfl, trivial⟩) ?_
  rintro _ η3 ⟨pb1, rfl, ok, xe⟩
  refine .a' 30 (.app (news := [.int .u8 ((L[i])[j].toNat : Int)]) T.el30 T.sz5 T.by5 T.zr5 ok.n1 (ok.n1.m1).sl (oneL rfl) (by simp only [List.length_map, List.length_append, List.length_take, List.length_cons, List.length_nil]; omega)) ?_
  rintro _ η4 ⟨ya3, yn1, yc3, rfl, ok, ap⟩
  refine .w 3 .asS <| .nil ?_
  refine .end <| hK3 _ _ <| .r <| .w 19 .mvI <| .w 20 .add <| .w 5 .asI <| .nil ?_
  refine .end <| hJ1 _ _ _ ⟨j + 1, _, _, _, ⟨rfl, rfl, rfl, rfl, trivial⟩, ok.k1.tR.tR.cx (by rw [htk, ← List.append_assoc]; exact snocB), by omega, rfl⟩ (by omega)

end Go.Proofs.Ytdbiggfnnhmpiaa
