/- What is wrong with a call to a disk. Conditions: the disk's box is known, the numbers are readable. -/
import Derived.Test.YtpebbkhainpfaaaDkImp
namespace Go.Proofs.Ytpebbkhainpfaaa
open Go Go.HL
theorem RdL.ofCapI {h : Heap} {e : TypeId} {v : SV} {l : List Int} (c : Cap h 1 e (sv v) (l.map iv)) : RdL h any_ any_ v l := (RdL.of_cap1 (E := any_) (f := iv) rfl (fun _ _ _ => rfl) c).mono (fun _ _ => trivial) (fun _ h => h)
theorem wrong1 {d : Dk} {n : List UInt8} {zs : List Int} (h : n.length < 1 ∨ 32 < n.length ∨ ∃ z ∈ zs, z < 0) : wrongN d n zs = 1 := by unfold wrongN; rw [if_pos h]
theorem wrong13 {d : Dk} {n : List UInt8} {zs : List Int} (h : ¬ (n.length < 1 ∨ 32 < n.length ∨ ∃ z ∈ zs, z < 0)) (hd : d.dark = true) : wrongN d n zs = 13 := by unfold wrongN; rw [if_neg h, if_pos hd]
theorem wrong0 {d : Dk} {n : List UInt8} {zs : List Int} (h : ¬ (n.length < 1 ∨ 32 < n.length ∨ ∃ z ∈ zs, z < 0)) (hd : ¬ d.dark = true) : wrongN d n zs = 0 := by unfold wrongN; rw [if_neg h, if_neg hd]

set_option maxRecDepth 100000 in
set_option maxHeartbeats 2000000 in
theorem neg_any {h : Heap} {z : Int} :
    HC Try.prog 98 #[.int .i64 z] h (fun v h' => v = .bool (decide (z < 0)) ∧ h' = h) := by
  refine HC.go Try.func98 5 ?_
  refine .seq <| .r <| .w 2 .asB <| .nil ?_
  refine .seq <| .r <| .w 3 .mvI <| .w 4 .lss <| .w 2 .asB <| .nil ?_
  refine .ret ⟨.bool (decide (z < 0)), Res.one rfl rfl, ⟨rfl, rfl⟩⟩

set_option maxRecDepth 100000 in
set_option maxHeartbeats 2000000 in
theorem ixf_any {h : Heap} {F E : Nat → Prop} {a : Option Addr} {c : Nat} {l : List Int} (hl : RdL h F E (a, l.length, c) l) :
    HC Try.prog 117 #[.slice a l.length c, .func (.func 98) #[] #[]] h (fun v h' => ∃ i : Int, v = .int .i64 i ∧ ((0 ≤ i ∧ ∃ z ∈ l, z < 0) ∨ (i < 0 ∧ ¬ ∃ z ∈ l, z < 0)) ∧ h' = h) := by
  have hc2 := hl.m
  have hc1 : l.length ≤ c := hl.c
  simp only at hc2
  refine HC.go Try.func117 19 ?_
  refine .seq <| .r <| .w 4 .asI <| .nil ?_
  refine .seq <| .seq <| .r <| .w 6 .mvS <| .w 7 (.len T.el101) <| .w 8 .mvI <| .nil ?_
  refine .block fun K0 hK0 => .loop (fun m s hh => ∃ (i : Nat), Has s [(0, .slice a l.length c), (1, .func (.func 98) #[] #[]), (7, .int .i64 (l.length : Int)), (8, .int .i64 (i : Int))] ∧ h = hh ∧ i ≤ l.length ∧ (∀ j (hj : j < l.length), j < i → ¬ l[j] < 0) ∧ m = l.length - i) ?_ ?_
  · exact ⟨_, 0, ⟨rfl, rfl, rfl, rfl, trivial⟩, rfl, Nat.zero_le _, fun _ _ h => absurd h (by omega), rfl⟩
  rintro _ _ _ ⟨i, hs, rfl, hi, hz, rfl⟩ J0 hJ0
  refine .frame hs fun τ => ?_
  refine .seq <| .r <| .w 9 .lss <| .nil ?_
  refine .seq <| .cdr (fun C0 => ?_) (fun C0 => ?_)
  · --
    have hil : i = l.length := by omega
    refine .exit <| hK0 _ _ <| .seq <| .r <| .w 4 .asI <| .nil ?_
    refine .ret ⟨.int .i64 (-1), Res.one rfl rfl, ⟨_, rfl, .inr ⟨by decide, fun ⟨z, hzm, hz0⟩ => (by obtain ⟨j, hj, rfl⟩ := List.mem_iff_getElem.1 hzm; exact hz j hj (by omega) hz0)⟩, rfl⟩⟩
  have hil : i < l.length := by omega
  refine .skip <| .seq <| .block fun K1 hK1 => .seq <| .r <| .w 10 .mvI <| .w 5 .asI <| .nil ?_
  refine .seq <| .r <| .w 11 .mvF <| .w 12 .mvS <| .w 13 .mvI <| ?_
  obtain ⟨bb1, oo1, rfl, fb1⟩ := hl.pos (by omega)
  refine .w 14 (.ix1 i T.el101 T.sz3) <| .w 15 (.ld T.ag3 (hl.i64 (i := i) (by omega))) <| .k 16 .dyn (neg_any (z := l[i])) <| .nil ?_
  refine .cd (fun C1 => ?_) (fun C1 => ?_)
  · --
    refine .seq <| .r <| .w 17 .mvI <| .w 4 .asI <| .nil ?_
    refine .ret ⟨.int .i64 (i : Int), Res.one rfl rfl, ⟨_, rfl, .inl ⟨by omega, _, List.getElem_mem hil, C1⟩, rfl⟩⟩
  refine .skip <| .end <| hK1 _ _ <| .r <| .w 18 (.addI (b := 1)) <| .w 8 .mvI <| .nil ?_
  refine .end <| hJ0 _ _ _ ⟨i + 1, ⟨rfl, rfl, rfl, rfl, trivial⟩, rfl, by omega, fun j hj h => (by by_cases hji : j = i; (subst hji; exact C1); exact hz j hj (by omega)), rfl⟩ (by omega)

set_option maxRecDepth 100000 in
set_option maxHeartbeats 2000000 in
theorem anyneg_any {h : Heap} {F E : Nat → Prop} {a : Option Addr} {c : Nat} {l : List Int} (hl : RdL h F E (a, l.length, c) l) :
    HC Try.prog 97 #[.slice a l.length c, .func (.func 98) #[] #[]] h (fun v h' => v = .bool (decide (∃ z ∈ l, z < 0)) ∧ h' = h) := by
  have hc2 := hl.m
  have hc1 : l.length ≤ c := hl.c
  simp only at hc2
  refine HC.go Try.func97 9 ?_
  refine .seq <| .r <| .w 4 .asB <| .nil ?_
  refine .seq <| .r <| .w 5 .mvS <| .w 6 .mvF <| .c' 7 .func (ixf_any (a := a) (c := c) (l := l) hl) ?_
  rintro _ _ ⟨ix1, rfl, hix1, heq⟩
  obtain rfl := heq.symm
  refine .w 8 .geq <| .w 4 .asB <| .nil ?_
  refine .ret ⟨.bool (decide (0 ≤ ix1)), Res.one rfl rfl, ⟨congrArg Value.bool (decide_eq_decide.2 ⟨fun h1 => hix1.elim (·.2) fun h2 => absurd h1 (by omega), fun h1 => hix1.elim (·.1) fun h2 => absurd h1 h2.2⟩), rfl⟩⟩

set_option maxRecDepth 100000 in
set_option maxHeartbeats 2000000 in
theorem wrong_any {h : Heap} {F E : Nat → Prop} {d : Nat} {r : RD} {n : List UInt8} {a : Option Addr} {c : Nat} {l : List Int} (hd : (dboxI d r).p h) (hl : RdL h F E (a, l.length, c) l) :
    HC Try.prog 65 #[.pointer (some ⟨d, 0, none⟩), .string (BA n), .slice a l.length c] h (fun v h' => v = .int .i64 (wrongN r.abs n l : Int) ∧ h' = h) := by
  have hc2 := hl.m
  have hc1 : l.length ≤ c := hl.c
  simp only at hc2
  refine HC.go Try.func65 28 ?_
  refine .seq <| .r <| .w 6 .asI <| .nil ?_
  refine .seq <| .block fun K0 hK0 => .seq <| .r <| .w 8 .mvP <| .w 9 (.pEqS T.pt57) <| .w 7 .asB <| .nil ?_
  refine .cf <| .seq <| .r <| .w 11 .mvT <| .w 12 (.lenT T.st9) <| .w 13 .lss <| .w 14 .mvB <| .sd (fun G14 => ?_) (fun G14 => ?_)
  ·
    refine .x 15 <| .x 16 <| .x 17 <| .w 18 .pkt <| .w 19 .mvB <| .x 20 <| .x 21 <| .w 22 .pkt <| .w 10 .asB <| .nil ?_
    refine .ct <| .seq <| .r <| .w 6 .asI <| .nil ?_
    refine .ret ⟨.int .i64 1, Res.one rfl rfl, ⟨by rw [wrong1 (by first | exact .inl (by omega) | exact .inr (.inl (by omega)) | exact .inr (.inr C1))]; rfl, rfl⟩⟩
  refine .w 15 .mvT <| .w 16 (.lenT T.st9) <| .w 17 .gtr <| .w 18 .pkf <| .w 19 .mvB <| .sd (fun G19 => ?_) (fun G19 => ?_)
  ·
    refine .x 20 <| .x 21 <| .w 22 .pkt <| .w 10 .asB <| .nil ?_
    refine .ct <| .seq <| .r <| .w 6 .asI <| .nil ?_
    refine .ret ⟨.int .i64 1, Res.one rfl rfl, ⟨by rw [wrong1 (by first | exact .inl (by omega) | exact .inr (.inl (by omega)) | exact .inr (.inr C1))]; rfl, rfl⟩⟩
  refine .w 20 .mvS <| .k 21 .func (anyneg_any (a := a) (c := c) (l := l) hl) <| .w 22 .pkf <| .w 10 .asB <| .nil ?_
  refine .cd (fun C1 => ?_) (fun C1 => ?_)
  · --
    refine .seq <| .r <| .w 6 .asI <| .nil ?_
    refine .ret ⟨.int .i64 1, Res.one rfl rfl, ⟨by rw [wrong1 (by first | exact .inl (by omega) | exact .inr (.inl (by omega)) | exact .inr (.inr C1))]; rfl, rfl⟩⟩
  refine .seq <| .r <| .w 24 .mvP <| .w 25 .nil <| .w 26 (.fa T.fd113_1) <| .w 27 (.ldx T.ag4 hd) <| .w 23 .asB <| .nil ?_
  refine .cond (fun C2 => ?_) (fun C2 => ?_)
  · --
    refine .seq <| .r <| .w 6 .asI <| .nil ?_
    refine .ret ⟨.int .i64 13, Res.one rfl rfl, ⟨by rw [wrong13 (by rintro (h1 | h1 | h1); (omega); (omega); exact absurd h1 C1) (by show r.dark = true; exact C2)]; rfl, rfl⟩⟩
  refine .skip <| .end <| hK0 _ _ <| .seq <| .r <| .w 6 .asI <| .nil ?_
  refine .ret ⟨.int .i64 0, Res.one rfl rfl, ⟨by rw [wrong0 (by rintro (h1 | h1 | h1); (omega); (omega); exact absurd h1 C1) (by show ¬ r.dark = true; rw [C2]; decide)]; rfl, rfl⟩⟩

set_option maxRecDepth 100000 in
set_option maxHeartbeats 2000000 in
theorem wrongNil_any {h : Heap} {n : List UInt8} {v : Value} :
    HC Try.prog 65 #[.pointer none, .string (BA n), v] h (fun v h' => v = .int .i64 2 ∧ h' = h) := by
  refine HC.go Try.func65 28 ?_
  refine .seq <| .r <| .w 6 .asI <| .nil ?_
  refine .seq <| .block fun K0 hK0 => .seq <| .r <| .w 8 .mvP <| .w 9 (.pEqN T.pt57) <| .w 7 .asB <| .nil ?_
  refine .ct <| .seq <| .r <| .w 6 .asI <| .nil ?_
  refine .ret ⟨.int .i64 2, Res.one rfl rfl, ⟨rfl, rfl⟩⟩

end Go.Proofs.Ytpebbkhainpfaaa
