/- More rules: slices of arrays, boxes as slices, rows of slices from what was made. Conditions: those that each rule names. -/
import Derived.Test.YtpebbkhainpfaaaHlBits
namespace Go.HL
open Go
namespace OpV
/-- a[:] of an array in memory. -/
theorem slA {P : Program} {s : Slots} {h : Heap} {d : Option Tmp} {ty : TypeId} {pos : String} {af : Array Edge} {g : Option (Nat × Bool)} {x : Operand} {t e : TypeId} {b o n k : Nat} (ht : arB P t = some (n, e)) (hk : szB P e = some k) (hn : 0 < n := by decide) (hx : ev s x = .pointer (some ⟨b, o, none⟩) := by exact rfl) :
    OpV P ⟨d, .slice t x none none none, ty, pos, af, g⟩ s h (.slice (some ⟨b, o, none⟩) n n) := fun w _ => by
  have h1 : ((⟨b, o, none⟩ : Addr).add (0 * k)) = ⟨b, o, none⟩ := by simp [Addr.add_zero']
  have h2 : ¬ n = 0 := by omega
  simp [execOp, hx, Instr.sliceAt, run_und (arB_iff ht), Instr.sureAddr, Instr.sliceBounds, Instr.sliceBound, run_szB hk]
  intro _; exact Addr.add_zero' _
/-- An array's literal. -/
theorem bdA {P : Program} {s : Slots} {h : Heap} {d : Option Tmp} {ty : TypeId} {pos : String} {af : Array Edge} {g : Option (Nat × Bool)} {t e : TypeId} {n k : Nat} {l : List (Nat × Operand)} {z : Value} (cs : Array Value) (hz : zrB P t = some z) (ht : arB P t = some (n, e)) (hk : szB P e = some k)
    (hf : Instr.fill (fun i => some (i * k, k)) z.cells (l.map fun p => (p.1, ev s p.2)) = some cs) : OpV P ⟨d, .build t l.toArray, ty, pos, af, g⟩ s h (.agg cs) := fun w _ => by
  simp [execOp, Instr.build, run_zrB hz, run_und (arB_iff ht), run_szB hk, hf]
end OpV
section
variable {h0 h : Heap} {D : Nat → Prop} {M R : List Itm} {b k n : Nat} {t : TypeId} {cs : List Value}
/-- A box, as the slice of its cells. -/
theorem Hp.boxC (ok : Hp h0 D (boxI b t cs :: M) R h) (hn : cs.length = n * k := by exact rfl) (hm : n ≤ 9223372036854775807 := by decide) : Hp h0 D (capI k t (some ⟨b, 0, none⟩, n, n) cs :: M) R h :=
  ok.re _ ⟨_, n, n, rfl, Nat.le_refl _, hm, hn, .inr ⟨b, 0, cs.toArray, (0, 0), rfl, ok.m0, by simp [hn], fzOk_zero _, by simp [← hn]⟩⟩ (fun j hj => by
    obtain ⟨o, n', c', hv⟩ := hj; injection hv with h1 h2 h3; injection h1 with h1; injection h1 with h1; exact h1.symm)
variable {a c : Itm} {ys : List Value}
theorem Hp.bx (ok : Hp h0 D (boxI b t cs :: M) R h) (q : cs = ys) : Hp h0 D (boxI b t ys :: M) R h := q ▸ ok
theorem Hp.bx1 (ok : Hp h0 D (a :: boxI b t cs :: M) R h) (q : cs = ys) : Hp h0 D (a :: boxI b t ys :: M) R h := q ▸ ok
theorem Hp.bx2 (ok : Hp h0 D (a :: c :: boxI b t cs :: M) R h) (q : cs = ys) : Hp h0 D (a :: c :: boxI b t ys :: M) R h := q ▸ ok
end
/-- A row of slices that was made, by the readings of each. -/
def Rows (h : Heap) : List SV → List (List UInt8) → Prop
  | [], [] => True
  | x :: xs, l :: ls => (∃ F E, RdL h F E x l) ∧ Rows h xs ls
  | _, _ => False
@[reducible] def any_ : Nat → Prop := fun _ => True
theorem Rows.all {h : Heap} : ∀ {xs : List SV} {ls : List (List UInt8)}, Rows h xs ls → All2 (Rep.rd h any_) (xs.map fun x => [sv x]) ls
  | [], [], _ => ⟨rfl, fun i hi => by simp at hi⟩
  | x :: xs, l :: ls, ⟨⟨F, E, r⟩, hr⟩ => by
    have ih := Rows.all hr
    refine ⟨by simpa using ih.1, fun i hi hj => ?_⟩
    cases i with
    | zero => exact ⟨x, rfl, r.mono (fun _ _ => trivial) (fun _ _ => trivial)⟩
    | succ i => exact ih.2 i (by simpa using hi) (by simpa using hj)
  | [], _ :: _, h => h.elim
  | _ :: _, [], h => h.elim
theorem flat_sing (xs : List SV) : (xs.map fun x => [sv x]).flatten = xs.map sv := by induction xs with
  | nil => rfl
  | cons x xs ih => simp [ih]
theorem RdL.rows {h : Heap} {e : TypeId} {v : SV} {xs : List SV} {ls : List (List UInt8)} (c : Cap h 1 e (sv v) (xs.map sv)) (r : Rows h xs ls) : RdL h any_ any_ v ls :=
  (RdL.of_cap (css := xs.map fun x => [sv x]) (by rw [flat_sing]; exact c) r.all).mono (fun _ _ => trivial) (fun _ h => h)
theorem RdL.ofCapB {h : Heap} {e : TypeId} {v : SV} {l : List UInt8} (c : Cap h 1 e (sv v) (l.map bv)) : RdL h any_ any_ v l := (RdL.of_cap1 (f := bv) rfl (fun _ _ _ => rfl) c).mono (fun _ _ => trivial) (fun _ h => h)
/-- What is not the one block that might turn is new. -/
theorem Hp.freshD {h0 h : Heap} {M R : List Itm} {a : Itm} {r : Nat} {t : TypeId} {cs : List Value} (ok : Hp h0 (fun j => j = r) (a :: boxI r t cs :: M) R h) : ∀ j, a.F j → h0.size ≤ j := fun j hj => by
  rcases ((ok.m a List.mem_cons_self).2 j hj).2 with h1 | h1
  · subst h1; exact absurd rfl ((List.pairwise_cons.1 ok.mm).1 _ List.mem_cons_self _ hj)
  · exact h1
end Go.HL
