/- Rows of strings that may turn: read, written, cleared. Conditions: those that each rule names. -/
import Derived.Test.YtpebbkhainpfaaaHlTxt
import Derived.Test.YtpebbkhainpfaaaHlZero
namespace Go.HL
open Go
theorem RdL.ofCapN {h : Heap} {e : TypeId} {v : SV} {S : List (List UInt8)} (c : Cap h 1 e (sv v) (S.map kvB)) : RdL h (blkC (sv v)) none_ v (S.map Nm.mk) :=
  RdL.of_cap1 (f := fun a : Nm => kvB a.n) rfl (fun _ _ _ => rfl) (by simpa [Function.comp_def] using c)
theorem Cap.nm {h : Heap} {e : TypeId} {S : List (List UInt8)} {b o n c : Nat} (r : Cap h 1 e (.slice (some ⟨b, o, none⟩) n c) (S.map kvB)) {i : Nat} (hi : i < S.length) : cell h b (o + i) = some (.string (BA S[i])) := (RdL.ofCapN (v := (some ⟨b, o, none⟩, n, c)) r).nm hi
theorem Cap.lenN {h : Heap} {e : TypeId} {a : Option Addr} {n c : Nat} {S : List (List UInt8)} (r : Cap h 1 e (.slice a n c) (S.map kvB)) : n = S.length := by
  have := r.sl.cells.1
  simp only [List.length_map, Nat.mul_one] at this; exact this.symm
theorem OpUR.sxT {P : Program} {s : Slots} {h0 h : Heap} {D : Nat → Prop} {M R : List Itm} {d : Option Tmp} {ty : TypeId} {pos : String} {af : Array Edge} {g : Option (Nat × Bool)} {x y : Operand} {t : TypeId} {b o n c q : Nat} {e : TypeId} {S : List (List UInt8)} {a : List UInt8} (ht : szB P t = some 1) (ok : Hp h0 D (capI 1 e (some ⟨b, o, none⟩, n, c) (S.map kvB) :: M) R h) (hq : q < n) (hx : ev s x = .pointer (some ⟨b, o + q, none⟩) := by exact rfl) (hy : ev s y = .string (BA a) := by exact rfl) :
    OpUR P ⟨d, .store t x y, ty, pos, af, g⟩ s h (fun h' => Hp h0 D (capI 1 e (some ⟨b, o, none⟩, n, c) ((S.set q a).map kvB) :: M) R h' ∧ Chg (fun x => x = b) h h') := by
  rw [List.map_set]
  exact OpUR.sx (k := 1) ht ok (by omega) hx hy rfl
/-- clear(s[i:]). -/
theorem OpA.clr {P : Program} {s : Slots} {h0 h : Heap} {D : Nat → Prop} {M R : List Itm} {d : Option Tmp} {ty : TypeId} {pos : String} {af : Array Edge} {g : Option (Nat × Bool)} {x : Operand} {t e : TypeId} {a : Option Addr} {n c : Nat} {S : List (List UInt8)} {z : List UInt8} (i : Nat)
    (ht : elB P t = some e) (hz : zrB P e = some (.string (BA z))) (ok : Hp h0 D (capI 1 e (a, n, c) (S.map kvB) :: M) R h) (hx : ev s x = .slice (cutA a i c 1) (n - i) (c - i)) (hi : i ≤ n) :
    OpA P ⟨d, .call ⟨.builtin .clear, #[x], #[t]⟩, ty, pos, af, g⟩ s h (fun v h' => v = .tuple #[] ∧ Hp h0 D (capI 1 e (a, n, c) ((S.take i ++ List.replicate (n - i) z).map kvB) :: M) R h') := fun E w at' => by
  have hc : Cap h 1 e (.slice a n c) (S.map kvB) := ok.m0
  have hnS : n = S.length := Cap.lenN hc
  by_cases hni : n - i = 0
  · have hin : i = n := by omega
    refine ⟨.tuple #[], h, w, ⟨rfl, ?_⟩, at', ?_⟩
    · rw [hni, List.replicate_zero, List.append_nil, List.take_of_length_le (by omega)]; exact ok
    · rw [hni] at hx
      have : ∀ (ao : Option Addr) (m : Nat), (Builtin.clear_ #[t] ty #[Value.slice ao 0 m]).run P w = Result.ok (.tuple #[]) w := fun ao m => by
        cases ao <;> simp [Builtin.clear_, run_und (elB_iff ht)]
      simp [execOp, resolve, invoke, builtin, hx, this]
  · obtain ⟨a1, n1, c1, hv, hnc, _, hl, hr⟩ := id hc
    injection hv with e1 e2 e3; subst e1 e2 e3
    rcases hr with ⟨rfl, rfl⟩ | ⟨b, o, cs, fz, rfl, _⟩
    · omega
    · have hzc : (Builtin.zeroCells (Value.string (BA z)).cells (n - i)).toList = List.replicate (n - i) (.string (BA z)) := zeroCells_eq _ _ rfl
      obtain ⟨h', w', hcap, hchg, at2, hr⟩ := run_storeAt (P := P) (i := i) hc (vs := List.replicate (n - i) (.string (BA z))) (by simp; omega) (fun u hu => by rw [List.eq_of_mem_replicate hu]; rfl) at'
      have hxs : spl (S.map kvB) i (List.replicate (n - i) (.string (BA z))) = (S.take i ++ List.replicate (n - i) z).map kvB := by
        unfold spl
        rw [List.drop_eq_nil_of_le (by simp; omega), List.append_nil, List.map_append, List.map_take, List.map_replicate]
      rw [hxs] at hcap
      refine ⟨.tuple #[], h', w', ⟨rfl, ok.upd hchg (fun j e => by subst e; exact ⟨o, n, c, rfl⟩) _ hcap (fun _ x => .inl x)⟩, at2, ?_⟩
      rw [cutA_some (by omega)] at hx
      obtain ⟨m, hm⟩ : ∃ m, n - i = m + 1 := ⟨n - i - 1, by omega⟩
      rw [hm] at hx hzc hr
      rw [Nat.mul_one] at hx
      simp [execOp, resolve, invoke, builtin, hx, Builtin.clear_, run_und (elB_iff ht), run_zrB hz, hzc, hr]
end Go.HL
