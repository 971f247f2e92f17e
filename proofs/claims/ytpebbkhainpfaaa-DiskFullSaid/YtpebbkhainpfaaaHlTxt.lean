/- Strings as rows of bytes: their length, their order, maps by them; calls of function values. Conditions: those that each rule names. -/
import Derived.Test.YtpebbkhainpfaaaHlMapC
import Derived.Test.YtpebbkhainpfaaaHlStr
import Derived.Sort.Walk0
namespace Go.HL
open Go Go.MapKept
theorem BA_inj {a b : List UInt8} (h : BA a = BA b) : a = b := by have := congrArg ByteArray.toList h; simpa using this
theorem BA_size (l : List UInt8) : (BA l).size = l.length := by simp [BA, ByteArray.size]
theorem BA_of (s : ByteArray) : s = BA s.data.toList := by cases s; simp [BA]
theorem BA_beq (a b : List UInt8) : ((BA a).toList == (BA b).toList) = decide (a = b) := by rw [BA_toList, BA_toList]; by_cases h : a = b <;> simp [h]
theorem BA_less (a b : List UInt8) : Op.bytesLess (BA a).toList (BA b).toList = decide (a < b) := by rw [BA_toList, BA_toList, Go.Proofs.bytesLess_eq]
theorem list_tri : ∀ a b : List UInt8, a < b ∨ a = b ∨ b < a
  | [], [] => .inr (.inl rfl)
  | [], _ :: _ => .inl (by simp)
  | _ :: _, [] => .inr (.inr (by simp))
  | x :: a, y :: b => by
    rw [List.cons_lt_cons_iff, List.cons_lt_cons_iff]
    rcases Nat.lt_trichotomy x.toNat y.toNat with h | h | h
    · exact .inl (.inl (UInt8.lt_iff_toNat_lt.2 h))
    · have h := UInt8.toNat_inj.1 h
      subst h
      rcases list_tri a b with h | h | h
      · exact .inl (.inr ⟨rfl, h⟩)
      · exact .inr (.inl (by rw [h]))
      · exact .inr (.inr (.inr ⟨rfl, h⟩))
    · exact .inr (.inr (.inl (UInt8.lt_iff_toNat_lt.2 h)))
section
variable {P : Program} {s : Slots} {h : Heap} {d : Option Tmp} {ty : TypeId} {pos : String} {af : Array Edge} {g : Option (Nat × Bool)} {x y : Operand} {t u : TypeId} {a b : List UInt8}
theorem OpV.lenT (ht : stB P t = true) (hx : ev s x = .string (BA a) := by exact rfl) : OpV P ⟨d, .call ⟨.builtin .len, #[x], #[t]⟩, ty, pos, af, g⟩ s h (.int .i64 (a.length : Nat)) := fun w _ => by
  simp [execOp, resolve, invoke, builtin, hx, Builtin.len_, goInt, BA_size, run_und (stB_iff ht)]
theorem OpV.tEqB (hx : ev s x = .string (BA a) := by exact rfl) (hy : ev s y = .string (BA b) := by exact rfl) : OpV P ⟨d, .binOp .eql t x y u, ty, pos, af, g⟩ s h (.bool (decide (a = b))) := V.stEql hx hy (BA_beq a b)
theorem OpV.tNeB (hx : ev s x = .string (BA a) := by exact rfl) (hy : ev s y = .string (BA b) := by exact rfl) : OpV P ⟨d, .binOp .neq t x y u, ty, pos, af, g⟩ s h (.bool (decide (a ≠ b))) := V.stNeq hx hy (by rw [BA_beq]; by_cases h : a = b <;> simp [h])
theorem OpV.tLtB (hx : ev s x = .string (BA a) := by exact rfl) (hy : ev s y = .string (BA b) := by exact rfl) : OpV P ⟨d, .binOp .lss t x y u, ty, pos, af, g⟩ s h (.bool (decide (a < b))) := fun w _ => by
  have := BA_less a b
  simp only [BA_toList] at this
  simp [execOp, hx, hy, eqGuard, binOp, Op.stringOp, this]
theorem OpV.tGtB (hx : ev s x = .string (BA a) := by exact rfl) (hy : ev s y = .string (BA b) := by exact rfl) : OpV P ⟨d, .binOp .gtr t x y u, ty, pos, af, g⟩ s h (.bool (decide (b < a))) := fun w _ => by
  have h1 := BA_less a b
  simp only [BA_toList] at h1
  have h2 : (!(decide (a < b) || a == b)) = decide (b < a) := by
    by_cases h : a = b
    · subst h; simp [List.lt_irrefl]
    · rcases list_tri a b with h3 | h3 | h3
      · simp [h, h3, List.lt_asymm h3]
      · exact absurd h3 h
      · simp [h, h3, List.lt_asymm h3]
  simp [execOp, hx, hy, eqGuard, binOp, Op.stringOp, h1]
  simpa using h2
end
@[reducible] def kvB (n : List UInt8) : Value := .string (BA n)
theorem KV.ba : KV kvB .string := ⟨fun a b h => BA_inj (KV.string.inj _ _ h), fun a => KV.string.key (BA a)⟩
theorem sbB (a : List UInt8) (n : Nat) : Instr.sameBits n (kvB a) (kvB a) = true := V.sbT (BA a) n
/-- A name, in a row of strings. -/
structure Nm where
  n : List UInt8
instance : Rep Nm := Rep.flat (fun a => kvB a.n) fun _ => rfl
theorem RdL.nm {h : Heap} {F E : Nat → Prop} {L : List (List UInt8)} {b o n c : Nat} (r : RdL h F E (some ⟨b, o, none⟩, n, c) (L.map Nm.mk)) {i : Nat} (hi : i < L.length) : cell h b (o + i) = some (.string (BA L[i])) := by
  obtain ⟨cs, h1, h2⟩ := r.el (i := i) (by simpa using hi)
  have h3 : cs = [kvB L[i]] := by have h4 : cs = [kvB ((L.map Nm.mk)[i]'(by simpa using hi)).n] := h1; simpa using h4
  subst h3
  have := h2 0 _ rfl
  simpa [Rep.k] using this
/-- A call of a function value. -/
theorem OpC.dyn {P : Program} {s : Slots} {h : Heap} {d : Option Tmp} {ty : TypeId} {pos : String} {af : Array Edge} {g : Option (Nat × Bool)} {x : Operand} {xs : Array Operand} {ts : Array TypeId} {f : FuncId} {caps : Array Value} {args : List Value} (hx : ev s x = .func (.func f) #[] caps := by exact rfl) (ha : xs.toList.map (ev s) ++ caps.toList = args := by exact rfl) :
    OpC P ⟨d, .call ⟨.value x, xs, ts⟩, ty, pos, af, g⟩ s h f args.toArray := fun w _ hc => by
  have ha' : xs.map (ev s) ++ caps = args.toArray := by rw [← ha]; apply Array.ext'; simp
  rw [← ha']
  obtain ⟨fn, hf, hb, hbody⟩ := hc
  have h2' : ¬ fn.name = "runtime.NumGoroutine" := by simpa using hb
  have h3' : ¬ fn.body = none := by intro e; simp [e] at hbody
  simp [execOp, resolve, hx, Deferred.ofValue, invoke, callFunc, hf, h2', h3']
end Go.HL
