/- Operations on the bits of numbers that are not below 0, as rules of the logic. Conditions: those that each rule names. More rules: slices of arrays, boxes as slices, rows of slices from what was made. Conditions: those that each rule names. A slice that grows by what its elements lead to, and a slice that is a part of it from its head on. Conditions: those that each fact names. Maps as separate items: made, put into, looked up, deleted from, looped over. Conditions: those that each rule names. Bytes and strings: a slice of bytes that becomes a string, and one that is marked as a constant's. Conditions: those that each rule names. Strings as rows of bytes: their length, their order, maps by them; calls of function values. Conditions: those that each rule names. Several items as one; what a call may turn alone, taken from and put back into what the caller has. Conditions: those that each fact names. The disk's files in plain terms, as the program has them. Conditions: those that each fact names. -/
import Derived.Test.YtpebbkhainpfaaaPk3
import Derived.Lib.MakeNoZero
import Derived.Laws.BytesString
import Derived.Laws.Strings
import Derived.Sort.Walk0
namespace Go.HL
open Go

theorem wrap_nat {k : IntKind} (hk : k.signed = false) (n : Nat) : k.wrap (n : Int) = ((n % 2 ^ k.bits : Nat) : Int) := by
  unfold IntKind.wrap
  simp [hk]
theorem wrap_lt {k : IntKind} (hk : k.signed = false) {n : Nat} (h : n < 2 ^ k.bits) : k.wrap (n : Int) = (n : Int) := by
  rw [wrap_nat hk, Nat.mod_eq_of_lt h]
theorem bv_nat (w n : Nat) : BitVec.ofInt w (n : Int) = BitVec.ofNat w n := by simp
theorem byte_lt (x : UInt8) : x.toNat < 256 := x.toNat_lt
namespace OpV
variable {P : Program} {s : Slots} {h : Heap} {d : Option Tmp} {ty : TypeId} {pos : String} {af : Array Edge} {g : Option (Nat × Bool)} {x y c : Operand} {t u : TypeId} {k : IntKind} {a b : Nat}
section
variable {M : Nat}
theorem bxor (hM : M = 2 ^ k.bits) (hk : k.signed = false) (hx : ev s x = .int k (a : Nat) := by exact rfl) (hy : ev s y = .int k (b : Nat) := by exact rfl) (ha : a < M := by first | omega | exact Nat.lt_trans (byte_lt _) (by decide)) (hb : b < M := by first | omega | exact Nat.lt_trans (byte_lt _) (by decide)) :
    OpV P ⟨d, .binOp .xor t x y u, ty, pos, af, g⟩ s h (.int k ((a ^^^ b : Nat) : Int)) := fun w _ => by
  subst hM
  have h1 : a ^^^ b < 2 ^ k.bits := Nat.xor_lt_two_pow ha hb
  have h2 : (BitVec.ofNat k.bits a ^^^ BitVec.ofNat k.bits b).toNat = a ^^^ b := by simp [Nat.mod_eq_of_lt ha, Nat.mod_eq_of_lt hb]
  simp only [execOp, hx, hy, binOp, Op.intBits, bv_nat, h2, wrap_lt hk h1]
  simp [V.eqG]
theorem band (hM : M = 2 ^ k.bits) (hk : k.signed = false) (hx : ev s x = .int k (a : Nat) := by exact rfl) (hy : ev s y = .int k (b : Nat) := by exact rfl) (ha : a < M := by first | omega | exact Nat.lt_trans (byte_lt _) (by decide)) (hb : b < M := by first | omega | exact Nat.lt_trans (byte_lt _) (by decide)) :
    OpV P ⟨d, .binOp .and t x y u, ty, pos, af, g⟩ s h (.int k ((a &&& b : Nat) : Int)) := fun w _ => by
  subst hM
  have h1 : a &&& b < 2 ^ k.bits := Nat.and_lt_two_pow a hb
  have h2 : (BitVec.ofNat k.bits a &&& BitVec.ofNat k.bits b).toNat = a &&& b := by simp [Nat.mod_eq_of_lt ha, Nat.mod_eq_of_lt hb]
  simp only [execOp, hx, hy, binOp, Op.intBits, bv_nat, h2, wrap_lt hk h1]
  simp [V.eqG]
theorem bor (hM : M = 2 ^ k.bits) (hk : k.signed = false) (hx : ev s x = .int k (a : Nat) := by exact rfl) (hy : ev s y = .int k (b : Nat) := by exact rfl) (ha : a < M := by first | omega | exact Nat.lt_trans (byte_lt _) (by decide)) (hb : b < M := by first | omega | exact Nat.lt_trans (byte_lt _) (by decide)) :
    OpV P ⟨d, .binOp .or t x y u, ty, pos, af, g⟩ s h (.int k ((a ||| b : Nat) : Int)) := fun w _ => by
  subst hM
  have h1 : a ||| b < 2 ^ k.bits := Nat.or_lt_two_pow ha hb
  have h2 : (BitVec.ofNat k.bits a ||| BitVec.ofNat k.bits b).toNat = a ||| b := by simp [Nat.mod_eq_of_lt ha, Nat.mod_eq_of_lt hb]
  simp only [execOp, hx, hy, binOp, Op.intBits, bv_nat, h2, wrap_lt hk h1]
  simp [V.eqG]
/-- n & (n - 1) and the like, at ints that are not below 0. -/
theorem bandI {z1 z2 : Int} (a b : Nat) (hx : ev s x = .int .i64 z1 := by exact rfl) (hy : ev s y = .int .i64 z2 := by exact rfl) (hab : z1 = a ∧ z2 = b ∧ a < 9223372036854775808 ∧ b < 9223372036854775808 := by omega) :
    OpV P ⟨d, .binOp .and t x y u, ty, pos, af, g⟩ s h (.int .i64 ((a &&& b : Nat) : Int)) := fun w _ => by
  obtain ⟨rfl, rfl, ha, hb⟩ := hab
  have h1 : a &&& b < 2 ^ 63 := Nat.and_lt_two_pow a hb
  have h2 : (BitVec.ofNat 64 a &&& BitVec.ofNat 64 b).toNat = a &&& b := by simp [Nat.mod_eq_of_lt (show a < 2 ^ 64 by omega), Nat.mod_eq_of_lt (show b < 2 ^ 64 by omega)]
  have h3 : IntKind.i64.wrap ((a &&& b : Nat) : Int) = ((a &&& b : Nat) : Int) := IntWalk.i64_in _ (by omega)
  have h4 : (BitVec.ofInt IntKind.i64.bits (a : Int) &&& BitVec.ofInt IntKind.i64.bits (b : Int)).toNat = a &&& b := by rw [bv_nat, bv_nat]; exact h2
  simp only [execOp, hx, hy, binOp, Op.intBits, h4, h3]
  simp [V.eqG]
theorem addn (hM : M = 2 ^ k.bits) (hk : k.signed = false) (hx : ev s x = .int k (a : Nat) := by exact rfl) (hy : ev s y = .int k (b : Nat) := by exact rfl) :
    OpV P ⟨d, .binOp .add t x y u, ty, pos, af, g⟩ s h (.int k (((a + b) % M : Nat) : Int)) := by
  subst hM
  have := V.add_w (P := P) (h := h) (d := d) (ty := ty) (pos := pos) (af := af) (g := g) (t := t) (u := u) hx hy
  rwa [← Int.natCast_add, wrap_nat hk] at this
theorem muln (hM : M = 2 ^ k.bits) (hk : k.signed = false) (hx : ev s x = .int k (a : Nat) := by exact rfl) (hy : ev s y = .int k (b : Nat) := by exact rfl) :
    OpV P ⟨d, .binOp .mul t x y u, ty, pos, af, g⟩ s h (.int k (((a * b) % M : Nat) : Int)) := by
  subst hM
  have := V.mul_w (P := P) (h := h) (d := d) (ty := ty) (pos := pos) (af := af) (g := g) (t := t) (u := u) hx hy
  rwa [← Int.natCast_mul, wrap_nat hk] at this
/-- A difference that is not below 0. -/
theorem subn (hM : M = 2 ^ k.bits) (hk : k.signed = false) (hx : ev s x = .int k (a : Nat) := by exact rfl) (hy : ev s y = .int k (b : Nat) := by exact rfl) (ha : a < M := by omega) (hb : b ≤ a := by omega) :
    OpV P ⟨d, .binOp .sub t x y u, ty, pos, af, g⟩ s h (.int k ((a - b : Nat) : Int)) := by
  subst hM
  have := V.sub_w (P := P) (h := h) (d := d) (ty := ty) (pos := pos) (af := af) (g := g) (t := t) (u := u) hx hy
  rwa [← Int.ofNat_sub hb, wrap_lt hk (by omega)] at this
theorem shrn {ky : IntKind} (hM : M = 2 ^ k.bits) (hx : ev s x = .int k (a : Nat) := by exact rfl) (hy : ev s y = .int ky (b : Nat) := by exact rfl) (ha : a < M := by omega) :
    OpV P ⟨d, .binOp .shr t x y u, ty, pos, af, g⟩ s h (.int k ((a / 2 ^ b : Nat) : Int)) := fun w _ => by
  subst hM
  have h0 : ¬ ((b : Int) < 0) := by omega
  have h1 : (a : Int).fdiv (2 ^ min b k.bits) = ((a / 2 ^ b : Nat) : Int) := by
    have e : ((2 : Int) ^ min b k.bits) = ((2 ^ min b k.bits : Nat) : Int) := by simp
    rw [e, ← Int.ofNat_fdiv]
    congr 1
    by_cases hb : b ≤ k.bits
    · rw [Nat.min_eq_left hb]
    · rw [Nat.min_eq_right (by omega), Nat.div_eq_of_lt ha, Nat.div_eq_of_lt (Nat.lt_of_lt_of_le ha (Nat.pow_le_pow_right (by omega) (by omega)))]
  simp [execOp, hx, hy, V.eqG, binOp, Op.shift, h0, h1]
theorem shln {ky : IntKind} (hM : M = 2 ^ k.bits) (hk : k.signed = false) (hx : ev s x = .int k (a : Nat) := by exact rfl) (hy : ev s y = .int ky (b : Nat) := by exact rfl) (hb : b ≤ k.bits := by decide) :
    OpV P ⟨d, .binOp .shl t x y u, ty, pos, af, g⟩ s h (.int k ((a * 2 ^ b % M : Nat) : Int)) := fun w _ => by
  subst hM
  have h0 : ¬ ((b : Int) < 0) := by omega
  have h1 : k.wrap ((a : Int) * 2 ^ min b k.bits) = ((a * 2 ^ b % 2 ^ k.bits : Nat) : Int) := by
    rw [Nat.min_eq_left hb]
    have e : (a : Int) * 2 ^ b = ((a * 2 ^ b : Nat) : Int) := by simp
    rw [e, wrap_nat hk]
  simp [execOp, hx, hy, V.eqG, binOp, Op.shift, h0]
  simpa using h1
theorem quon (hM : M = 2 ^ k.bits) (hk : k.signed = false) (hx : ev s x = .int k (a : Nat) := by exact rfl) (hy : ev s y = .int k (b : Nat) := by exact rfl) (ha : a < M := by omega) (hb : 1 ≤ b := by omega) :
    OpV P ⟨d, .binOp .quo t x y u, ty, pos, af, g⟩ s h (.int k ((a / b : Nat) : Int)) := fun w _ => by
  subst hM
  have h0 : ¬ (b = 0) := by omega
  have h1 : k.wrap ((a : Int) / b) = ((a / b : Nat) : Int) := by
    have e : (a : Int) / b = ((a / b : Nat) : Int) := rfl
    rw [e, wrap_lt hk (Nat.lt_of_le_of_lt (Nat.div_le_self _ _) ha)]
  simp [execOp, hx, hy, V.eqG, binOp, Op.intDiv, h0]
  exact h1
theorem remn (hx : ev s x = .int k (a : Nat) := by exact rfl) (hy : ev s y = .int k (b : Nat) := by exact rfl) (hb : 1 ≤ b := by omega) :
    OpV P ⟨d, .binOp .rem t x y u, ty, pos, af, g⟩ s h (.int k ((a % b : Nat) : Int)) := V.rem hx hy (by omega)
/-- ^x. -/
theorem cpl (hM : M = 2 ^ k.bits) (hk : k.signed = false) (hx : ev s x = .int k (a : Nat) := by exact rfl) (ha : a < M := by omega) :
    OpV P ⟨d, .unOp .xor t x, ty, pos, af, g⟩ s h (.int k ((M - 1 - a : Nat) : Int)) := fun w _ => by
  subst hM
  have h1 : (BitVec.ofInt k.bits k.max ^^^ BitVec.ofInt k.bits (a : Int)).toNat = 2 ^ k.bits - 1 - a := by
    have e1 : k.max = ((2 ^ k.bits - 1 : Nat) : Int) := by
      unfold IntKind.max
      rw [Int.ofNat_sub (Nat.two_pow_pos _)]
      simp [hk]
    rw [e1, bv_nat, bv_nat]
    have e2 : BitVec.ofNat k.bits (2 ^ k.bits - 1) = BitVec.allOnes k.bits := by
      apply BitVec.eq_of_toNat_eq; simp
    rw [e2, BitVec.allOnes_xor]
    simp [Nat.mod_eq_of_lt ha]
  have h2 : 2 ^ k.bits - 1 - a < 2 ^ k.bits := by have := Nat.two_pow_pos k.bits; omega
  simp only [execOp, hx, Op.unary, hk, Op.intBits, Bool.false_eq_true, if_false]
  rw [h1, wrap_lt hk h2]
  rfl
end
/-- Between kinds: the lowest bits; all of them. -/
theorem cvm {k' : IntKind} {M : Nat} (hu : inB P u = some k') (ht : inB P t = some k) (hM : M = 2 ^ k'.bits) (hk : k'.signed = false) (hx : ev s x = .int k (a : Nat) := by exact rfl) :
    OpV P ⟨d, .convert t u x, ty, pos, af, g⟩ s h (.int k' ((a % M : Nat) : Int)) := by
  subst hM; exact V.convE hx hu ht (wrap_nat hk a)
theorem cvs {k' : IntKind} {M : Nat} (hu : inB P u = some k') (ht : inB P t = some k) (hM : M = 2 ^ k'.bits) (hk : k'.signed = false) (hx : ev s x = .int k (a : Nat) := by exact rfl) (ha : a < M := by first | omega | exact Nat.lt_trans (byte_lt _) (by decide)) :
    OpV P ⟨d, .convert t u x, ty, pos, af, g⟩ s h (.int k' (a : Int)) := by
  subst hM; exact V.convE hx hu ht (wrap_lt hk ha)
theorem cvi (hu : inB P u = some .i64) (ht : inB P t = some k) (hx : ev s x = .int k (a : Nat) := by exact rfl) (ha : a < 9223372036854775808 := by first | omega | exact Nat.lt_trans (byte_lt _) (by decide)) :
    OpV P ⟨d, .convert t u x, ty, pos, af, g⟩ s h (.int .i64 (a : Int)) := V.convE hx hu ht (IntWalk.i64_in _ (by omega))
/-- An int that may be below 0, as a number of 64 bits. -/
theorem cvz {z : Int} (hu : inB P u = some .u64) (ht : inB P t = some .i64) (hx : ev s x = .int .i64 z := by exact rfl) :
    OpV P ⟨d, .convert t u x, ty, pos, af, g⟩ s h (.int .u64 (((z % 18446744073709551616).toNat : Nat) : Int)) := V.convE hx hu ht (by
  have h0 : (0 : Int) ≤ z % 18446744073709551616 := Int.emod_nonneg _ (by omega)
  rw [Int.toNat_of_nonneg h0]
  rfl)
/-- min and max of two ints. -/
theorem min2 {a b : Int} (hx : ev s x = .int .i64 a := by exact rfl) (hy : ev s y = .int .i64 b := by exact rfl) : OpV P ⟨d, .call ⟨.builtin .min, #[x, y], #[t, u]⟩, ty, pos, af, g⟩ s h (.int .i64 (min a b)) := fun w _ => by
  have : min a b = if b < a then b else a := by
    by_cases h : b < a
    · rw [if_pos h]; omega
    · rw [if_neg h]; omega
  rw [this]
  simp [execOp, resolve, invoke, builtin, hx, hy, Builtin.min_, Builtin.min2]
theorem max2 {a b : Int} (hx : ev s x = .int .i64 a := by exact rfl) (hy : ev s y = .int .i64 b := by exact rfl) : OpV P ⟨d, .call ⟨.builtin .max, #[x, y], #[t, u]⟩, ty, pos, af, g⟩ s h (.int .i64 (max a b)) := fun w _ => by
  have : max a b = if b > a then b else a := by
    by_cases h : b > a
    · rw [if_pos h]; omega
    · rw [if_neg h]; omega
  rw [this]
  simp [execOp, resolve, invoke, builtin, hx, hy, Builtin.max_, Builtin.max2]
end OpV
end Go.HL
namespace Go.HL
open Go
/-- bytealg.MakeNoZero: n bytes, whatever they are. -/
theorem OpA.mnz {P : Program} {s : Slots} {h0 h : Heap} {D : Nat → Prop} {M R : List Itm} {d : Option Tmp} {ty : TypeId} {pos : String} {af : Array Edge} {g : Option (Nat × Bool)} {x : Operand} {t e : TypeId} {ts ps : Array TypeId} {f : FuncId} {fn : Func} {z : Int} (n : Nat)
    (hf : P.funcs[f]? = some fn) (hb : fn.body = none) (hnm : ¬ fn.name = "runtime.NumGoroutine") (h1 : Extern.findNext fn = none) (h2 : Extern.find fn = some (Extern.BytealgMakeNoZero.makeNoZero ps #[t])) (ht : elB P t = some e) (ok : Hp h0 D M R h)
    (hx : ev s x = .int .i64 z := by exact rfl) (hz : z = (n : Int) ∧ n ≤ 140737488355328 := by omega) :
    OpA P ⟨d, .call ⟨.value (.func f), #[x], ts⟩, ty, pos, af, g⟩ s h (fun v h' => ∃ b c cs, v = .slice (some ⟨b, 0, none⟩) n c ∧ n ≤ c ∧ Hp h0 D (capI 1 e (some ⟨b, 0, none⟩, n, c) cs :: M) R h' ∧ Ext h h') := fun E w at' => by
  obtain ⟨rfl, hn⟩ := hz
  obtain ⟨cs, hr, hc, hm⟩ := Lib.run_makeNoZero (P := P) w ps t e (elB_iff ht) n (by omega)
  have hcm := hm (by simp only [maxLen]; omega)
  simp only [maxLen] at hcm
  refine ⟨_, _, _, ⟨h.size, cs.size, cs.toList.take n, rfl, hc, ok.newM (Ext.push _ (.cells cs e (0, 0))) _ ?_ (fun j hj => ?_), Ext.push _ _⟩, (at'.drew.drew).alloc (.cells cs e (0, 0)), ?_⟩
  · exact ⟨_, n, cs.size, rfl, hc, hcm, by simp [hc], .inr ⟨h.size, 0, cs, (0, 0), rfl, push_same _ _, by omega, fzOk_zero _, by simp⟩⟩
  · obtain ⟨o, n', c', hv⟩ := hj
    injection hv with h1; injection h1 with h1; injection h1 with h1
    simp; omega
  · simp [execOp, resolve, Deferred.ofValue, invoke, callFunc, hf, hnm, hb, h1, h2, hx]
    rw [hr]
    simp [at'.heap]
end Go.HL
namespace Go.HL
open Go
theorem run_storeAt {P : Program} {h : Heap} {k : Nat} {e : TypeId} {b o n c i : Nat} {xs vs : List Value} (r : Cap h k e (.slice (some ⟨b, o, none⟩) n c) xs) (hl : i + vs.length ≤ n * k) (h1 : ∀ u ∈ vs, u.oneCell' = true) {E : Env} {w : World} (at' : At E h w) :
    ∃ h' w', Cap h' k e (.slice (some ⟨b, o, none⟩) n c) (spl xs i vs) ∧ Chg (fun x => x = b) h h' ∧ At E h' w' ∧ (storeCells ⟨b, o + i, none⟩ vs).run P w = .ok () w' := by
  obtain ⟨a', n', c', hv, hn, hcm, hxl, hr⟩ := r
  injection hv with g1 g2 g3; subst g1 g2 g3
  rcases hr with ⟨hbad, _⟩ | ⟨b', o', cs, fz, hab, hb, hs, hf, hx⟩
  · cases hbad
  injection hab with hab; injection hab with g1 g2; subst g1 g2
  have hwb : w.heap[b]? = some (.cells cs e fz) := by rw [at'.heap]; exact hb
  have hnk : n * k ≤ c * k := Nat.mul_le_mul_right _ hn
  have hfit : o + i + vs.length ≤ cs.toList.length := by simp; omega
  have hst := run_storeCells_cells (P := P) b (o + i) vs 0 w (fun j hj => by rw [cell?_eq, cell_of hwb]; simp; omega) (fun j hj => frozen?_eq hwb hf (by omega)) h1
  simp only [Nat.add_zero] at hst
  rw [setCells_row b e fz vs (o + i) w cs hwb (by omega)] at hst
  refine ⟨_, _, ?_, hput_chg h b _, at'.setRow _ _, hst⟩
  have hspl : i + vs.length ≤ xs.length := by omega
  refine ⟨_, _, _, rfl, hn, hcm, by rw [spl_length hspl]; exact hxl, .inr ⟨b, o, (spl cs.toList (o + i) vs).toArray, fz, rfl, hput_same hb, ?_, ?_, ?_⟩⟩
  · simp only [List.size_toArray]; rw [spl_length hfit]; simpa using hs
  · simp only [List.size_toArray]; rw [spl_length hfit]; simpa using hf
  · apply List.ext_getElem?
    intro j
    have hx' : j < n * k → xs[j]? = cs.toList[o + j]? := fun hj => by rw [← hx, List.getElem?_take, if_pos hj, List.getElem?_drop]
    rw [List.getElem?_take]
    split
    · rename_i hj
      rw [List.getElem?_drop]
      by_cases h2 : j < i
      · rw [spl_lt (by omega) hfit, spl_lt h2 hspl, hx' hj]
      · by_cases h3 : j < i + vs.length
        · have e1 : o + j = o + i + (j - i) := by omega
          have e2 : spl xs i vs = spl xs i vs := rfl
          rw [e1, spl_mid (by omega) hfit]
          have := spl_mid (cs := xs) (vs := vs) (o := i) (j := j - i) (by omega) hspl
          rw [show i + (j - i) = j by omega] at this
          rw [this]
        · rw [spl_gt (by omega) hfit, spl_gt (by omega) hspl, hx' hj]
    · rename_i hj
      rw [List.getElem?_eq_none]; rw [spl_length hspl]; omega
/-- copy(s[i:], src), where all of the source has room. -/
theorem OpA.cpy {P : Program} {s : Slots} {h0 h : Heap} {D : Nat → Prop} {M R : List Itm} {d : Option Tmp} {ty : TypeId} {pos : String} {af : Array Edge} {g : Option (Nat × Bool)} {x y : Operand} {t t' e : TypeId} {b o n c k : Nat} {a' : Option Addr} {m c' : Nat} {xs ys : List Value} (i : Nat)
    (ht : elB P t = some e) (hk : szB P e = some k) (ok : Hp h0 D (capI k e (some ⟨b, o, none⟩, n, c) xs :: M) R h) (hn : Sl h k (.slice a' m c') ys) (h1 : ∀ u ∈ ys, u.oneCell' = true)
    (hx : ev s x = .slice (cutA (some ⟨b, o, none⟩) i c k) (n - i) (c - i)) (hy : ev s y = .slice a' m c' := by exact rfl) (him : i + m ≤ n := by omega) :
    OpA P ⟨d, .call ⟨.builtin .copy, #[x, y], #[t, t']⟩, ty, pos, af, g⟩ s h (fun v h' => v = .int .i64 (m : Int) ∧ Hp h0 D (capI k e (some ⟨b, o, none⟩, n, c) (spl xs (i * k) ys) :: M) R h' ∧ Chg (fun j => j = b) h h') := fun E w at' => by
  have hr0 := hn.cells
  have hlim : i * k + ys.length ≤ n * k := by rw [hr0.1, ← Nat.add_mul]; exact Nat.mul_le_mul_right _ him
  have hnc : n ≤ c := Cap.le ok.m0
  by_cases hic : c = i
  · -- nothing is left to be written
    subst hic
    have hm0 : m = 0 := by omega
    subst hm0
    have hys : ys = [] := List.eq_nil_of_length_eq_zero (by simpa using hr0.1)
    subst hys
    refine ⟨_, h, w, ⟨rfl, ?_, Chg.refl _ _⟩, at', ?_⟩
    · have : spl xs (c * k) [] = xs := by simp [spl]
      rw [this]; exact ok
    · have hf : (Builtin.firstCells k 0 (.slice a' 0 c')).run P w = .ok #[] w := by cases a' <;> simp [Builtin.firstCells, loadCells, loadCellsFrom]
      have hc : cutA (some ⟨b, o, none⟩) c c k = some ⟨b, o, none⟩ := by unfold cutA; rw [if_pos rfl]
      rw [hc] at hx
      simp [execOp, resolve, invoke, builtin, hx, hy, Builtin.copy_, run_und (elB_iff ht), Builtin.lenOf, run_szB hk, hf, goInt, storeCells]
  · obtain ⟨h', w', hcap, hchg, at2, hr⟩ := run_storeAt (P := P) ok.m0 hlim h1 at'
    refine ⟨_, h', w', ⟨rfl, ok.upd hchg (fun j e => by subst e; exact ⟨o, n, c, rfl⟩) _ hcap (fun _ x => .inl x), hchg⟩, at2, ?_⟩
    rw [cutA_some hic] at hx
    have hmin : Nat.min m (n - i) = m := Nat.min_eq_left (by omega)
    have hf : (Builtin.firstCells k m (.slice a' m c')).run P w = .ok ys.toArray w := by
      by_cases hm0 : m = 0
      · subst hm0
        have : ys = [] := List.eq_nil_of_length_eq_zero (by simpa using hr0.1)
        subst this
        cases a' <;> simp [Builtin.firstCells, loadCells, loadCellsFrom]
      · obtain ⟨b', o', rfl, hcell⟩ := hr0.2 (by omega)
        exact run_firstCells_some w k m ⟨b', o', none⟩ m c' ys hr0.1 (fun j v hj => by rw [Addr.add_lit, cell?_eq, at'.heap]; exact hcell j v hj)
    simp [execOp, resolve, invoke, builtin, hx, hy, Builtin.copy_, run_und (elB_iff ht), Builtin.lenOf, hmin, run_szB hk, hf, hr, goInt]
/-- copy(s, src) from the slice's head on. -/
theorem OpA.cp0 {P : Program} {s : Slots} {h0 h : Heap} {D : Nat → Prop} {M R : List Itm} {d : Option Tmp} {ty : TypeId} {pos : String} {af : Array Edge} {g : Option (Nat × Bool)} {x y : Operand} {t t' e : TypeId} {b o n c k : Nat} {a' : Option Addr} {m c' : Nat} {xs ys : List Value}
    (ht : elB P t = some e) (hk : szB P e = some k) (ok : Hp h0 D (capI k e (some ⟨b, o, none⟩, n, c) xs :: M) R h) (hn : Sl h k (.slice a' m c') ys) (h1 : ∀ u ∈ ys, u.oneCell' = true)
    (hx : ev s x = .slice (some ⟨b, o, none⟩) n c := by exact rfl) (hy : ev s y = .slice a' m c' := by exact rfl) (him : m ≤ n := by omega) :
    OpA P ⟨d, .call ⟨.builtin .copy, #[x, y], #[t, t']⟩, ty, pos, af, g⟩ s h (fun v h' => v = .int .i64 (m : Int) ∧ Hp h0 D (capI k e (some ⟨b, o, none⟩, n, c) (ys ++ xs.drop ys.length) :: M) R h' ∧ Chg (fun j => j = b) h h') :=
  OpA.mk (OpA.cpy (t' := t') 0 ht hk ok hn h1 (by rw [hx]; unfold cutA; split <;> simp [Addr.add_zero']) hy (by omega)) fun v h' q => by
    have e : spl xs (0 * k) ys = ys ++ xs.drop ys.length := by simp [spl]
    rw [e] at q; exact q
/-- make([]T, n, m), as an item. -/
theorem OpA.mks {P : Program} {s : Slots} {h0 h : Heap} {D : Nat → Prop} {M R : List Itm} {d : Option Tmp} {ty : TypeId} {pos : String} {af : Array Edge} {g : Option (Nat × Bool)} {x y : Operand} {t e : TypeId} {k bytes : Nat} {z : Value} {z1 z2 : Int} (n m : Nat)
    (ht : elB P t = some e) (hk : szB P e = some k) (hb : byB P e = some bytes) (hz : zrB P e = some z) (ok : Hp h0 D M R h)
    (hx : ev s x = .int .i64 z1 := by exact rfl) (hy : ev s y = .int .i64 z2 := by exact rfl) (hnm : z1 = (n : Int) ∧ z2 = (m : Int) ∧ n ≤ m ∧ m * bytes ≤ 281474976710656 ∧ m ≤ 9223372036854775807 := by omega) :
    OpA P ⟨d, .makeSlice t x y, ty, pos, af, g⟩ s h (fun v h' => ∃ b, v = .slice (some ⟨b, 0, none⟩) n m ∧ Hp h0 D (capI k e (some ⟨b, 0, none⟩, n, m) ((List.range (n * k)).map (z.cells[· % z.cells.size]!)) :: M) R h' ∧ Ext h h') := fun E w at' => by
  obtain ⟨rfl, rfl, h1, h2, h3⟩ := hnm
  obtain ⟨w', at2, hr⟩ := V.makeSlice (P := P) (s := s) (h := h) (d := d) (ty := ty) (pos := pos) (af := af) (g := g) hx hy ht hk hb hz h1 h2 h3 E w at'
  have hnk : n * k ≤ m * k := Nat.mul_le_mul_right _ h1
  refine ⟨_, _, w', ⟨h.size, rfl, ok.newM (Ext.push _ _) _ ?_ (fun j hj => ?_), Ext.push _ _⟩, at2, hr⟩
  · refine ⟨_, n, m, rfl, h1, h3, by simp, .inr ⟨h.size, 0, _, (0, 0), rfl, push_same _ _, by simp, fzOk_zero _, ?_⟩⟩
    apply List.ext_getElem?
    intro j
    rw [List.drop_zero, List.getElem?_take]
    by_cases hj : j < n * k
    · rw [if_pos hj]; simp [hj, Nat.lt_of_lt_of_le hj hnk]
    · rw [if_neg hj]; simp [hj]
  · obtain ⟨o, n', c', hv⟩ := hj
    injection hv with h1; injection h1 with h1; injection h1 with h1
    simp; omega
theorem RdL.cut {α : Type} [Rep α] {h : Heap} {F E : Nat → Prop} {a : Option Addr} {n c : Nat} {l : List α} (r : RdL h F E (a, n, c) l) {i j : Nat} (hij : i ≤ j) (hj : j ≤ n) : RdL h F E (cutA a i c (Rep.k α), j - i, c - i) ((l.drop i).take (j - i)) := by
  have hn : n = l.length := r.n
  have hnc : n ≤ c := r.c
  have hm : c ≤ 9223372036854775807 := r.m
  refine ⟨by simp; omega, by show j - i ≤ c - i; omega, by show c - i ≤ _; omega, fun hp => ?_⟩
  have hp' : 0 < j - i := by simp at hp; omega
  obtain ⟨b, o, e, hb, hc⟩ := r.at' (by omega)
  simp only at e
  subst e
  refine ⟨b, o + i * Rep.k α, cutA_some (by omega), hb, fun q hq => ?_⟩
  have hq' : q < j - i := by simp at hq; omega
  obtain ⟨cs, h1, h2⟩ := hc (i + q) (by omega)
  refine ⟨cs, by simpa using h1, fun w v hw => ?_⟩
  have := h2 w v hw
  rwa [Nat.add_mul, ← Nat.add_assoc] at this
theorem zeros8 (n : Nat) : (List.range (n * 1)).map ((Value.int .u8 0).cells[· % (Value.int .u8 0).cells.size]!) = (List.replicate n (0 : UInt8)).map bv := by
  apply List.ext_getElem?
  intro j
  by_cases hj : j < n
  · simp [hj, Value.cells, bv, Nat.mod_one]
  · simp [hj]
theorem Cap.lenB {h : Heap} {e : TypeId} {a : Option Addr} {n c : Nat} {l : List UInt8} (r : Cap h 1 e (.slice a n c) (l.map bv)) : n = l.length := by
  have := r.sl.cells.1
  simpa using this.symm
theorem Own.formB {h h' : Heap} {e : TypeId} {v : Value} {l : List UInt8} (o : Own h h' 1 e v (l.map bv)) : ∃ a c, v = .slice a l.length c := by
  obtain ⟨a, n, c, rfl⟩ := o.form3
  exact ⟨a, c, by rw [o.cap.lenB]⟩
theorem Hp.lenB {h0 h : Heap} {D : Nat → Prop} {M R : List Itm} {e : TypeId} {a : Option Addr} {n c : Nat} {l : List UInt8} (ok : Hp h0 D (capI 1 e (a, n, c) (l.map bv) :: M) R h) : n = l.length := Cap.lenB ok.m0
theorem RdL.pre {α : Type} [Rep α] {h : Heap} {F E : Nat → Prop} {a : Option Addr} {n c : Nat} {l l2 : List α} (r : RdL h F E (a, n, c) l) (h2 : l2 <+: l) : RdL h F E (a, l2.length, c) l2 := by
  obtain ⟨m, rfl⟩ := h2
  have hn : n = (l2 ++ m).length := r.n
  have hc : n ≤ c := r.c
  rw [List.length_append] at hn
  refine ⟨rfl, by simp only; omega, r.m, fun hp => ?_⟩
  obtain ⟨b, o, e, hb, hx⟩ := r.at' (by rw [List.length_append]; omega)
  refine ⟨b, o, e, hb, fun i hi => ?_⟩
  have := hx i (by rw [List.length_append]; omega)
  rwa [List.getElem_append_left hi] at this
section
variable {P : Program} {s : Slots} {h : Heap} {d : Option Tmp} {ty : TypeId} {pos : String} {af : Array Edge} {g : Option (Nat × Bool)} {x y : Operand} {t u : TypeId}
theorem OpV.addI {a b : Nat} (hx : ev s x = .int .i64 (a : Nat) := by exact rfl) (hy : ev s y = .int .i64 (b : Nat) := by exact rfl) (hr : a + b ≤ 9223372036854775807 := by omega) : OpV P ⟨d, .binOp .add t x y u, ty, pos, af, g⟩ s h (.int .i64 ((a + b : Nat) : Int)) := by
  rw [Int.natCast_add]; exact V.add hx hy (by omega)
theorem OpV.mulI {a b : Nat} (hx : ev s x = .int .i64 (a : Nat) := by exact rfl) (hy : ev s y = .int .i64 (b : Nat) := by exact rfl) (hr : a * b ≤ 9223372036854775807 := by omega) : OpV P ⟨d, .binOp .mul t x y u, ty, pos, af, g⟩ s h (.int .i64 ((a * b : Nat) : Int)) := by
  rw [Int.natCast_mul]; exact V.mul hx hy (by constructor <;> (have := Int.natCast_mul a b; omega))
end
end Go.HL

namespace Go.HL
open Go
namespace OpV
/-- a[:] of an array in memory. -/
theorem slA {P : Program} {s : Slots} {h : Heap} {d : Option Tmp} {ty : TypeId} {pos : String} {af : Array Edge} {g : Option (Nat × Bool)} {x : Operand} {t e : TypeId} {b o n k : Nat} (ht : arB P t = some (n, e)) (hk : szB P e = some k) (hn : 0 < n := by decide) (hx : ev s x = .pointer (some ⟨b, o, none⟩) := by exact rfl) :
    OpV P ⟨d, .slice t x none none none, ty, pos, af, g⟩ s h (.slice (some ⟨b, o, none⟩) n n) := fun w _ => by
  have h1 : ((⟨b, o, none⟩ : Addr).add (0 * k)) = ⟨b, o, none⟩ := by simp [Addr.add_zero']
  have h2 : ¬ n = 0 := by omega
  simp [execOp, hx, Instr.sliceAt, run_und (arB_iff ht), Instr.sureAddr, Instr.sliceBounds, Instr.sliceBound, run_szB hk]
  intro _; exact Addr.add_zero' _
/-- An array's literal. -/
theorem bdA {P : Program} {s : Slots} {h : Heap} {d : Option Tmp} {ty : TypeId} {pos : String} {af : Array Edge} {g : Option (Nat × Bool)} {t e : TypeId} {n k : Nat} {l : List (Nat × Operand)} {z : Value} (cs : Array Value) (hz : zrB P t = some z) (ht : arB P t = some (n, e)) (hk : szB P e = some k)
    (hf : Instr.fill (fun i => some (i * k, k)) z.cells (l.map fun p => (p.1, ev s p.2)) = some cs) : OpV P ⟨d, .build t l.toArray, ty, pos, af, g⟩ s h (.agg cs) := fun w _ => by
  simp [execOp, Instr.build, run_zrB hz, run_und (arB_iff ht), run_szB hk, hf]
end OpV
section
variable {h0 h : Heap} {D : Nat → Prop} {M R : List Itm} {b k n : Nat} {t : TypeId} {cs : List Value}
/-- A box, as the slice of its cells. -/
theorem Hp.boxC (ok : Hp h0 D (boxI b t cs :: M) R h) (hn : cs.length = n * k := by exact rfl) (hm : n ≤ 9223372036854775807 := by decide) : Hp h0 D (capI k t (some ⟨b, 0, none⟩, n, n) cs :: M) R h :=
  ok.re _ ⟨_, n, n, rfl, Nat.le_refl _, hm, hn, .inr ⟨b, 0, cs.toArray, (0, 0), rfl, ok.m0, by simp [hn], fzOk_zero _, by simp [← hn]⟩⟩ (fun j hj => by
    obtain ⟨o, n', c', hv⟩ := hj; injection hv with h1 h2 h3; injection h1 with h1; injection h1 with h1; exact h1.symm)
variable {a c : Itm} {ys : List Value}
theorem Hp.bx (ok : Hp h0 D (boxI b t cs :: M) R h) (q : cs = ys) : Hp h0 D (boxI b t ys :: M) R h := q ▸ ok
theorem Hp.bx1 (ok : Hp h0 D (a :: boxI b t cs :: M) R h) (q : cs = ys) : Hp h0 D (a :: boxI b t ys :: M) R h := q ▸ ok
theorem Hp.bx2 (ok : Hp h0 D (a :: c :: boxI b t cs :: M) R h) (q : cs = ys) : Hp h0 D (a :: c :: boxI b t ys :: M) R h := q ▸ ok
end
/-- A row of slices that was made, by the readings of each. -/
def Rows (h : Heap) : List SV → List (List UInt8) → Prop
  | [], [] => True
  | x :: xs, l :: ls => (∃ F E, RdL h F E x l) ∧ Rows h xs ls
  | _, _ => False
@[reducible] def any_ : Nat → Prop := fun _ => True
theorem Rows.all {h : Heap} : ∀ {xs : List SV} {ls : List (List UInt8)}, Rows h xs ls → All2 (Rep.rd h any_) (xs.map fun x => [sv x]) ls
  | [], [], _ => ⟨rfl, fun i hi => by simp at hi⟩
  | x :: xs, l :: ls, ⟨⟨F, E, r⟩, hr⟩ => by
    have ih := Rows.all hr
    refine ⟨by simpa using ih.1, fun i hi hj => ?_⟩
    cases i with
    | zero => exact ⟨x, rfl, r.mono (fun _ _ => trivial) (fun _ _ => trivial)⟩
    | succ i => exact ih.2 i (by simpa using hi) (by simpa using hj)
  | [], _ :: _, h => h.elim
  | _ :: _, [], h => h.elim
theorem flat_sing (xs : List SV) : (xs.map fun x => [sv x]).flatten = xs.map sv := by induction xs with
  | nil => rfl
  | cons x xs ih => simp [ih]
theorem RdL.rows {h : Heap} {e : TypeId} {v : SV} {xs : List SV} {ls : List (List UInt8)} (c : Cap h 1 e (sv v) (xs.map sv)) (r : Rows h xs ls) : RdL h any_ any_ v ls :=
  (RdL.of_cap (css := xs.map fun x => [sv x]) (by rw [flat_sing]; exact c) r.all).mono (fun _ _ => trivial) (fun _ h => h)
theorem RdL.ofCapB {h : Heap} {e : TypeId} {v : SV} {l : List UInt8} (c : Cap h 1 e (sv v) (l.map bv)) : RdL h any_ any_ v l := (RdL.of_cap1 (f := bv) rfl (fun _ _ _ => rfl) c).mono (fun _ _ => trivial) (fun _ h => h)
/-- What is not the one block that might turn is new. -/
theorem Hp.freshD {h0 h : Heap} {M R : List Itm} {a : Itm} {r : Nat} {t : TypeId} {cs : List Value} (ok : Hp h0 (fun j => j = r) (a :: boxI r t cs :: M) R h) : ∀ j, a.F j → h0.size ≤ j := fun j hj => by
  rcases ((ok.m a List.mem_cons_self).2 j hj).2 with h1 | h1
  · subst h1; exact absurd rfl ((List.pairwise_cons.1 ok.mm).1 _ List.mem_cons_self _ hj)
  · exact h1
end Go.HL

namespace Go.HL
open Go
/-- The slice x8 of the elements all grows; x3 is read as l. What the elements lead to lies in E. -/
structure Acc {α : Type} [Rep α] (h : Heap) (e : TypeId) (x8 x3 : SV) (E : Nat → Prop) (all l : List α) : Prop where
  cap : ∃ css, Cap h (Rep.k α) e (sv x8) css.flatten ∧ All2 (Rep.rd h E) css all
  l3 : RdL h (blkC (sv x3)) E x3 l
  ord : ∀ b o n c o' n' c', x3 = (some ⟨b, o, none⟩, n, c) → x8 = (some ⟨b, o', none⟩, n', c') → 0 < n → o + n * Rep.k α ≤ o' + n' * Rep.k α
  apart : ∀ j, E j → ¬ blkC (sv x8) j
section
variable {α : Type} [Rep α] {h h' h0 : Heap} {e : TypeId} {x8 x3 : SV} {E D G : Nat → Prop} {all l : List α} {M R : List Itm} {b : Itm}
theorem Acc.st (c : Chg G h h') (d : ∀ j, (blkC (sv x8) j ∨ blkC (sv x3) j ∨ E j) → ¬ G j) (a : Acc h e x8 x3 E all l) : Acc h' e x8 x3 E all l :=
  ⟨let ⟨css, h1, h2⟩ := a.cap; ⟨css, h1.chg c (fun j hj => d j (.inl hj)), h2.mono fun _ _ q => Rep.st c (fun j hj => d j (.inr (.inr hj))) q⟩, a.l3.st c (fun j hj => d j (.inr (.inl hj))) (fun j hj => d j (.inr (.inr hj))), a.ord, a.apart⟩
@[reducible] def accI (e : TypeId) (x8 x3 : SV) (E : Nat → Prop) (all l : List α) : Itm := ⟨fun h => Acc h e x8 x3 E all l, fun j => blkC (sv x8) j ∨ blkC (sv x3) j ∨ E j, fun _ _ _ c d a => a.st c d⟩
theorem Acc.len (a : Acc h e x8 x3 E all l) : x8.2.1 = all.length := by
  obtain ⟨css, h1, h2⟩ := a.cap
  exact (RdL.of_cap h1 h2).n
theorem Acc.rd (a : Acc h e x8 x3 E all l) : RdL h (blkC (sv x8)) E x8 all := by
  obtain ⟨css, h1, h2⟩ := a.cap
  exact RdL.of_cap h1 h2
theorem Hp.accNil (ok : Hp h0 D M R h) (e : TypeId) (α : Type) [Rep α] : Hp h0 D (accI e (none, 0, 0) (none, 0, 0) none_ ([] : List α) [] :: M) R h :=
  ok.newM (Ext.refl h) _ ⟨⟨[], Cap.nil _ _ _, All2.nil⟩, RdL.nil _ _ _, fun _ _ _ _ _ _ _ h => (by cases h), fun _ f => f.elim⟩ (fun j hj => by
    rcases hj with ⟨o, n, c, e⟩ | ⟨o, n, c, e⟩ | f
    · cases e
    · cases e
    · exact f.elim)
theorem RdL.clip (r : RdL h G E x8 l) : RdL h G E (x8.1, x8.2.1, x8.2.1) l := ⟨r.n, Nat.le_refl _, Nat.le_trans r.c r.m, r.at'⟩
/-- x3 is all of x8, without room behind. -/
theorem Hp.accClip {a : Option Addr} {n c : Nat} (ok : Hp h0 D (accI e (a, n, c) x3 E all l :: M) R h) : Hp h0 D (accI e (a, n, c) (a, n, n) E all all :: M) R h := by
  have c0 : Acc h e (a, n, c) x3 E all l := ok.m0
  refine ok.re _ ⟨c0.cap, (c0.rd.clip).mono (fun j hj => ?_) (fun _ h => h), fun b o n1 c1 o' n' c' e1 e2 _ => ?_, c0.apart⟩ (fun j hj => ?_)
  · obtain ⟨o, n', c', hv⟩ := hj
    injection hv with h1 h2 h3
    exact ⟨o, n, n, by rw [← h1]⟩
  · cases e1; cases e2; exact Nat.le_refl _
  · rcases hj with h1 | h1 | h1
    · exact .inl h1
    · obtain ⟨o, n', c', hv⟩ := h1
      injection hv with h1 h2 h3
      exact .inl ⟨o, n, c, by rw [← h1]⟩
    · exact .inr (.inr h1)
/-- x3 is x8. -/
theorem Hp.accEq (ok : Hp h0 D (accI e x8 x3 E all l :: M) R h) : Hp h0 D (accI e x8 x8 E all all :: M) R h := by
  have c0 : Acc h e x8 x3 E all l := ok.m0
  exact ok.re _ ⟨c0.cap, c0.rd, fun b o n1 c1 o' n' c' e1 e2 _ => by rw [e1] at e2; cases e2; exact Nat.le_refl _, c0.apart⟩ (fun j hj => hj.elim .inl (·.elim .inl fun h => .inr (.inr h)))
theorem Acc.app {e : TypeId} {ys : List Value} {cs : List Value} {v' : Value} {css : List (List Value)} {a : α} {bF : Nat → Prop} (c0 : Acc h e x8 x3 E all l) (h2 : All2 (Rep.rd h E) css all) (hr : Rep.rd h bF cs a) (hb : ∀ j, bF j → ¬ blkC (sv x8) j) (hbs : ∀ j, bF j → j < h.size) (hes : ∀ j, E j → j < h.size)
    (q : Appended h (Rep.k α) e (sv x8) ys v' h') (hy : ys = css.flatten ++ cs) : ∃ x', v' = sv x' ∧ Acc h' e x' x3 (fun j => E j ∨ bF j) (all ++ [a]) l := by
  obtain ⟨x', hx'⟩ := q.cap.form
  subst hx'
  have hk := Rep.kpos (α := α)
  refine ⟨x', rfl, ⟨css ++ [cs], ?_, ?_⟩, ?_, ?_, ?_⟩
  · have := q.cap; rw [hy] at this; simpa using this
  · exact All2.append (h2.mono fun _ _ r => Rep.mono (fun _ h => .inl h) (Rep.st q.chg c0.apart r)) (All2.cons (Rep.mono (fun _ h => .inr h) (Rep.st q.chg hb hr)) All2.nil)
  · refine ⟨c0.l3.n, c0.l3.c, c0.l3.m, fun hp => ?_⟩
    obtain ⟨b, o, e1, hbb, hc⟩ := c0.l3.at' hp
    refine ⟨b, o, e1, hbb, fun i hi => ?_⟩
    obtain ⟨cs1, r1, hcell⟩ := hc i hi
    refine ⟨cs1, Rep.mono (fun _ h => .inl h) (Rep.st q.chg c0.apart r1), fun j v hj => q.kept b _ v (hcell j v hj) fun o8 n8 c8 hv => ?_⟩
    have hjk : j < Rep.k α := by have := (List.getElem?_eq_some_iff.1 hj).1; rwa [Rep.len r1] at this
    have hn3 := c0.l3.n
    have h9 := c0.ord b o x3.2.1 x3.2.2 o8 n8 c8 (by rw [← e1]) (by
      obtain ⟨x8a, x8n, x8c⟩ := x8
      injection hv with g1 g2 g3; simp only at g1 g2 g3; rw [g1, g2, g3]) (by omega)
    have h10 : (i + 1) * Rep.k α ≤ x3.2.1 * Rep.k α := Nat.mul_le_mul_right _ (by omega)
    rw [Nat.add_mul] at h10
    omega
  · intro b o n c o' n' c' e1 e2 hn
    have hbl : b < h.size := by
      have hl : 0 < l.length := by have := c0.l3.n; rw [e1] at this; simp only at this; omega
      obtain ⟨b1, o1, e3, _, hc⟩ := c0.l3.at' hl
      rw [e1] at e3
      injection e3 with e3; injection e3 with e3 e4; subst e3 e4
      obtain ⟨cs1, r1, hcell⟩ := hc 0 hl
      have hl1 := Rep.len r1
      exact cell_lt (hcell 0 (cs1[0]'(by omega)) (by simp))
    obtain ⟨a8, n8, c8⟩ := x8
    have hl2 : ys.length = (n8 + 1) * Rep.k α := by
      rw [hy, List.length_append, flatten_len (k := Rep.k α) (fun c hc => by
        obtain ⟨i, hi, rfl⟩ := List.mem_iff_getElem.1 hc
        exact Rep.len (h2.2 i hi (by have := h2.1; omega))), Rep.len hr, Nat.add_mul, Nat.one_mul]
      have h3 := c0.len; have h4 := h2.1
      simp only at h3
      rw [h3, h4]
    rcases Nat.lt_or_ge c8 (n8 + 1) with hlt | hge
    · have := q.grown a8 n8 c8 (n8 + 1) rfl hl2 hlt b ⟨o', n', c', by rw [e2]⟩
      omega
    · have h5 := q.inplace a8 n8 c8 (n8 + 1) rfl hl2 hge
      rw [e2] at h5
      injection h5 with g1 g2 g3
      simp only at g1 g2 g3
      have h6 := c0.ord b o n c o' n8 c8 e1 (by rw [← g1]) hn
      have h7 : n8 * Rep.k α ≤ n' * Rep.k α := Nat.mul_le_mul_right _ (by omega)
      omega
  · intro j hj hbj
    have hjs : j < h.size := hj.elim (hes j) (hbs j)
    rcases q.place j hbj with h3 | h3
    · exact hj.elim (fun h => c0.apart j h h3) (fun h => hb j h h3)
    · omega
end
/-- An element is appended, whose own block turns no more. -/
theorem OpA.appA {α : Type} [Rep α] {P : Program} {s : Slots} {h0 h : Heap} {D : Nat → Prop} {M R : List Itm} {d : Option Tmp} {ty : TypeId} {pos : String} {af : Array Edge} {g : Option (Nat × Bool)} {x y : Operand} {t e : TypeId} {k bytes : Nat} {z : Value} {a8 : Option Addr} {n8 c8 : Nat} {x3 : SV} {E : Nat → Prop} {all l : List α} {b : Itm} {nv : Value} {cs : List Value} (a : α)
    (ht : elB P t = some e) (hk : szB P e = some (k + 1)) (hby : byB P e = some (bytes + 1)) (hz : zrB P e = some z) (ok : Hp h0 D (accI e (a8, n8, c8) x3 E all l :: b :: M) R h) (hn : Sl h (k + 1) nv cs) (hr : Rep.rd h b.F cs a)
    (hfit : (all.length + 1) * (k + 1) * (bytes + 1) ≤ 140737488355328) (hx : ev s x = .slice a8 n8 c8 := by exact rfl) (hy : ev s y = nv := by exact rfl) (hzk : z.cells.size = k + 1 := by exact rfl) (hka : Rep.k α = k + 1 := by exact rfl) :
    OpA P ⟨d, .call ⟨.builtin .append, #[x, y], #[t, t]⟩, ty, pos, af, g⟩ s h (fun v' h' => ∃ a' n' m', v' = .slice a' n' m' ∧ Hp h0 D (accI e (a', n', m') x3 (fun j => E j ∨ b.F j) (all ++ [a]) l :: M) R h') := by
  have c0 : Acc h e (a8, n8, c8) x3 E all l := ok.m0
  obtain ⟨css, h1, h2⟩ := c0.cap
  have hmm := List.pairwise_cons.1 ok.mm
  have hbf : ∀ j, b.F j → j < h.size := fun j hj => ((ok.m b (by simp)).2 j hj).1
  have hef : ∀ j, E j → j < h.size := fun j hj => ((ok.m _ List.mem_cons_self).2 j (.inr (.inr hj))).1
  have hbx : ∀ j, b.F j → ¬ blkC (sv (a8, n8, c8)) j := fun j hj h3 => hmm.1 b List.mem_cons_self j (.inl h3) hj
  have hlen : css.flatten.length = all.length * (k + 1) := by
    rw [flatten_len (k := Rep.k α) (fun c hc => by
        obtain ⟨i, hi, rfl⟩ := List.mem_iff_getElem.1 hc
        exact Rep.len (h2.2 i hi (by have := h2.1; omega))), h2.1, hka]
  have hcl : cs.length = k + 1 := by rw [Rep.len hr, hka]
  rw [hka] at h1
  refine OpA.mk (V.append hx hy ht hk hby hz hzk h1 hn (Rep.one hr) (by rw [hlen, hcl]; rw [Nat.add_mul, Nat.one_mul] at hfit; exact hfit)) fun v' h' q => ?_
  have q' : Appended h (Rep.k α) e (sv (a8, n8, c8)) (css.flatten ++ cs) v' h' := by rw [hka]; exact q
  obtain ⟨x', rfl, hacc⟩ := Acc.app c0 h2 hr hbx hbf hef q' rfl
  refine ⟨x'.1, x'.2.1, x'.2.2, rfl, ?_⟩
  have ok2 := ok.fuse ⟨fun _ => True, fun j => (blkC (sv (a8, n8, c8)) j ∨ blkC (sv x3) j ∨ E j) ∨ b.F j, fun _ _ _ _ _ _ => trivial⟩ trivial (fun j hj => hj)
  refine ok2.upd q.chg (fun j hj => .inl (.inl hj)) _ hacc (fun j hj => ?_)
  rcases hj with h3 | h3 | h3 | h3
  · rcases q.place j h3 with h4 | h4
    · exact .inl (.inl (.inl h4))
    · exact .inr ⟨h4, q.cap.lt h3⟩
  · exact .inl (.inl (.inr (.inl h3)))
  · exact .inl (.inl (.inr (.inr h3)))
  · exact .inl (.inr h3)
section
variable {h0 h h' : Heap} {D : Nat → Prop} {M R : List Itm} {r k : Nat} {t e : TypeId} {cs cs' xs : List Value} {x : SV}
/-- A box turns, and a slice is new. -/
theorem Hp.boxNew (ok : Hp h0 D (boxI r t cs :: M) R h) (c : Chg (fun j => j = r) h h') (hb : (boxI r t cs').p h') (hc : Cap h' k e (sv x) xs) (hf : ∀ j, blkC (sv x) j → h.size ≤ j) : Hp h0 D (capI k e x xs :: boxI r t cs' :: M) R h' :=
  ok.newBeside (a' := boxI r t cs') c (fun _ h => h) hb (fun _ h => .inl h) _ hc fun j hj => ⟨hf j hj, hc.lt hj, fun e => by
    have e : j = r := e
    have h1 := hf j hj
    have h2 := block_lt ok.m0
    omega⟩
theorem Hp.boxUp (ok : Hp h0 D (boxI r t cs :: M) R h) (c : Chg (fun j => j = r) h h') (hb : (boxI r t cs').p h') : Hp h0 D (boxI r t cs' :: M) R h' := ok.upd c (fun _ h => h) _ hb (fun _ h => .inl h)
end
/-- The cells of a slice that is read. -/
theorem RdL.cells {α : Type} [Rep α] {h : Heap} {F E : Nat → Prop} {x : SV} {l : List α} (r : RdL h F E x l) : ∃ css, Sl h (Rep.k α) (sv x) css.flatten ∧ All2 (Rep.rd h E) css l := by
  obtain ⟨a, n, c⟩ := x
  have hn : n = l.length := r.n
  have hk := Rep.kpos (α := α)
  rcases Nat.eq_zero_or_pos l.length with h0 | h0
  · have : l = [] := List.eq_nil_of_length_eq_zero h0
    subst this
    have hn0 : n = 0 := by simpa using hn
    subst hn0
    exact ⟨[], ⟨a, 0, c, rfl, r.c, r.m, by simp, fun h => absurd h (by omega)⟩, All2.nil⟩
  · obtain ⟨b, o, e, _, hc⟩ := r.at' h0
    have hex : ∀ m, m ≤ l.length → ∃ css : List (List Value), css.length = m ∧ ∀ i (hi : i < l.length) (h2 : i < css.length), Rep.rd h E css[i] l[i] ∧ ∀ j v, css[i][j]? = some v → cell h b (o + i * Rep.k α + j) = some v := by
      intro m
      induction m with
      | zero => intro _; exact ⟨[], rfl, fun i _ h2 => absurd h2 (by simp)⟩
      | succ m ih =>
        intro hm
        obtain ⟨css, h1, h2⟩ := ih (by omega)
        obtain ⟨cs, g1, g2⟩ := hc m (by omega)
        refine ⟨css ++ [cs], by simp [h1], fun i hi h3 => ?_⟩
        rw [List.getElem_append]
        split
        · exact h2 i hi _
        · rename_i h4
          simp at h3
          have : i = m := by omega
          subst this
          simp only [List.getElem_singleton]
          exact ⟨g1, g2⟩
    obtain ⟨css, h1, h2⟩ := hex l.length (Nat.le_refl _)
    have hal : All2 (Rep.rd h E) css l := ⟨h1, fun i g1 g2 => (h2 i g2 g1).1⟩
    have hlen : ∀ cs ∈ css, cs.length = Rep.k α := fun cs hcs => by
      obtain ⟨i, hi, rfl⟩ := List.mem_iff_getElem.1 hcs
      exact Rep.len (hal.2 i hi (by omega))
    refine ⟨css, ⟨a, n, c, rfl, r.c, r.m, by rw [flatten_len hlen, h1, hn], fun _ => ⟨b, o, e, fun i v hv => ?_⟩⟩, hal⟩
    have hi : i < css.length * Rep.k α := by have := (List.getElem?_eq_some_iff.1 hv).1; rwa [flatten_len hlen] at this
    have hq : i / Rep.k α < css.length := by rw [Nat.div_lt_iff_lt_mul hk]; exact hi
    have hm := Nat.mod_lt i hk
    have he : i / Rep.k α * Rep.k α + i % Rep.k α = i := by rw [Nat.mul_comm]; exact Nat.div_add_mod _ _
    rw [← he, flatten_at hlen _ _ hq hm] at hv
    have := (h2 _ (by omega) hq).2 _ _ hv
    rw [Nat.add_assoc, he] at this
    exact this
theorem All2.len_flat {α : Type} [Rep α] {h : Heap} {E : Nat → Prop} {css : List (List Value)} {l : List α} (r : All2 (Rep.rd h E) css l) : css.flatten.length = l.length * Rep.k α := by
  rw [flatten_len (k := Rep.k α) (fun c hc => by
    obtain ⟨i, hi, rfl⟩ := List.mem_iff_getElem.1 hc
    exact Rep.len (r.2 i hi (by have := r.1; omega))), r.1]
theorem All2.one {α : Type} [Rep α] {h : Heap} {E : Nat → Prop} {css : List (List Value)} {l : List α} (r : All2 (Rep.rd h E) css l) : ∀ u ∈ css.flatten, u.oneCell' = true := fun u hu => by
  obtain ⟨cs, hcs, hu⟩ := List.mem_flatten.1 hu
  obtain ⟨i, hi, rfl⟩ := List.mem_iff_getElem.1 hcs
  exact Rep.one (r.2 i hi (by have := r.1; omega)) u hu
/-- A copy of the part, behind a slice that is empty. -/
theorem OpA.appL {α : Type} [Rep α] {P : Program} {s : Slots} {h0 h : Heap} {D : Nat → Prop} {M R : List Itm} {d : Option Tmp} {ty : TypeId} {pos : String} {af : Array Edge} {g : Option (Nat × Bool)} {x y : Operand} {t e : TypeId} {k bytes : Nat} {z : Value} {a : Option Addr} {n c : Nat} {x8 : SV} {a3 : Option Addr} {n3 c3 : Nat} {E : Nat → Prop} {all l : List α}
    (ht : elB P t = some e) (hk : szB P e = some (k + 1)) (hby : byB P e = some (bytes + 1)) (hz : zrB P e = some z) (ok : Hp h0 D (capI (k + 1) e (a, n, c) [] :: accI e x8 (a3, n3, c3) E all l :: M) R h)
    (hfit : l.length * (k + 1) * (bytes + 1) ≤ 140737488355328) (hx : ev s x = .slice a n c := by exact rfl) (hy : ev s y = .slice a3 n3 c3 := by exact rfl) (hzk : z.cells.size = k + 1 := by exact rfl) (hka : Rep.k α = k + 1 := by exact rfl) :
    OpA P ⟨d, .call ⟨.builtin .append, #[x, y], #[t, t]⟩, ty, pos, af, g⟩ s h (fun v' h' => ∃ a' n' m', v' = .slice a' n' m' ∧ Hp h0 D (accI e (a', n', m') (none, 0, 0) E l [] :: M) R h') := by
  have c0 : Acc h e x8 (a3, n3, c3) E all l := ok.m1
  obtain ⟨css, h1, h2⟩ := c0.l3.cells
  have hmm := (List.pairwise_cons.1 ok.mm).1 _ List.mem_cons_self
  have hl2 := h2.len_flat
  rw [hka] at h1 hl2
  refine OpA.mk (V.append hx hy ht hk hby hz hzk ok.m0 h1 h2.one (by simp only [List.length_nil, Nat.zero_add]; rw [hl2]; exact hfit)) fun v' h' q => ?_
  obtain ⟨x', rfl⟩ := q.cap.form
  refine ⟨x'.1, x'.2.1, x'.2.2, rfl, ?_⟩
  have hap : ∀ j, E j → ¬ blkC (.slice a n c) j := fun j hj hb => hmm j hb (.inr (.inr hj))
  have ok2 := ok.fuse ⟨fun _ => True, fun j => blkC (sv (a, n, c)) j ∨ (blkC (sv x8) j ∨ blkC (sv (a3, n3, c3)) j ∨ E j), fun _ _ _ _ _ _ => trivial⟩ trivial (fun j hj => hj)
  refine ok2.upd q.chg (fun j hj => .inl hj) _ ⟨⟨css, ?_, h2.mono fun _ _ r => Rep.st q.chg hap r⟩, RdL.nil _ _ _, fun _ _ _ _ _ _ _ e => (by cases e), fun j hj hb => ?_⟩ (fun j hj => ?_)
  · have := q.cap; rw [← hka] at this; simpa using this
  · rcases q.place j hb with h4 | h4
    · exact hap j hj h4
    · have := ((ok.m _ (List.mem_cons_of_mem _ List.mem_cons_self)).2 j (.inr (.inr hj))).1
      omega
  · rcases hj with h3 | ⟨o, n', c', e⟩ | h3
    · rcases q.place j h3 with h4 | h4
      · exact .inl (.inl h4)
      · exact .inr ⟨h4, q.cap.lt h3⟩
    · cases e
    · exact .inl (.inr (.inr (.inr h3)))
end Go.HL

namespace Go.HL
open Go Go.MapKept V
/-- A loop over a map: the iterator and the map. -/
@[reducible] def itI {κ : Type} (kv : κ → Value) (r bm : Nat) (l todo : List (κ × Value)) : Itm := ⟨fun h => Iter kv h r bm l todo, fun j => j = r ∨ j = bm, fun _ _ _ c d x => x.chg c (d r (.inl rfl)) (d bm (.inr rfl))⟩
/-- The same, with the entry that came last. -/
@[reducible] def itcI {κ : Type} (kv : κ → Value) (r bm : Nat) (l todo : List (κ × Value)) (p : κ × Value) : Itm := ⟨fun h => Iter kv h r bm l todo ∧ Cur kv h r bm p, fun j => j = r ∨ j = bm, fun _ _ _ c d x => ⟨x.1.chg c (d r (.inl rfl)) (d bm (.inr rfl)), x.2.chg c (d r (.inl rfl)) (d bm (.inr rfl))⟩⟩
theorem erase_filter {α : Type} (q : α → Bool) : ∀ {l : List α} {i : Nat} {e : α}, l[i]? = some e → q e = false → (l.eraseIdx i).filter q = l.filter q
  | [], _, _, h, _ => by simp at h
  | x :: l, 0, e, h, hq => by
    simp at h; subst h
    simp [hq]
  | x :: l, i + 1, e, h, hq => by
    simp only [List.getElem?_cons_succ] at h
    rw [List.eraseIdx_cons_succ, List.filter_cons, List.filter_cons, erase_filter q h hq]
section
variable {P : Program} {s : Slots} {h0 h : Heap} {D : Nat → Prop} {M R : List Itm} {d : Option Tmp} {ty : TypeId} {pos : String} {af : Array Edge} {g : Option (Nat × Bool)} {x y c : Operand} {t kt et : TypeId} {κ : Type} {kv : κ → Value} {r bm : Nat} {l todo : List (κ × Value)}
theorem OpA.mkm (kv : κ → Value) (ok : Hp h0 D M R h) : OpA P ⟨d, .makeMap t none, ty, pos, af, g⟩ s h (fun v h' => ∃ b, v = .map (some b) ∧ Hp h0 D (mapI kv b [] :: M) R h') := fun E w at' => by
  obtain ⟨w', at2, hr⟩ := V.makeMap (P := P) (s := s) (h := h) (d := d) (t := t) (ty := ty) (pos := pos) (af := af) (g := g) E w at'
  exact ⟨_, _, w', ⟨h.size, rfl, ok.newM (Ext.push _ _) _ (MapT.new (push_same _ _)) (fun j hj => by simp at hj ⊢; omega)⟩, at2, hr⟩
theorem Hp.put [DecidableEq κ] {h' : Heap} {l' : List (κ × Value)} (ok : Hp h0 D (mapI kv r l :: M) R h) (q : Put kv h r l' h') : Hp h0 D (mapI kv r l' :: M) R h' := ok.upd q.chg (fun _ x => x) _ q.map (fun _ x => .inl x)
theorem OpUR.mpu [DecidableEq κ] {dd : TypeDesc} (K : KV kv dd) (hsb : ∀ a n, Instr.sameBits n (kv a) (kv a) = true) (k : κ) {v : Value} (ht : mpB P t = some (kt, et)) (hd : P.underlying kt = some dd) (ok : Hp h0 D (mapI kv r l :: M) R h) (hy : ev s y = kv k := by exact rfl) (hc : ev s c = v := by exact rfl) (hx : ev s x = .map (some r) := by exact rfl) :
    OpUR P ⟨d, .mapUpdate t x y c, ty, pos, af, g⟩ s h (Hp h0 D (mapI kv r (aput l k v) :: M) R) := OpUR.mk (V.mapUpdate K hsb hx hy hc ok.m0 ht hd) fun h' q => ok.put q
theorem OpUR.ins [DecidableEq κ] {dd : TypeDesc} (K : KV kv dd) (hsb : ∀ a n, Instr.sameBits n (kv a) (kv a) = true) (k : κ) {v : Value} (ht : mpB P t = some (kt, et)) (hd : P.underlying kt = some dd) (ok : Hp h0 D (mapI kv r l :: M) R h) (hy : ev s y = kv k := by exact rfl) (hc : ev s c = v := by exact rfl) (hx : ev s x = .map (some r) := by exact rfl) :
    OpUR P ⟨d, .insert t x y c, ty, pos, af, g⟩ s h (Hp h0 D (mapI kv r (aput l k v) :: M) R) := OpUR.mk (V.insert K hsb hx hy hc ok.m0 ht hd) fun h' q => ok.put q
theorem OpA.del [DecidableEq κ] {dd : TypeDesc} (K : KV kv dd) {u' : TypeId} (k : κ) (ht : mpB P t = some (kt, et)) (hd : P.underlying kt = some dd) (ok : Hp h0 D (mapI kv r l :: M) R h) (hy : ev s y = kv k := by exact rfl) (hx : ev s x = .map (some r) := by exact rfl) :
    OpA P ⟨d, .call ⟨.builtin .delete, #[x, y], #[t, u']⟩, ty, pos, af, g⟩ s h (fun v h' => v = .tuple #[] ∧ Hp h0 D (mapI kv r (adel l k) :: M) R h') := OpA.mk (V.delete K hx hy ok.m0 ht hd) fun v h' q => ⟨q.1, ok.put q.2⟩
theorem OpA.rng (ht : mpB P t = some (kt, et)) (ok : Hp h0 D (mapI kv r l :: M) R h) (hx : ev s x = .map (some r) := by exact rfl) :
    OpA P ⟨d, .range t x, ty, pos, af, g⟩ s h (fun v h' => ∃ b, v = .pointer (some ⟨b, 0, none⟩) ∧ Hp h0 D (itI kv b r l l :: M) R h') := OpA.mk (V.range hx ok.m0 ht) fun v h' ⟨e, it, x, hs⟩ =>
  ⟨h.size, e, ok.upd (G := none_) x (fun _ f => f.elim) _ it fun j hj => hj.elim (fun e => .inr ⟨by omega, by omega⟩) .inl⟩
theorem OpA.nxt (ok : Hp h0 D (itI kv r bm l todo :: M) R h) (hx : ev s x = .pointer (some ⟨r, 0, none⟩) := by exact rfl) :
    OpA P ⟨d, .next x false, ty, pos, af, g⟩ s h (fun v h' => (todo = [] ∧ v = .tuple #[.bool false] ∧ Hp h0 D (itI kv r bm l todo :: M) R h') ∨ (∃ i p, todo[i]? = some p ∧ v = .tuple #[.bool true, kv p.1, p.2] ∧ Hp h0 D (itcI kv r bm l (todo.eraseIdx i) p :: M) R h')) := fun E w at' => by
  have hi : Iter kv h r bm l todo := ok.m0
  obtain ⟨es, cl, si, se, c0, h1, h2, he, hs, ho, hsc, hcl, ht⟩ := hi.ex
  have w1 : w.heap[r]? = some (.mapIter (some bm) si se c0) := by rw [at'.heap]; exact h1
  have w2 : w.heap[bm]? = some (.map es cl) := by rw [at'.heap]; exact h2
  rcases run_next_at (P := P) w ty r bm si c0 se es cl w1 w2 ho hsc with ⟨hz, hr⟩ | ⟨e, hem, w', hw', hr⟩
  · refine ⟨_, h, w, .inl ⟨?_, rfl, ok⟩, at', by simp [execOp, hx, hr]⟩
    have : (leftOf es se).toList = [] := by rw [Array.eq_empty_of_size_eq_zero hz]
    rw [this] at ht
    cases todo with
    | nil => rfl
    | cons a b => simp at ht
  · obtain ⟨i, hi'⟩ := List.mem_iff_getElem?.1 hem
    obtain ⟨p, hp, hk, hv⟩ := ents_at ht hi'
    have hei : e ∈ es.toList := by unfold leftOf at hem; simp at hem; simpa using hem.1
    have hw2 : At E h w' := by rcases hw' with rfl | rfl; exact at'; exact ⟨at'.heap, at'.os, at'.tape, at'.output⟩
    obtain ⟨c1, c2, c3⟩ := set_chg (o' := .mapIter (some bm) si (se.push e.born) cl) h1
    refine ⟨.tuple #[.bool true, e.key, e.val], _, _, .inr ⟨i, p, hp, by rw [hk, hv], ok.upd c1 (fun j e => .inl e) (itcI kv r bm l (todo.eraseIdx i) p) ⟨⟨⟨es, cl, si, se.push e.born, cl, c2, c1.block h2 (fun e => hi.ne e.symm), he, hs, ho, hcl, hcl, ?_⟩⟩, ⟨⟨es, cl, si, se, e, c2, c1.block h2 (fun e => hi.ne e.symm), hei, hs.2.1, hk, hv⟩⟩⟩ (fun _ x => .inl x)⟩, hw2.set r (.mapIter (some bm) si (se.push e.born) cl), by simp [execOp, hx, hr]; rfl⟩
    have hn : ((leftOf es se).toList.map (·.born)).Nodup := by
      unfold leftOf
      rw [Array.toList_filter]
      exact hs.2.1.sublist ((List.filter_sublist).map _)
    have hl : (leftOf es (se.push e.born)).toList = (leftOf es se).toList.eraseIdx i := by
      rw [← filter_idx (·.born) hn hi']
      unfold leftOf
      rw [Array.toList_filter, Array.toList_filter, List.filter_filter]
      apply List.filter_congr
      intro x _
      simp [Bool.and_comm]
    rw [hl, map_erase, ht, map_erase]
theorem OpV.ent {p : κ × Value} (hc : Cur kv h r bm p) (hx : ev s x = .pointer (some ⟨r, 0, none⟩) := by exact rfl) : OpV P ⟨d, .entry x, ty, pos, af, g⟩ s h (.tuple #[kv p.1, p.2]) := V.entry hx hc
/-- The entry that came last is deleted. -/
theorem OpA.delC [DecidableEq κ] {dd : TypeDesc} (K : KV kv dd) {u' : TypeId} {p : κ × Value} (ht : mpB P t = some (kt, et)) (hd : P.underlying kt = some dd) (ok : Hp h0 D (itcI kv r bm l todo p :: M) R h) (hy : ev s y = kv p.1 := by exact rfl) (hx : ev s x = .map (some bm) := by exact rfl) :
    OpA P ⟨d, .call ⟨.builtin .delete, #[x, y], #[t, u']⟩, ty, pos, af, g⟩ s h (fun v h' => v = .tuple #[] ∧ Hp h0 D (itI kv r bm (adel l p.1) todo :: M) R h') := fun E w at' => by
  obtain ⟨hi, hc⟩ : Iter kv h r bm l todo ∧ Cur kv h r bm p := ok.m0
  have hne := hi.ne
  have hn := hi.map.nodup
  obtain ⟨es, cl, si, se, c0, h1, hb, he, hs, ho, hsc, hcl, htd⟩ := hi.ex
  obtain ⟨es2, cl2, si2, se2, e2, g1, g2, g3, g4, g5, g6⟩ := hc.ex
  rw [h1] at g1; rw [hb] at g2
  injection g1 with g1; injection g1 with _ g1a g1b g1c
  injection g2 with g2; injection g2 with g2a g2b
  subst g2a g1b
  have hwb : w.heap[bm]? = some (.map es cl) := by rw [at'.heap]; exact hb
  rcases MapT.find K he hn p.1 with ⟨_, _, h3⟩ | ⟨i, e, h5, h4, h7, h6, h8⟩
  · obtain ⟨j, hj⟩ := List.mem_iff_getElem?.1 g3
    obtain ⟨q, q1, q2, _⟩ := ents_at he hj
    exact absurd (K.inj _ _ (by rw [← q2, g5])) (h3 q (List.mem_of_getElem? q1))
  · have hil : i < es.size := by have := (List.getElem?_eq_some_iff.1 h4).1; simpa using this
    obtain ⟨c1, c2, c3⟩ := set_chg (o' := .map (es.eraseIdxIfInBounds i) cl) hb
    have hel : (es.eraseIdxIfInBounds i).toList = es.toList.eraseIdx i := by
      unfold Array.eraseIdxIfInBounds; rw [dif_pos hil, Array.toList_eraseIdx]
    have hee : e = e2 := by
      obtain ⟨j, hj⟩ := List.mem_iff_getElem?.1 g3
      obtain ⟨q, q1, q2, _⟩ := ents_at he hj
      obtain ⟨q', q1', q2', _⟩ := ents_at he h4
      have hqq : q.1 = q'.1 := K.inj _ _ (by rw [← q2, ← q2', g5, h7])
      have hij : i = j := by
        have hnd : (l.map (·.1)).Nodup := hn
        have a1 : (l.map (·.1))[i]? = some q'.1 := by rw [List.getElem?_map, q1']; rfl
        have a2 : (l.map (·.1))[j]? = some q'.1 := by rw [List.getElem?_map, q1, ← hqq]; rfl
        exact (List.getElem?_inj (by have := (List.getElem?_eq_some_iff.1 a1).1; exact this) hnd).1 (by rw [a1, a2])
      subst hij
      rw [h4] at hj; injection hj
    refine ⟨_, _, _, ⟨rfl, ok.upd c1 (fun j e => .inr e) _ ⟨⟨_, _, _, _, _, c1.block h1 (fun e => hne e), c2, ?_, stamped_erase hs i, fun x hx => ho x (by rw [hel] at hx; exact List.mem_of_mem_eraseIdx hx), hsc, hcl, ?_⟩⟩ (fun _ x => .inl x)⟩, at'.set bm (.map (es.eraseIdxIfInBounds i) cl), ?_⟩
    · rw [adel_some hn h6, hel, map_erase, he, map_erase]
    · unfold leftOf at htd ⊢
      rw [Array.toList_filter] at htd ⊢
      rw [hel, erase_filter _ h4 (by rw [hee]; simp)]
      exact htd
    · simp [execOp, resolve, invoke, builtin, hx, hy, Builtin.delete_, run_und (mpB_iff ht), MapKept.run_getObj_map hwb, run_checkKey hd (K.key p.1), run_findKey hd h5, run_setObj_map _ hwb]
theorem Hp.itc {p : κ × Value} (ok : Hp h0 D (itcI kv r bm l todo p :: M) R h) : Hp h0 D (itI kv r bm l todo :: M) R h := ok.re _ ok.m0.1 (fun _ x => x)
theorem Hp.itm (ok : Hp h0 D (itI kv r bm l todo :: M) R h) : Hp h0 D (mapI kv bm l :: M) R h := ok.re _ ok.m0.map (fun _ x => .inr x)
end
theorem HO.a0' {P : Program} {n : Nat} {ops : Array Oper} {l : List Oper} {o : Oper} {K : Slots → Heap → Prop} {s : Slots} {h : Heap} {R : Value → Heap → Prop} (hv : OpA P o s h R) (hk : ∀ v h', R v h' → HO P n ops l K s h') (hw : wants ops o s = true := by exact rfl) (hd : o.dst = none := by exact rfl) : HO P n ops (o :: l) K s h := HO.a0 hv hw hd hk
theorem OpV.lk {P : Program} {s : Slots} {h : Heap} {d : Option Tmp} {ty : TypeId} {pos : String} {af : Array Edge} {g : Option (Nat × Bool)} {x y : Operand} {t kt et : TypeId} {κ : Type} [DecidableEq κ] {kv : κ → Value} {dd : TypeDesc} (K : KV kv dd) {r : Nat} {l : List (κ × Value)} (k : κ) {z v : Value} (ht : mpB P t = some (kt, et)) (hd : P.underlying kt = some dd) (hz : zrB P et = some z) (hm : MapT kv h r l) (he : (aget l k).getD z = v) (hy : ev s y = kv k := by exact rfl) (hx : ev s x = .map (some r) := by exact rfl) :
    OpV P ⟨d, .lookup t x y false, ty, pos, af, g⟩ s h v := V.lookupE K hx hy hm ht hd hz he
theorem OpV.lk2 {P : Program} {s : Slots} {h : Heap} {d : Option Tmp} {ty : TypeId} {pos : String} {af : Array Edge} {g : Option (Nat × Bool)} {x y : Operand} {t kt et : TypeId} {κ : Type} [DecidableEq κ] {kv : κ → Value} {dd : TypeDesc} (K : KV kv dd) {r : Nat} {l : List (κ × Value)} (k : κ) {z v : Value} {b : Bool} (ht : mpB P t = some (kt, et)) (hd : P.underlying kt = some dd) (hz : zrB P et = some z) (hm : MapT kv h r l) (he : (aget l k).getD z = v) (hb : (aget l k).isSome = b) (hy : ev s y = kv k := by exact rfl) (hx : ev s x = .map (some r) := by exact rfl) :
    OpV P ⟨d, .lookup t x y true, ty, pos, af, g⟩ s h (.tuple #[v, .bool b]) := V.lookupOkE K hx hy hm ht hd hz he hb
end Go.HL

namespace Go.HL
open Go
theorem run_markStringish {P : Program} {h : Heap} {e : TypeId} {b o n c : Nat} {xs : List Value} (r : Cap h 1 e (.slice (some ⟨b, o, none⟩) n c) xs) {E : Env} {w : World} (at' : At E h w) :
    ∃ h' w', Cap h' 1 e (.slice (some ⟨b, o, none⟩) n c) xs ∧ Chg (fun x => x = b) h h' ∧ At E h' w' ∧ (markStringish ⟨b, o, none⟩).run P w = .ok () w' := by
  obtain ⟨a', n', c', hv, hn, hcm, hxl, hr⟩ := r
  injection hv with g1 g2 g3; subst g1 g2 g3
  rcases hr with ⟨hbad, _⟩ | ⟨b', o', cs, fz, hab, hb, hs, hf, hx⟩
  · cases hbad
  injection hab with hab; injection hab with g1 g2; subst g1 g2
  have hwb : w.heap[b]? = some (.cells cs e fz) := by rw [at'.heap]; exact hb
  obtain ⟨lo, hi⟩ := fz
  refine ⟨(w.freeze ⟨b, cs.size, none⟩ 1).heap, w.freeze ⟨b, cs.size, none⟩ 1, ⟨_, _, _, rfl, hn, hcm, hxl, .inr ⟨b, o, cs, if lo == hi then (cs.size, cs.size + 1) else (min lo cs.size, max hi (cs.size + 1)), rfl, ?_, hs, ?_, hx⟩⟩, ?_, ⟨rfl, at'.os, at'.tape, at'.output⟩, ?_⟩
  · simp [World.freeze, Array.getElem?_modify, hwb]
  · obtain ⟨h1, h2⟩ := hf
    simp only at h1 h2
    by_cases hlh : lo = hi
    · simp [hlh, fzOk]; intro j hj hj2; omega
    · have : cs.size ≤ lo := by
        rcases Nat.lt_or_ge lo cs.size with h3 | h3
        · exact absurd ⟨Nat.le_refl _, by omega⟩ (h2 lo h3)
        · exact h3
      simp only [beq_iff_eq, hlh, if_false, fzOk]
      refine ⟨by omega, fun j hj => by omega⟩
  · rw [← at'.heap]
    refine ⟨by simp [World.freeze], fun b' _ hf => ?_⟩
    have : ¬ b = b' := fun e => hf e.symm
    simp [World.freeze, Array.getElem?_modify, this]
  · simp [markStringish, shape, freeze, Sem.run, World.shape?, hwb]
section
variable {P : Program} {s : Slots} {h0 h : Heap} {D : Nat → Prop} {M R : List Itm} {d : Option Tmp} {ty : TypeId} {pos : String} {af : Array Edge} {g : Option (Nat × Bool)} {x : Operand} {t u e : TypeId}
/-- []byte of a constant string. -/
theorem OpA.cvL {b o n c : Nat} {xs : List Value} (ht : elB P t = some e) (he : inB P e = some .u8) (ok : Hp h0 D (capI 1 e (some ⟨b, o, none⟩, n, c) xs :: M) R h) (hx : ev s x = .slice (some ⟨b, o, none⟩) n c := by exact rfl) :
    OpA P ⟨d, .convert t t x, ty, pos, af, g⟩ s h (fun v h' => v = .slice (some ⟨b, o, none⟩) n c ∧ Hp h0 D (capI 1 e (some ⟨b, o, none⟩, n, c) xs :: M) R h' ∧ Chg (fun j => j = b) h h') := fun E w at' => by
  obtain ⟨h', w', hcap, hchg, at2, hr⟩ := run_markStringish (P := P) ok.m0 at'
  refine ⟨_, h', w', ⟨rfl, ok.upd hchg (fun j e => by subst e; exact ⟨o, n, c, rfl⟩) _ hcap (fun _ x => .inl x), hchg⟩, at2, ?_⟩
  simp [execOp, hx, convert, run_und (elB_iff ht), run_und (inB_iff he), hr]
def BA (l : List UInt8) : ByteArray := ⟨l.toArray⟩
@[simp] theorem BA_toList (l : List UInt8) : (BA l).toList = l := by rw [ByteArray.toList_eq]; simp [BA]
theorem fold_push (l : List UInt8) : ∀ s : ByteArray, (l.map fun x => (x.toNat : Int)).foldl (fun r n => r.push (UInt8.ofNat n.toNat)) s = ⟨s.data ++ l.toArray⟩ := by
  induction l with
  | nil => intro s; simp
  | cons a l ih => intro s; simp only [List.map_cons, List.foldl_cons, ih]; simp [ByteArray.push]
/-- string of bytes. -/
theorem OpV.bts {v : Value} {l : List UInt8} (ht : elB P t = some e) (he : inB P e = some .u8) (hu : stB P u = true) (r : Bytes h v l) (hx : ev s x = v := by exact rfl) :
    OpV P ⟨d, .convert t u x, ty, pos, af, g⟩ s h (.string (BA l)) := fun w hw => by
  obtain ⟨a, n, c, rfl, h1, h2, hr⟩ := id r
  have hc : (convert t u (.slice a n c)).run P w = (Conv.bytesToString (.slice a n c)).run P w := run_convert_bytes_string w t u e a n c (elB_iff ht) (inB_iff he) (stB_iff hu)
  have hlen : l.length = n := by have := hr.1; simpa using this
  have hb : (Conv.bytesToString (.slice a n c)).run P w = .ok (.string (BA l)) w := by
    cases a with
    | none =>
      have : n = 0 := by
        rcases Nat.eq_zero_or_pos n with e | e
        · exact e
        · obtain ⟨b, o, e2, _⟩ := hr.2 e; cases e2
      have : l = [] := List.eq_nil_of_length_eq_zero (by omega)
      subst this
      simp [Conv.bytesToString, Sem.run_pure]; rfl
    | some ad =>
      have hl : (loadCells ad n).run P w = .ok (((l.map fun x => (x.toNat : Int)).map (Value.int .u8)).toArray) w := by
        rcases Nat.eq_zero_or_pos n with e | e
        · have : l = [] := List.eq_nil_of_length_eq_zero (by omega)
          subst this; subst e
          simp [loadCells, loadCellsFrom]
        · obtain ⟨b, o, e2, hcl⟩ := hr.2 e
          injection e2 with e2; subst e2
          have := run_loadCells_list (P := P) (w := w) ⟨b, o, none⟩ ((l.map fun x => (x.toNat : Int)).map (Value.int .u8)) (fun j v hj => by
            rw [Addr.add_lit, cell?_eq, hw]
            exact hcl j v (by rw [List.map_map] at hj; exact hj))
          simpa [hlen] using this
      rw [run_bytesToString w ad n c _ hl, fold_push]
      simp [BA]
  have : (convert t u (ev s x)).run P w = .ok (.string (BA l)) w := by rw [hx, hc, hb]
  simp [execOp, this]
end
end Go.HL

namespace Go.HL
open Go Go.MapKept
theorem BA_inj {a b : List UInt8} (h : BA a = BA b) : a = b := by have := congrArg ByteArray.toList h; simpa using this
theorem BA_size (l : List UInt8) : (BA l).size = l.length := by simp [BA, ByteArray.size]
theorem BA_of (s : ByteArray) : s = BA s.data.toList := by cases s; simp [BA]
theorem BA_beq (a b : List UInt8) : ((BA a).toList == (BA b).toList) = decide (a = b) := by rw [BA_toList, BA_toList]; by_cases h : a = b <;> simp [h]
theorem BA_less (a b : List UInt8) : Op.bytesLess (BA a).toList (BA b).toList = decide (a < b) := by rw [BA_toList, BA_toList, Go.Proofs.bytesLess_eq]
theorem list_tri : ∀ a b : List UInt8, a < b ∨ a = b ∨ b < a
  | [], [] => .inr (.inl rfl)
  | [], _ :: _ => .inl (by simp)
  | _ :: _, [] => .inr (.inr (by simp))
  | x :: a, y :: b => by
    rw [List.cons_lt_cons_iff, List.cons_lt_cons_iff]
    rcases Nat.lt_trichotomy x.toNat y.toNat with h | h | h
    · exact .inl (.inl (UInt8.lt_iff_toNat_lt.2 h))
    · have h := UInt8.toNat_inj.1 h
      subst h
      rcases list_tri a b with h | h | h
      · exact .inl (.inr ⟨rfl, h⟩)
      · exact .inr (.inl (by rw [h]))
      · exact .inr (.inr (.inr ⟨rfl, h⟩))
    · exact .inr (.inr (.inl (UInt8.lt_iff_toNat_lt.2 h)))
section
variable {P : Program} {s : Slots} {h : Heap} {d : Option Tmp} {ty : TypeId} {pos : String} {af : Array Edge} {g : Option (Nat × Bool)} {x y : Operand} {t u : TypeId} {a b : List UInt8}
theorem OpV.lenT (ht : stB P t = true) (hx : ev s x = .string (BA a) := by exact rfl) : OpV P ⟨d, .call ⟨.builtin .len, #[x], #[t]⟩, ty, pos, af, g⟩ s h (.int .i64 (a.length : Nat)) := fun w _ => by
  simp [execOp, resolve, invoke, builtin, hx, Builtin.len_, goInt, BA_size, run_und (stB_iff ht)]
theorem OpV.tEqB (hx : ev s x = .string (BA a) := by exact rfl) (hy : ev s y = .string (BA b) := by exact rfl) : OpV P ⟨d, .binOp .eql t x y u, ty, pos, af, g⟩ s h (.bool (decide (a = b))) := V.stEql hx hy (BA_beq a b)
theorem OpV.tNeB (hx : ev s x = .string (BA a) := by exact rfl) (hy : ev s y = .string (BA b) := by exact rfl) : OpV P ⟨d, .binOp .neq t x y u, ty, pos, af, g⟩ s h (.bool (decide (a ≠ b))) := V.stNeq hx hy (by rw [BA_beq]; by_cases h : a = b <;> simp [h])
theorem OpV.tLtB (hx : ev s x = .string (BA a) := by exact rfl) (hy : ev s y = .string (BA b) := by exact rfl) : OpV P ⟨d, .binOp .lss t x y u, ty, pos, af, g⟩ s h (.bool (decide (a < b))) := fun w _ => by
  have := BA_less a b
  simp only [BA_toList] at this
  simp [execOp, hx, hy, eqGuard, binOp, Op.stringOp, this]
theorem OpV.tGtB (hx : ev s x = .string (BA a) := by exact rfl) (hy : ev s y = .string (BA b) := by exact rfl) : OpV P ⟨d, .binOp .gtr t x y u, ty, pos, af, g⟩ s h (.bool (decide (b < a))) := fun w _ => by
  have h1 := BA_less a b
  simp only [BA_toList] at h1
  have h2 : (!(decide (a < b) || a == b)) = decide (b < a) := by
    by_cases h : a = b
    · subst h; simp [List.lt_irrefl]
    · rcases list_tri a b with h3 | h3 | h3
      · simp [h, h3, List.lt_asymm h3]
      · exact absurd h3 h
      · simp [h, h3, List.lt_asymm h3]
  simp [execOp, hx, hy, eqGuard, binOp, Op.stringOp, h1]
  simpa using h2
end
@[reducible] def kvB (n : List UInt8) : Value := .string (BA n)
theorem KV.ba : KV kvB .string := ⟨fun a b h => BA_inj (KV.string.inj _ _ h), fun a => KV.string.key (BA a)⟩
theorem sbB (a : List UInt8) (n : Nat) : Instr.sameBits n (kvB a) (kvB a) = true := V.sbT (BA a) n
/-- A name, in a row of strings. -/
structure Nm where
  n : List UInt8
instance : Rep Nm := Rep.flat (fun a => kvB a.n) fun _ => rfl
theorem RdL.nm {h : Heap} {F E : Nat → Prop} {L : List (List UInt8)} {b o n c : Nat} (r : RdL h F E (some ⟨b, o, none⟩, n, c) (L.map Nm.mk)) {i : Nat} (hi : i < L.length) : cell h b (o + i) = some (.string (BA L[i])) := by
  obtain ⟨cs, h1, h2⟩ := r.el (i := i) (by simpa using hi)
  have h3 : cs = [kvB L[i]] := by have h4 : cs = [kvB ((L.map Nm.mk)[i]'(by simpa using hi)).n] := h1; simpa using h4
  subst h3
  have := h2 0 _ rfl
  simpa [Rep.k] using this
/-- A call of a function value. -/
theorem OpC.dyn {P : Program} {s : Slots} {h : Heap} {d : Option Tmp} {ty : TypeId} {pos : String} {af : Array Edge} {g : Option (Nat × Bool)} {x : Operand} {xs : Array Operand} {ts : Array TypeId} {f : FuncId} {caps : Array Value} {args : List Value} (hx : ev s x = .func (.func f) #[] caps := by exact rfl) (ha : xs.toList.map (ev s) ++ caps.toList = args := by exact rfl) :
    OpC P ⟨d, .call ⟨.value x, xs, ts⟩, ty, pos, af, g⟩ s h f args.toArray := fun w _ hc => by
  have ha' : xs.map (ev s) ++ caps = args.toArray := by rw [← ha]; apply Array.ext'; simp
  rw [← ha']
  obtain ⟨fn, hf, hb, hbody⟩ := hc
  have h2' : ¬ fn.name = "runtime.NumGoroutine" := by simpa using hb
  have h3' : ¬ fn.body = none := by intro e; simp [e] at hbody
  simp [execOp, resolve, hx, Deferred.ofValue, invoke, callFunc, hf, h2', h3']
end Go.HL

namespace Go.HL
open Go
@[reducible] def apart (l : List Itm) : Prop := l.Pairwise fun (a b : Itm) => ∀ j, a.F j → ¬ b.F j
/-- Items that are apart from each other, as one. -/
@[reducible] def starI (l : List Itm) : Itm := ⟨fun h => (∀ i ∈ l, i.p h) ∧ apart l, fun j => ∃ i ∈ l, i.F j, fun _ _ _ c d hp => ⟨fun i hi => i.st _ _ _ c (fun j hj => d j ⟨i, hi, hj⟩) (hp.1 i hi), hp.2⟩⟩
section
variable {h0 h h' h1 : Heap} {D G : Nat → Prop} {M R : List Itm} {a b c x y : Itm} {l l' : List Itm}
theorem Hp.unstar (ok : Hp h0 D (starI l :: M) R h) : Hp h0 D (l ++ M) R h := by
  have hs := (ok.m _ List.mem_cons_self)
  have hmm := List.pairwise_cons.1 ok.mm
  refine ⟨ok.chg, fun i hi => ?_, ok.r, List.pairwise_append.2 ⟨hs.1.2, hmm.2, fun p hp q hq j hj hj2 => hmm.1 q hq j ⟨p, hp, hj⟩ hj2⟩, fun p hp q hq j hj hj2 => ?_⟩
  · rcases List.mem_append.1 hi with hi | hi
    · exact ⟨hs.1.1 i hi, fun j hj => hs.2 j ⟨i, hi, hj⟩⟩
    · exact ok.m i (List.mem_cons_of_mem _ hi)
  · rcases List.mem_append.1 hp with hp | hp
    · exact ok.mr _ List.mem_cons_self q hq j ⟨p, hp, hj⟩ hj2
    · exact ok.mr p (List.mem_cons_of_mem _ hp) q hq j hj hj2
theorem Hp.star (ok : Hp h0 D (l ++ M) R h) : Hp h0 D (starI l :: M) R h := by
  have hmm := List.pairwise_append.1 ok.mm
  refine ⟨ok.chg, fun i hi => ?_, ok.r, List.pairwise_cons.2 ⟨fun q hq j ⟨p, hp, hj⟩ hj2 => hmm.2.2 p hp q hq j hj hj2, hmm.2.1⟩, fun p hp q hq j hj hj2 => ?_⟩
  · rcases List.mem_cons.1 hi with rfl | hi
    · exact ⟨⟨fun i hi => (ok.m i (List.mem_append_left _ hi)).1, hmm.1⟩, fun j ⟨i, hi, hj⟩ => (ok.m i (List.mem_append_left _ hi)).2 j hj⟩
    · exact ok.m i (List.mem_append_right _ hi)
  · rcases List.mem_cons.1 hp with rfl | hp
    · obtain ⟨i, hi, hj⟩ := hj
      exact ok.mr i (List.mem_append_left _ hi) q hq j hj hj2
    · exact ok.mr p (List.mem_append_right _ hp) q hq j hj hj2
theorem Hp.starP (ok : Hp h0 D (starI l :: M) R h) (p : l'.Perm l) : Hp h0 D (starI l' :: M) R h := (ok.unstar.perm (p.append_right M)).star
theorem Hp.star1 (ok : Hp h0 D (starI (a :: l) :: M) R h) : Hp h0 D (a :: starI l :: M) R h := Hp.n1 ((ok.unstar.perm (M' := l ++ a :: M) List.perm_middle).star)
theorem Hp.star2 (ok : Hp h0 D (starI (a :: b :: l) :: M) R h) : Hp h0 D (a :: b :: starI l :: M) R h := by
  have o : Hp h0 D (starI l :: a :: b :: M) R h := (ok.unstar.perm (M' := l ++ a :: b :: M) (by simpa using (List.perm_append_comm (l₁ := l) (l₂ := [a, b])).append_right M)).star
  exact o.n2.n2
theorem Hp.unstar1 (ok : Hp h0 D (a :: starI l :: M) R h) : Hp h0 D (starI (a :: l) :: M) R h := Hp.star ((ok.n1.unstar).perm (M' := a :: (l ++ M)) List.perm_middle.symm)
theorem Hp.unstar2 (ok : Hp h0 D (a :: b :: starI l :: M) R h) : Hp h0 D (starI (a :: b :: l) :: M) R h :=
  Hp.star ((ok.n2.unstar).perm (M' := a :: b :: (l ++ M)) (by simpa using (List.perm_append_comm (l₁ := [a, b]) (l₂ := l)).append_right M))
end
section
variable {h0 h : Heap} {D : Nat → Prop} {M R : List Itm} {q0 q1 q2 q3 q4 q5 q6 q7 q8 q9 : Itm}
theorem Hp.e5 (ok : Hp h0 D M (q0 :: q1 :: q2 :: q3 :: q4 :: R) h) : Hp h0 D M [q0, q1, q2, q3, q4] h := ok.sub (by simp)
theorem Hp.e6 (ok : Hp h0 D M (q0 :: q1 :: q2 :: q3 :: q4 :: q5 :: R) h) : Hp h0 D M [q0, q1, q2, q3, q4, q5] h := ok.sub (by simp)
theorem Hp.e7 (ok : Hp h0 D M (q0 :: q1 :: q2 :: q3 :: q4 :: q5 :: q6 :: R) h) : Hp h0 D M [q0, q1, q2, q3, q4, q5, q6] h := ok.sub (by simp)
theorem Hp.f6 (ok : Hp h0 D M (q0 :: q1 :: q2 :: q3 :: q4 :: q5 :: q6 :: R) h) : Hp h0 D M (q6 :: q0 :: q1 :: q2 :: q3 :: q4 :: q5 :: R) h := ok.sub (by simp; grind)
theorem Hp.f7 (ok : Hp h0 D M (q0 :: q1 :: q2 :: q3 :: q4 :: q5 :: q6 :: q7 :: R) h) : Hp h0 D M (q7 :: q0 :: q1 :: q2 :: q3 :: q4 :: q5 :: q6 :: R) h := ok.sub (by simp; grind)
theorem Hp.f8 (ok : Hp h0 D M (q0 :: q1 :: q2 :: q3 :: q4 :: q5 :: q6 :: q7 :: q8 :: R) h) : Hp h0 D M (q8 :: q0 :: q1 :: q2 :: q3 :: q4 :: q5 :: q6 :: q7 :: R) h := ok.sub (by simp; grind)
theorem Hp.f9 (ok : Hp h0 D M (q0 :: q1 :: q2 :: q3 :: q4 :: q5 :: q6 :: q7 :: q8 :: q9 :: R) h) : Hp h0 D M (q9 :: q0 :: q1 :: q2 :: q3 :: q4 :: q5 :: q6 :: q7 :: q8 :: R) h := ok.sub (by simp; grind)
theorem Hp.l7 (ok : Hp h0 D M (q0 :: q1 :: q2 :: q3 :: q4 :: q5 :: q6 :: q7 :: R) h) : ∀ j, q7.F j → j < h.size := (ok.r q7 (by simp)).2
theorem Hp.l8 (ok : Hp h0 D M (q0 :: q1 :: q2 :: q3 :: q4 :: q5 :: q6 :: q7 :: q8 :: R) h) : ∀ j, q8.F j → j < h.size := (ok.r q8 (by simp)).2
theorem Hp.l9 (ok : Hp h0 D M (q0 :: q1 :: q2 :: q3 :: q4 :: q5 :: q6 :: q7 :: q8 :: q9 :: R) h) : ∀ j, q9.F j → j < h.size := (ok.r q9 (by simp)).2
theorem Hp.d6 (ok : Hp h0 D M (q0 :: q1 :: q2 :: q3 :: q4 :: q5 :: q6 :: R) h) (it : Itm) (hp : it.p h) (hF : ∀ j, it.F j → q6.F j := by exact fun _ x => x) : Hp h0 D M (it :: q0 :: q1 :: q2 :: q3 :: q4 :: q5 :: q6 :: R) h := ok.der (r := q6) (by simp) it hp hF
theorem Hp.d7 (ok : Hp h0 D M (q0 :: q1 :: q2 :: q3 :: q4 :: q5 :: q6 :: q7 :: R) h) (it : Itm) (hp : it.p h) (hF : ∀ j, it.F j → q7.F j := by exact fun _ x => x) : Hp h0 D M (it :: q0 :: q1 :: q2 :: q3 :: q4 :: q5 :: q6 :: q7 :: R) h := ok.der (r := q7) (by simp) it hp hF
theorem Hp.d8 (ok : Hp h0 D M (q0 :: q1 :: q2 :: q3 :: q4 :: q5 :: q6 :: q7 :: q8 :: R) h) (it : Itm) (hp : it.p h) (hF : ∀ j, it.F j → q8.F j := by exact fun _ x => x) : Hp h0 D M (it :: q0 :: q1 :: q2 :: q3 :: q4 :: q5 :: q6 :: q7 :: q8 :: R) h := ok.der (r := q8) (by simp) it hp hF
theorem Hp.d9 (ok : Hp h0 D M (q0 :: q1 :: q2 :: q3 :: q4 :: q5 :: q6 :: q7 :: q8 :: q9 :: R) h) (it : Itm) (hp : it.p h) (hF : ∀ j, it.F j → q9.F j := by exact fun _ x => x) : Hp h0 D M (it :: q0 :: q1 :: q2 :: q3 :: q4 :: q5 :: q6 :: q7 :: q8 :: q9 :: R) h := ok.der (r := q9) (by simp) it hp hF
end
end Go.HL

namespace Go.Proofs.Ytpebbkhainpfaaa
open Go Go.HL
/-- A change: its kind (0 write, 1 truncate, 2 remove), its place or length, its bytes. -/
structure Chn where
  kind : Nat
  pos : Nat
  b : List UInt8
def longN (b : List UInt8) (n : Nat) : List UInt8 := b.take n ++ List.replicate (n - b.length) 0
theorem longN_len (b : List UInt8) (n : Nat) : (longN b n).length = n := by simp [longN]; omega
theorem longN_le {b : List UInt8} {n : Nat} (h : n ≤ b.length) : longN b n = b.take n := by simp [longN, Nat.sub_eq_zero_of_le h]
theorem longN_ge {b : List UInt8} {n : Nat} (h : b.length ≤ n) : longN b n = b ++ List.replicate (n - b.length) 0 := by simp [longN, List.take_of_length_le h]
def patchN (o : List UInt8) (p : Nat) (b : List UInt8) : List UInt8 := o.take p ++ b ++ o.drop (p + b.length)
theorem patchN_len {o : List UInt8} {p : Nat} {b : List UInt8} (h : p + b.length ≤ o.length) : (patchN o p b).length = o.length := by simp [patchN]; omega
def doneN (c : Chn) (b : List UInt8) (here : Bool) : List UInt8 × Bool :=
  if c.kind = 0 then (patchN (longN b (max b.length (c.pos + c.b.length))) c.pos c.b, true) else if c.kind = 1 ∧ here = true then (longN b c.pos, true) else ([], false)
def keptN (c : Chn) (k : Nat) : Chn × Bool :=
  if c.kind ≠ 0 then (c, decide (128 ≤ k)) else (if k ≠ 255 then ⟨c.kind, c.pos, c.b.take (c.b.length * k / 255)⟩ else c, decide (k ≠ 0))
structure Fl where
  now : List UInt8
  safe : List UInt8
  here : Bool
  was : Bool
  opn : List Chn
structure Dk where
  fs : List UInt8 → Option Fl
  dark : Bool
  left : Int
  chg : Int
def put1 (f : List UInt8 → Option Fl) (n : List UInt8) (v : Option Fl) : List UInt8 → Option Fl := fun m => if m = n then v else f m
theorem put1_at (f : List UInt8 → Option Fl) (n : List UInt8) (v : Option Fl) : put1 f n v n = v := by simp [put1]
theorem put1_ne {f : List UInt8 → Option Fl} {n m : List UInt8} {v : Option Fl} (h : m ≠ n) : put1 f n v m = f m := by simp [put1, h]
def noF : Fl := ⟨[], [], false, false, []⟩
/-- What is wrong with a call (0: nothing). -/
def wrongN (d : Dk) (n : List UInt8) (zs : List Int) : Nat := if n.length < 1 ∨ 32 < n.length ∨ (∃ z ∈ zs, z < 0) then 1 else if d.dark = true then 13 else 0
def powerN (d : Dk) : Dk × Nat := if d.left = 0 then (⟨d.fs, true, d.left, d.chg⟩, 13) else (⟨d.fs, d.dark, if 0 < d.left then d.left - 1 else d.left, d.chg + 1⟩, 0)
def chgF (f : Fl) (c : Chn) : Fl := ⟨(doneN c f.now f.here).1, f.safe, (doneN c f.now f.here).2, f.was, f.opn ++ [c]⟩
def doN (d : Dk) (n : List UInt8) (c : Chn) : Dk × Nat :=
  if d.left = 0 then powerN d else (⟨put1 d.fs n (some (chgF ((d.fs n).getD noF) c)), d.dark, if 0 < d.left then d.left - 1 else d.left, d.chg + 1⟩, 0)
def thereN (d : Dk) (n : List UInt8) : Bool := match d.fs n with | some f => f.here | none => false
def writeN (d : Dk) (n : List UInt8) (pos : Int) (b : List UInt8) : Dk × Nat :=
  if wrongN d n [pos] ≠ 0 then (d, wrongN d n [pos]) else if 16777216 < pos ∨ 16777216 - pos < b.length then (d, 5) else doN d n ⟨0, pos.toNat, b⟩
def truncN (d : Dk) (n : List UInt8) (z : Int) : Dk × Nat :=
  if wrongN d n [z] ≠ 0 then (d, wrongN d n [z]) else if thereN d n = false then (d, 4) else if 16777216 < z then (d, 5) else doN d n ⟨1, z.toNat, []⟩
def removeN (d : Dk) (n : List UInt8) : Dk × Nat :=
  if wrongN d n [] ≠ 0 then (d, wrongN d n []) else if thereN d n = false then (d, 4) else doN d n ⟨2, 0, []⟩
def settleF (f : Fl) : Option Fl := if f.here = true then some ⟨f.now, f.now, true, true, []⟩ else none
def syncN (d : Dk) (n : List UInt8) : Dk × Nat :=
  if wrongN d n [] ≠ 0 then (d, wrongN d n []) else match d.fs n with
    | none => (d, 4)
    | some f => if f.here = false ∧ f.opn = [] then (d, 4) else if d.left = 0 then powerN d else (⟨put1 d.fs n (settleF f), d.dark, if 0 < d.left then d.left - 1 else d.left, d.chg + 1⟩, 0)
def readN (d : Dk) (n : List UInt8) (pos z : Int) : List UInt8 × Nat :=
  if wrongN d n [pos, z] ≠ 0 then ([], wrongN d n [pos, z]) else match d.fs n with
    | none => ([], 4)
    | some f => if f.here = false then ([], 4) else ((f.now.drop pos.toNat).take z.toNat, 0)
def sizeN (d : Dk) (n : List UInt8) : Nat × Bool := if d.dark = true ∨ thereN d n = false then (0, false) else (((d.fs n).getD noF).now.length, true)
def cutN (d : Dk) (z : Int) : Dk := if d.dark = true then d else ⟨d.fs, d.dark, max z (-1), d.chg⟩
/-- What a crash makes of a file's bytes. -/
def crC : List UInt8 → Bool → List Chn → List UInt8 → List UInt8 × Bool
  | b, h, [], _ => (b, h)
  | b, h, c :: l, ks =>
    let p := keptN c (ks.headD 0).toNat
    if p.2 = true ∧ (c.kind = 0 ∨ h = true) then crC (doneN p.1 b h).1 (doneN p.1 b h).2 l ks.tail else crC b h l ks.tail
def crF (f : Fl) (ks : List UInt8) : Option Fl := settleF ⟨(crC f.safe f.was f.opn ks).1, f.safe, (crC f.safe f.was f.opn ks).2, f.was, f.opn⟩
def crashL : (List UInt8 → Option Fl) → List (List UInt8) → List UInt8 → List UInt8 → Option Fl
  | fs, [], _ => fs
  | fs, n :: ns, ks => match fs n with
    | none => crashL fs ns ks
    | some f => crashL (put1 fs n (crF f ks)) ns (ks.drop f.opn.length)
def crashN (d : Dk) (ns : List (List UInt8)) (ks : List UInt8) : Dk := ⟨crashL d.fs ns ks, false, -1, d.chg⟩
/-- The names of the files, rising. -/
structure Keys (fs : List UInt8 → Option Fl) (ns : List (List UInt8)) : Prop where
  up : ns.Pairwise (· < ·)
  iff : ∀ n, n ∈ ns ↔ (fs n).isSome = true
/-! ### What holds of every disk -/
structure ChOk (c : Chn) : Prop where
  kind : c.kind ≤ 2
  fit : c.pos + c.b.length ≤ 16777216
structure FlOk (f : Fl) : Prop where
  now : f.now.length ≤ 16777216
  safe : f.safe.length ≤ 16777216
  opn : ∀ c ∈ f.opn, ChOk c
structure DkOk (d : Dk) : Prop where
  fs : ∀ n f, d.fs n = some f → FlOk f ∧ (f.opn.length : Int) ≤ d.chg
  chg : 0 ≤ d.chg
  left : d.left ≤ 9223372036854775807
  cnt : ∃ ks : List (List UInt8), (ks.length : Int) ≤ d.chg ∧ ∀ n f, d.fs n = some f → n ∈ ks ∧ n.length ≤ 32
theorem doneN_len {c : Chn} {b : List UInt8} {here : Bool} (hc : ChOk c) (hb : b.length ≤ 16777216) : (doneN c b here).1.length ≤ 16777216 := by
  have h1 := hc.fit
  unfold doneN
  split
  · rw [patchN_len (by rw [longN_len]; omega), longN_len]; omega
  · split
    · rw [longN_len]; omega
    · simp
theorem DkOk.power {d : Dk} (k : DkOk d) : DkOk (powerN d).1 := by
  unfold powerN
  split
  · exact ⟨k.fs, k.chg, k.left, k.cnt⟩
  · refine ⟨fun n f h => ⟨(k.fs n f h).1, ?_⟩, ?_, ?_, let ⟨ks, h1, h2⟩ := k.cnt; ⟨ks, (by simp only; omega), h2⟩⟩
    · have := (k.fs n f h).2; simp only; omega
    · have := k.chg; simp only; omega
    · have := k.left; simp only; split <;> omega
theorem wrongN_ok {d : Dk} {n : List UInt8} {zs : List Int} (h : wrongN d n zs = 0) : 1 ≤ n.length ∧ n.length ≤ 32 ∧ (∀ z ∈ zs, 0 ≤ z) ∧ d.dark = false := by
  unfold wrongN at h
  split at h
  · cases h
  · rename_i h1
    split at h
    · cases h
    · rename_i h2
      refine ⟨by omega, by omega, fun z hz => ?_, by simpa using h2⟩
      by_cases h3 : z < 0
      · exact absurd (.inr (.inr ⟨z, hz, h3⟩)) h1
      · omega
theorem noF_ok : FlOk noF := ⟨by simp [noF], by simp [noF], by simp [noF]⟩
theorem DkOk.getD {d : Dk} (k : DkOk d) (n : List UInt8) : FlOk ((d.fs n).getD noF) ∧ ((((d.fs n).getD noF).opn.length : Nat) : Int) ≤ d.chg := by
  cases h : d.fs n with
  | none => exact ⟨noF_ok, by simpa [noF] using k.chg⟩
  | some f => exact k.fs n f h
theorem DkOk.do {d : Dk} (k : DkOk d) {n : List UInt8} {c : Chn} (hc : ChOk c) (hn : n.length ≤ 32) : DkOk (doN d n c).1 := by
  unfold doN
  split
  · exact k.power
  · have hg := k.getD n
    refine ⟨fun m f h => ?_, by have := k.chg; simp only; omega, by have := k.left; simp only; split <;> omega, let ⟨ks, h1, h2⟩ := k.cnt; ⟨n :: ks, (by simp only [List.length_cons]; omega), fun m f h => ?_⟩⟩
    rotate_left
    · simp only [put1] at h
      split at h
      · rename_i hm; subst hm; exact ⟨List.mem_cons_self, hn⟩
      · exact ⟨List.mem_cons_of_mem _ (h2 m f h).1, (h2 m f h).2⟩
    simp only [put1] at h
    split at h
    · injection h with h; subst h
      exact ⟨⟨doneN_len hc hg.1.now, hg.1.safe, fun x hx => (List.mem_append.1 hx).elim (hg.1.opn x) fun h => by rw [List.mem_singleton.1 h]; exact hc⟩, by have := hg.2; simp [chgF]; omega⟩
    · have := (k.fs m f h).2; exact ⟨(k.fs m f h).1, by simp only; omega⟩
theorem settleF_ok {f g : Fl} (k : FlOk f) (h : settleF f = some g) : FlOk g ∧ g.opn = [] := by
  unfold settleF at h
  split at h
  · injection h with h; subst h; exact ⟨⟨k.now, k.now, by simp⟩, rfl⟩
  · cases h
theorem DkOk.sync {d : Dk} (k : DkOk d) {n : List UInt8} : DkOk (syncN d n).1 := by
  unfold syncN
  split
  · exact k
  · split
    · exact k
    · rename_i f hf
      split
      · exact k
      · split
        · exact k.power
        · refine ⟨fun m g h => ?_, by have := k.chg; simp only; omega, by have := k.left; simp only; split <;> omega, let ⟨ks, h1, h2⟩ := k.cnt; ⟨ks, (by simp only; omega), fun m g h => ?_⟩⟩
          rotate_left
          · simp only [put1] at h
            split at h
            · rename_i hm; subst hm; exact h2 _ _ hf
            · exact h2 m g h
          simp only [put1] at h
          split at h
          · have h1 := settleF_ok (k.fs n f hf).1 h
            exact ⟨h1.1, by rw [h1.2]; have := k.chg; simp; omega⟩
          · have := (k.fs m g h).2; exact ⟨(k.fs m g h).1, by simp only; omega⟩
theorem DkOk.write {d : Dk} (k : DkOk d) {n : List UInt8} {pos : Int} {b : List UInt8} : DkOk (writeN d n pos b).1 := by
  unfold writeN
  split
  · exact k
  · split
    · exact k
    · rename_i h0 h1
      have h2 := (wrongN_ok (d := d) (n := n) (zs := [pos]) (by simpa using h0)).2.2.1 pos (by simp)
      refine k.do ⟨by simp, ?_⟩ (wrongN_ok (d := d) (n := n) (zs := [pos]) (by simpa using h0)).2.1
      simp only; omega
theorem DkOk.trunc {d : Dk} (k : DkOk d) {n : List UInt8} {z : Int} : DkOk (truncN d n z).1 := by
  unfold truncN
  split
  · exact k
  · rename_i h0
    have hn := (wrongN_ok (d := d) (n := n) (zs := [z]) (by simpa using h0)).2.1
    repeat' split
    · exact k
    · exact k
    · exact k.do ⟨by simp, by simp; omega⟩ hn
theorem DkOk.remove {d : Dk} (k : DkOk d) {n : List UInt8} : DkOk (removeN d n).1 := by
  unfold removeN
  split
  · exact k
  · rename_i h0
    have hn := (wrongN_ok (d := d) (n := n) (zs := []) (by simpa using h0)).2.1
    split
    · exact k
    · exact k.do ⟨by simp, by simp⟩ hn
theorem DkOk.cut {d : Dk} (k : DkOk d) {z : Int} (hz : z ≤ 9223372036854775807) : DkOk (cutN d z) := by
  unfold cutN
  split
  · exact k
  · exact ⟨k.fs, k.chg, by simp only; omega, k.cnt⟩
theorem keptN_ok {c : Chn} {k : Nat} (h : ChOk c) : ChOk (keptN c k).1 := by
  have h1 := h.fit
  have h2 := h.kind
  unfold keptN
  split
  · exact h
  · split
    · exact ⟨h2, by simp; omega⟩
    · exact h
theorem crC_len : ∀ {l : List Chn} {b : List UInt8} {here : Bool} {ks : List UInt8}, (∀ c ∈ l, ChOk c) → b.length ≤ 16777216 → (crC b here l ks).1.length ≤ 16777216
  | [], _, _, _, _, hb => hb
  | c :: l, b, here, ks, hc, hb => by
    unfold crC
    simp only
    split
    · exact crC_len (fun x hx => hc x (List.mem_cons_of_mem _ hx)) (doneN_len (keptN_ok (hc c List.mem_cons_self)) hb)
    · exact crC_len (fun x hx => hc x (List.mem_cons_of_mem _ hx)) hb
theorem crF_ok {f g : Fl} {ks : List UInt8} (k : FlOk f) (h : crF f ks = some g) : FlOk g ∧ g.opn = [] := settleF_ok (f := ⟨(crC f.safe f.was f.opn ks).1, f.safe, (crC f.safe f.was f.opn ks).2, f.was, f.opn⟩) ⟨crC_len k.opn k.safe, k.safe, k.opn⟩ h
theorem crashL_ok {P : Fl → Prop} (hP : ∀ f g ks, P f → crF f ks = some g → P g) : ∀ {ns : List (List UInt8)} {fs : List UInt8 → Option Fl} {ks : List UInt8}, (∀ n f, fs n = some f → P f) → ∀ n f, crashL fs ns ks n = some f → P f
  | [], _, _, h => h
  | m :: ns, fs, ks, h => by
    unfold crashL
    cases hm : fs m with
    | none => exact crashL_ok hP h
    | some f =>
      refine crashL_ok hP fun n g hg => ?_
      simp only [put1] at hg
      split at hg
      · exact hP f g ks (h m f hm) hg
      · exact h n g hg
theorem crashL_some : ∀ {ns : List (List UInt8)} {fs : List UInt8 → Option Fl} {ks : List UInt8} {n : List UInt8} {f : Fl}, crashL fs ns ks n = some f → ∃ g, fs n = some g
  | [], _, _, _, f, h => ⟨f, h⟩
  | m :: ns, fs, ks, n, f, h => by
    unfold crashL at h
    cases hm : fs m with
    | none => rw [hm] at h; exact crashL_some h
    | some g =>
      rw [hm] at h
      obtain ⟨g', hg'⟩ := crashL_some h
      simp only [put1] at hg'
      split at hg'
      · rename_i e; subst e; exact ⟨g, hm⟩
      · exact ⟨g', hg'⟩
theorem DkOk.crash {d : Dk} (k : DkOk d) {ns : List (List UInt8)} {ks : List UInt8} : DkOk (crashN d ns ks) := by
  have h1 := k.chg
  refine ⟨fun n f h => ?_, k.chg, by simp [crashN], let ⟨ks, h1, h2⟩ := k.cnt; ⟨ks, h1, fun n f h => let ⟨g, hg⟩ := crashL_some h; h2 n g hg⟩⟩
  exact crashL_ok (P := fun f => FlOk f ∧ (f.opn.length : Int) ≤ d.chg) (fun f g ks h hg => by
    have h2 := crF_ok h.1 hg
    exact ⟨h2.1, by rw [h2.2]; simpa using h1⟩) k.fs n f h
def newN : Dk := ⟨fun _ => none, false, -1, 0⟩
theorem newN_ok : DkOk newN := ⟨fun _ _ h => (by cases h), by simp [newN], by simp [newN], ⟨[], by simp [newN], fun _ _ h => (by cases h)⟩⟩
end Go.Proofs.Ytpebbkhainpfaaa
