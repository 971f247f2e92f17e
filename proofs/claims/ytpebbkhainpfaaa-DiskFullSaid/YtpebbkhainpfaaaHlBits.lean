/- Operations on the bits of numbers that are not below 0, as rules of the logic. Conditions: those that each rule names. -/
import Derived.Test.YtpebbkhainpfaaaHlRep
import Derived.Lib.MakeNoZero
namespace Go.HL
open Go

theorem wrap_nat {k : IntKind} (hk : k.signed = false) (n : Nat) : k.wrap (n : Int) = ((n % 2 ^ k.bits : Nat) : Int) := by
  unfold IntKind.wrap
  simp [hk]
theorem wrap_lt {k : IntKind} (hk : k.signed = false) {n : Nat} (h : n < 2 ^ k.bits) : k.wrap (n : Int) = (n : Int) := by
  rw [wrap_nat hk, Nat.mod_eq_of_lt h]
theorem bv_nat (w n : Nat) : BitVec.ofInt w (n : Int) = BitVec.ofNat w n := by simp
theorem byte_lt (x : UInt8) : x.toNat < 256 := x.toNat_lt
namespace OpV
variable {P : Program} {s : Slots} {h : Heap} {d : Option Tmp} {ty : TypeId} {pos : String} {af : Array Edge} {g : Option (Nat × Bool)} {x y c : Operand} {t u : TypeId} {k : IntKind} {a b : Nat}
section
variable {M : Nat}
theorem bxor (hM : M = 2 ^ k.bits) (hk : k.signed = false) (hx : ev s x = .int k (a : Nat) := by exact rfl) (hy : ev s y = .int k (b : Nat) := by exact rfl) (ha : a < M := by first | omega | exact Nat.lt_trans (byte_lt _) (by decide)) (hb : b < M := by first | omega | exact Nat.lt_trans (byte_lt _) (by decide)) :
    OpV P ⟨d, .binOp .xor t x y u, ty, pos, af, g⟩ s h (.int k ((a ^^^ b : Nat) : Int)) := fun w _ => by
  subst hM
  have h1 : a ^^^ b < 2 ^ k.bits := Nat.xor_lt_two_pow ha hb
  have h2 : (BitVec.ofNat k.bits a ^^^ BitVec.ofNat k.bits b).toNat = a ^^^ b := by simp [Nat.mod_eq_of_lt ha, Nat.mod_eq_of_lt hb]
  simp only [execOp, hx, hy, binOp, Op.intBits, bv_nat, h2, wrap_lt hk h1]
  simp [V.eqG]
theorem band (hM : M = 2 ^ k.bits) (hk : k.signed = false) (hx : ev s x = .int k (a : Nat) := by exact rfl) (hy : ev s y = .int k (b : Nat) := by exact rfl) (ha : a < M := by first | omega | exact Nat.lt_trans (byte_lt _) (by decide)) (hb : b < M := by first | omega | exact Nat.lt_trans (byte_lt _) (by decide)) :
    OpV P ⟨d, .binOp .and t x y u, ty, pos, af, g⟩ s h (.int k ((a &&& b : Nat) : Int)) := fun w _ => by
  subst hM
  have h1 : a &&& b < 2 ^ k.bits := Nat.and_lt_two_pow a hb
  have h2 : (BitVec.ofNat k.bits a &&& BitVec.ofNat k.bits b).toNat = a &&& b := by simp [Nat.mod_eq_of_lt ha, Nat.mod_eq_of_lt hb]
  simp only [execOp, hx, hy, binOp, Op.intBits, bv_nat, h2, wrap_lt hk h1]
  simp [V.eqG]
theorem bor (hM : M = 2 ^ k.bits) (hk : k.signed = false) (hx : ev s x = .int k (a : Nat) := by exact rfl) (hy : ev s y = .int k (b : Nat) := by exact rfl) (ha : a < M := by first | omega | exact Nat.lt_trans (byte_lt _) (by decide)) (hb : b < M := by first | omega | exact Nat.lt_trans (byte_lt _) (by decide)) :
    OpV P ⟨d, .binOp .or t x y u, ty, pos, af, g⟩ s h (.int k ((a ||| b : Nat) : Int)) := fun w _ => by
  subst hM
  have h1 : a ||| b < 2 ^ k.bits := Nat.or_lt_two_pow ha hb
  have h2 : (BitVec.ofNat k.bits a ||| BitVec.ofNat k.bits b).toNat = a ||| b := by simp [Nat.mod_eq_of_lt ha, Nat.mod_eq_of_lt hb]
  simp only [execOp, hx, hy, binOp, Op.intBits, bv_nat, h2, wrap_lt hk h1]
  simp [V.eqG]
/-- n & (n - 1) and the like, at ints that are not below 0. -/
theorem bandI {z1 z2 : Int} (a b : Nat) (hx : ev s x = .int .i64 z1 := by exact rfl) (hy : ev s y = .int .i64 z2 := by exact rfl) (hab : z1 = a ∧ z2 = b ∧ a < 9223372036854775808 ∧ b < 9223372036854775808 := by omega) :
    OpV P ⟨d, .binOp .and t x y u, ty, pos, af, g⟩ s h (.int .i64 ((a &&& b : Nat) : Int)) := fun w _ => by
  obtain ⟨rfl, rfl, ha, hb⟩ := hab
  have h1 : a &&& b < 2 ^ 63 := Nat.and_lt_two_pow a hb
  have h2 : (BitVec.ofNat 64 a &&& BitVec.ofNat 64 b).toNat = a &&& b := by simp [Nat.mod_eq_of_lt (show a < 2 ^ 64 by omega), Nat.mod_eq_of_lt (show b < 2 ^ 64 by omega)]
  have h3 : IntKind.i64.wrap ((a &&& b : Nat) : Int) = ((a &&& b : Nat) : Int) := IntWalk.i64_in _ (by omega)
  have h4 : (BitVec.ofInt IntKind.i64.bits (a : Int) &&& BitVec.ofInt IntKind.i64.bits (b : Int)).toNat = a &&& b := by rw [bv_nat, bv_nat]; exact h2
  simp only [execOp, hx, hy, binOp, Op.intBits, h4, h3]
  simp [V.eqG]
theorem addn (hM : M = 2 ^ k.bits) (hk : k.signed = false) (hx : ev s x = .int k (a : Nat) := by exact rfl) (hy : ev s y = .int k (b : Nat) := by exact rfl) :
    OpV P ⟨d, .binOp .add t x y u, ty, pos, af, g⟩ s h (.int k (((a + b) % M : Nat) : Int)) := by
  subst hM
  have := V.add_w (P := P) (h := h) (d := d) (ty := ty) (pos := pos) (af := af) (g := g) (t := t) (u := u) hx hy
  rwa [← Int.natCast_add, wrap_nat hk] at this
theorem muln (hM : M = 2 ^ k.bits) (hk : k.signed = false) (hx : ev s x = .int k (a : Nat) := by exact rfl) (hy : ev s y = .int k (b : Nat) := by exact rfl) :
    OpV P ⟨d, .binOp .mul t x y u, ty, pos, af, g⟩ s h (.int k (((a * b) % M : Nat) : Int)) := by
  subst hM
  have := V.mul_w (P := P) (h := h) (d := d) (ty := ty) (pos := pos) (af := af) (g := g) (t := t) (u := u) hx hy
  rwa [← Int.natCast_mul, wrap_nat hk] at this
/-- A difference that is not below 0. -/
theorem subn (hM : M = 2 ^ k.bits) (hk : k.signed = false) (hx : ev s x = .int k (a : Nat) := by exact rfl) (hy : ev s y = .int k (b : Nat) := by exact rfl) (ha : a < M := by omega) (hb : b ≤ a := by omega) :
    OpV P ⟨d, .binOp .sub t x y u, ty, pos, af, g⟩ s h (.int k ((a - b : Nat) : Int)) := by
  subst hM
  have := V.sub_w (P := P) (h := h) (d := d) (ty := ty) (pos := pos) (af := af) (g := g) (t := t) (u := u) hx hy
  rwa [← Int.ofNat_sub hb, wrap_lt hk (by omega)] at this
theorem shrn {ky : IntKind} (hM : M = 2 ^ k.bits) (hx : ev s x = .int k (a : Nat) := by exact rfl) (hy : ev s y = .int ky (b : Nat) := by exact rfl) (ha : a < M := by omega) :
    OpV P ⟨d, .binOp .shr t x y u, ty, pos, af, g⟩ s h (.int k ((a / 2 ^ b : Nat) : Int)) := fun w _ => by
  subst hM
  have h0 : ¬ ((b : Int) < 0) := by omega
  have h1 : (a : Int).fdiv (2 ^ min b k.bits) = ((a / 2 ^ b : Nat) : Int) := by
    have e : ((2 : Int) ^ min b k.bits) = ((2 ^ min b k.bits : Nat) : Int) := by simp
    rw [e, ← Int.ofNat_fdiv]
    congr 1
    by_cases hb : b ≤ k.bits
    · rw [Nat.min_eq_left hb]
    · rw [Nat.min_eq_right (by omega), Nat.div_eq_of_lt ha, Nat.div_eq_of_lt (Nat.lt_of_lt_of_le ha (Nat.pow_le_pow_right (by omega) (by omega)))]
  simp [execOp, hx, hy, V.eqG, binOp, Op.shift, h0, h1]
theorem shln {ky : IntKind} (hM : M = 2 ^ k.bits) (hk : k.signed = false) (hx : ev s x = .int k (a : Nat) := by exact rfl) (hy : ev s y = .int ky (b : Nat) := by exact rfl) (hb : b ≤ k.bits := by decide) :
    OpV P ⟨d, .binOp .shl t x y u, ty, pos, af, g⟩ s h (.int k ((a * 2 ^ b % M : Nat) : Int)) := fun w _ => by
  subst hM
  have h0 : ¬ ((b : Int) < 0) := by omega
  have h1 : k.wrap ((a : Int) * 2 ^ min b k.bits) = ((a * 2 ^ b % 2 ^ k.bits : Nat) : Int) := by
    rw [Nat.min_eq_left hb]
    have e : (a : Int) * 2 ^ b = ((a * 2 ^ b : Nat) : Int) := by simp
    rw [e, wrap_nat hk]
  simp [execOp, hx, hy, V.eqG, binOp, Op.shift, h0]
  simpa using h1
theorem quon (hM : M = 2 ^ k.bits) (hk : k.signed = false) (hx : ev s x = .int k (a : Nat) := by exact rfl) (hy : ev s y = .int k (b : Nat) := by exact rfl) (ha : a < M := by omega) (hb : 1 ≤ b := by omega) :
    OpV P ⟨d, .binOp .quo t x y u, ty, pos, af, g⟩ s h (.int k ((a / b : Nat) : Int)) := fun w _ => by
  subst hM
  have h0 : ¬ (b = 0) := by omega
  have h1 : k.wrap ((a : Int) / b) = ((a / b : Nat) : Int) := by
    have e : (a : Int) / b = ((a / b : Nat) : Int) := rfl
    rw [e, wrap_lt hk (Nat.lt_of_le_of_lt (Nat.div_le_self _ _) ha)]
  simp [execOp, hx, hy, V.eqG, binOp, Op.intDiv, h0]
  exact h1
theorem remn (hx : ev s x = .int k (a : Nat) := by exact rfl) (hy : ev s y = .int k (b : Nat) := by exact rfl) (hb : 1 ≤ b := by omega) :
    OpV P ⟨d, .binOp .rem t x y u, ty, pos, af, g⟩ s h (.int k ((a % b : Nat) : Int)) := V.rem hx hy (by omega)
/-- ^x. -/
theorem cpl (hM : M = 2 ^ k.bits) (hk : k.signed = false) (hx : ev s x = .int k (a : Nat) := by exact rfl) (ha : a < M := by omega) :
    OpV P ⟨d, .unOp .xor t x, ty, pos, af, g⟩ s h (.int k ((M - 1 - a : Nat) : Int)) := fun w _ => by
  subst hM
  have h1 : (BitVec.ofInt k.bits k.max ^^^ BitVec.ofInt k.bits (a : Int)).toNat = 2 ^ k.bits - 1 - a := by
    have e1 : k.max = ((2 ^ k.bits - 1 : Nat) : Int) := by
      unfold IntKind.max
      rw [Int.ofNat_sub (Nat.two_pow_pos _)]
      simp [hk]
    rw [e1, bv_nat, bv_nat]
    have e2 : BitVec.ofNat k.bits (2 ^ k.bits - 1) = BitVec.allOnes k.bits := by
      apply BitVec.eq_of_toNat_eq; simp
    rw [e2, BitVec.allOnes_xor]
    simp [Nat.mod_eq_of_lt ha]
  have h2 : 2 ^ k.bits - 1 - a < 2 ^ k.bits := by have := Nat.two_pow_pos k.bits; omega
  simp only [execOp, hx, Op.unary, hk, Op.intBits, Bool.false_eq_true, if_false]
  rw [h1, wrap_lt hk h2]
  rfl
end
/-- Between kinds: the lowest bits; all of them. -/
theorem cvm {k' : IntKind} {M : Nat} (hu : inB P u = some k') (ht : inB P t = some k) (hM : M = 2 ^ k'.bits) (hk : k'.signed = false) (hx : ev s x = .int k (a : Nat) := by exact rfl) :
    OpV P ⟨d, .convert t u x, ty, pos, af, g⟩ s h (.int k' ((a % M : Nat) : Int)) := by
  subst hM; exact V.convE hx hu ht (wrap_nat hk a)
theorem cvs {k' : IntKind} {M : Nat} (hu : inB P u = some k') (ht : inB P t = some k) (hM : M = 2 ^ k'.bits) (hk : k'.signed = false) (hx : ev s x = .int k (a : Nat) := by exact rfl) (ha : a < M := by first | omega | exact Nat.lt_trans (byte_lt _) (by decide)) :
    OpV P ⟨d, .convert t u x, ty, pos, af, g⟩ s h (.int k' (a : Int)) := by
  subst hM; exact V.convE hx hu ht (wrap_lt hk ha)
theorem cvi (hu : inB P u = some .i64) (ht : inB P t = some k) (hx : ev s x = .int k (a : Nat) := by exact rfl) (ha : a < 9223372036854775808 := by first | omega | exact Nat.lt_trans (byte_lt _) (by decide)) :
    OpV P ⟨d, .convert t u x, ty, pos, af, g⟩ s h (.int .i64 (a : Int)) := V.convE hx hu ht (IntWalk.i64_in _ (by omega))
/-- An int that may be below 0, as a number of 64 bits. -/
theorem cvz {z : Int} (hu : inB P u = some .u64) (ht : inB P t = some .i64) (hx : ev s x = .int .i64 z := by exact rfl) :
    OpV P ⟨d, .convert t u x, ty, pos, af, g⟩ s h (.int .u64 (((z % 18446744073709551616).toNat : Nat) : Int)) := V.convE hx hu ht (by
  have h0 : (0 : Int) ≤ z % 18446744073709551616 := Int.emod_nonneg _ (by omega)
  rw [Int.toNat_of_nonneg h0]
  rfl)
/-- min and max of two ints. -/
theorem min2 {a b : Int} (hx : ev s x = .int .i64 a := by exact rfl) (hy : ev s y = .int .i64 b := by exact rfl) : OpV P ⟨d, .call ⟨.builtin .min, #[x, y], #[t, u]⟩, ty, pos, af, g⟩ s h (.int .i64 (min a b)) := fun w _ => by
  have : min a b = if b < a then b else a := by
    by_cases h : b < a
    · rw [if_pos h]; omega
    · rw [if_neg h]; omega
  rw [this]
  simp [execOp, resolve, invoke, builtin, hx, hy, Builtin.min_, Builtin.min2]
theorem max2 {a b : Int} (hx : ev s x = .int .i64 a := by exact rfl) (hy : ev s y = .int .i64 b := by exact rfl) : OpV P ⟨d, .call ⟨.builtin .max, #[x, y], #[t, u]⟩, ty, pos, af, g⟩ s h (.int .i64 (max a b)) := fun w _ => by
  have : max a b = if b > a then b else a := by
    by_cases h : b > a
    · rw [if_pos h]; omega
    · rw [if_neg h]; omega
  rw [this]
  simp [execOp, resolve, invoke, builtin, hx, hy, Builtin.max_, Builtin.max2]
end OpV
end Go.HL
namespace Go.HL
open Go
/-- bytealg.MakeNoZero: n bytes, whatever they are. -/
theorem OpA.mnz {P : Program} {s : Slots} {h0 h : Heap} {D : Nat → Prop} {M R : List Itm} {d : Option Tmp} {ty : TypeId} {pos : String} {af : Array Edge} {g : Option (Nat × Bool)} {x : Operand} {t e : TypeId} {ts ps : Array TypeId} {f : FuncId} {fn : Func} {z : Int} (n : Nat)
    (hf : P.funcs[f]? = some fn) (hb : fn.body = none) (hnm : ¬ fn.name = "runtime.NumGoroutine") (h1 : Extern.findNext fn = none) (h2 : Extern.find fn = some (Extern.BytealgMakeNoZero.makeNoZero ps #[t])) (ht : elB P t = some e) (ok : Hp h0 D M R h)
    (hx : ev s x = .int .i64 z := by exact rfl) (hz : z = (n : Int) ∧ n ≤ 140737488355328 := by omega) :
    OpA P ⟨d, .call ⟨.value (.func f), #[x], ts⟩, ty, pos, af, g⟩ s h (fun v h' => ∃ b c cs, v = .slice (some ⟨b, 0, none⟩) n c ∧ n ≤ c ∧ Hp h0 D (capI 1 e (some ⟨b, 0, none⟩, n, c) cs :: M) R h' ∧ Ext h h') := fun E w at' => by
  obtain ⟨rfl, hn⟩ := hz
  obtain ⟨cs, hr, hc, hm⟩ := Lib.run_makeNoZero (P := P) w ps t e (elB_iff ht) n (by omega)
  have hcm := hm (by simp only [maxLen]; omega)
  simp only [maxLen] at hcm
  refine ⟨_, _, _, ⟨h.size, cs.size, cs.toList.take n, rfl, hc, ok.newM (Ext.push _ (.cells cs e (0, 0))) _ ?_ (fun j hj => ?_), Ext.push _ _⟩, (at'.drew.drew).alloc (.cells cs e (0, 0)), ?_⟩
  · exact ⟨_, n, cs.size, rfl, hc, hcm, by simp [hc], .inr ⟨h.size, 0, cs, (0, 0), rfl, push_same _ _, by omega, fzOk_zero _, by simp⟩⟩
  · obtain ⟨o, n', c', hv⟩ := hj
    injection hv with h1; injection h1 with h1; injection h1 with h1
    simp; omega
  · simp [execOp, resolve, Deferred.ofValue, invoke, callFunc, hf, hnm, hb, h1, h2, hx]
    rw [hr]
    simp [at'.heap]
end Go.HL
namespace Go.HL
open Go
theorem run_storeAt {P : Program} {h : Heap} {k : Nat} {e : TypeId} {b o n c i : Nat} {xs vs : List Value} (r : Cap h k e (.slice (some ⟨b, o, none⟩) n c) xs) (hl : i + vs.length ≤ n * k) (h1 : ∀ u ∈ vs, u.oneCell' = true) {E : Env} {w : World} (at' : At E h w) :
    ∃ h' w', Cap h' k e (.slice (some ⟨b, o, none⟩) n c) (spl xs i vs) ∧ Chg (fun x => x = b) h h' ∧ At E h' w' ∧ (storeCells ⟨b, o + i, none⟩ vs).run P w = .ok () w' := by
  obtain ⟨a', n', c', hv, hn, hcm, hxl, hr⟩ := r
  injection hv with g1 g2 g3; subst g1 g2 g3
  rcases hr with ⟨hbad, _⟩ | ⟨b', o', cs, fz, hab, hb, hs, hf, hx⟩
  · cases hbad
  injection hab with hab; injection hab with g1 g2; subst g1 g2
  have hwb : w.heap[b]? = some (.cells cs e fz) := by rw [at'.heap]; exact hb
  have hnk : n * k ≤ c * k := Nat.mul_le_mul_right _ hn
  have hfit : o + i + vs.length ≤ cs.toList.length := by simp; omega
  have hst := run_storeCells_cells (P := P) b (o + i) vs 0 w (fun j hj => by rw [cell?_eq, cell_of hwb]; simp; omega) (fun j hj => frozen?_eq hwb hf (by omega)) h1
  simp only [Nat.add_zero] at hst
  rw [setCells_row b e fz vs (o + i) w cs hwb (by omega)] at hst
  refine ⟨_, _, ?_, hput_chg h b _, at'.setRow _ _, hst⟩
  have hspl : i + vs.length ≤ xs.length := by omega
  refine ⟨_, _, _, rfl, hn, hcm, by rw [spl_length hspl]; exact hxl, .inr ⟨b, o, (spl cs.toList (o + i) vs).toArray, fz, rfl, hput_same hb, ?_, ?_, ?_⟩⟩
  · simp only [List.size_toArray]; rw [spl_length hfit]; simpa using hs
  · simp only [List.size_toArray]; rw [spl_length hfit]; simpa using hf
  · apply List.ext_getElem?
    intro j
    have hx' : j < n * k → xs[j]? = cs.toList[o + j]? := fun hj => by rw [← hx, List.getElem?_take, if_pos hj, List.getElem?_drop]
    rw [List.getElem?_take]
    split
    · rename_i hj
      rw [List.getElem?_drop]
      by_cases h2 : j < i
      · rw [spl_lt (by omega) hfit, spl_lt h2 hspl, hx' hj]
      · by_cases h3 : j < i + vs.length
        · have e1 : o + j = o + i + (j - i) := by omega
          have e2 : spl xs i vs = spl xs i vs := rfl
          rw [e1, spl_mid (by omega) hfit]
          have := spl_mid (cs := xs) (vs := vs) (o := i) (j := j - i) (by omega) hspl
          rw [show i + (j - i) = j by omega] at this
          rw [this]
        · rw [spl_gt (by omega) hfit, spl_gt (by omega) hspl, hx' hj]
    · rename_i hj
      rw [List.getElem?_eq_none]; rw [spl_length hspl]; omega
/-- copy(s[i:], src), where all of the source has room. -/
theorem OpA.cpy {P : Program} {s : Slots} {h0 h : Heap} {D : Nat → Prop} {M R : List Itm} {d : Option Tmp} {ty : TypeId} {pos : String} {af : Array Edge} {g : Option (Nat × Bool)} {x y : Operand} {t t' e : TypeId} {b o n c k : Nat} {a' : Option Addr} {m c' : Nat} {xs ys : List Value} (i : Nat)
    (ht : elB P t = some e) (hk : szB P e = some k) (ok : Hp h0 D (capI k e (some ⟨b, o, none⟩, n, c) xs :: M) R h) (hn : Sl h k (.slice a' m c') ys) (h1 : ∀ u ∈ ys, u.oneCell' = true)
    (hx : ev s x = .slice (cutA (some ⟨b, o, none⟩) i c k) (n - i) (c - i)) (hy : ev s y = .slice a' m c' := by exact rfl) (him : i + m ≤ n := by omega) :
    OpA P ⟨d, .call ⟨.builtin .copy, #[x, y], #[t, t']⟩, ty, pos, af, g⟩ s h (fun v h' => v = .int .i64 (m : Int) ∧ Hp h0 D (capI k e (some ⟨b, o, none⟩, n, c) (spl xs (i * k) ys) :: M) R h' ∧ Chg (fun j => j = b) h h') := fun E w at' => by
  have hr0 := hn.cells
  have hlim : i * k + ys.length ≤ n * k := by rw [hr0.1, ← Nat.add_mul]; exact Nat.mul_le_mul_right _ him
  have hnc : n ≤ c := Cap.le ok.m0
  by_cases hic : c = i
  · -- nothing is left to be written
    subst hic
    have hm0 : m = 0 := by omega
    subst hm0
    have hys : ys = [] := List.eq_nil_of_length_eq_zero (by simpa using hr0.1)
    subst hys
    refine ⟨_, h, w, ⟨rfl, ?_, Chg.refl _ _⟩, at', ?_⟩
    · have : spl xs (c * k) [] = xs := by simp [spl]
      rw [this]; exact ok
    · have hf : (Builtin.firstCells k 0 (.slice a' 0 c')).run P w = .ok #[] w := by cases a' <;> simp [Builtin.firstCells, loadCells, loadCellsFrom]
      have hc : cutA (some ⟨b, o, none⟩) c c k = some ⟨b, o, none⟩ := by unfold cutA; rw [if_pos rfl]
      rw [hc] at hx
      simp [execOp, resolve, invoke, builtin, hx, hy, Builtin.copy_, run_und (elB_iff ht), Builtin.lenOf, run_szB hk, hf, goInt, storeCells]
  · obtain ⟨h', w', hcap, hchg, at2, hr⟩ := run_storeAt (P := P) ok.m0 hlim h1 at'
    refine ⟨_, h', w', ⟨rfl, ok.upd hchg (fun j e => by subst e; exact ⟨o, n, c, rfl⟩) _ hcap (fun _ x => .inl x), hchg⟩, at2, ?_⟩
    rw [cutA_some hic] at hx
    have hmin : Nat.min m (n - i) = m := Nat.min_eq_left (by omega)
    have hf : (Builtin.firstCells k m (.slice a' m c')).run P w = .ok ys.toArray w := by
      by_cases hm0 : m = 0
      · subst hm0
        have : ys = [] := List.eq_nil_of_length_eq_zero (by simpa using hr0.1)
        subst this
        cases a' <;> simp [Builtin.firstCells, loadCells, loadCellsFrom]
      · obtain ⟨b', o', rfl, hcell⟩ := hr0.2 (by omega)
        exact run_firstCells_some w k m ⟨b', o', none⟩ m c' ys hr0.1 (fun j v hj => by rw [Addr.add_lit, cell?_eq, at'.heap]; exact hcell j v hj)
    simp [execOp, resolve, invoke, builtin, hx, hy, Builtin.copy_, run_und (elB_iff ht), Builtin.lenOf, hmin, run_szB hk, hf, hr, goInt]
/-- copy(s, src) from the slice's head on. -/
theorem OpA.cp0 {P : Program} {s : Slots} {h0 h : Heap} {D : Nat → Prop} {M R : List Itm} {d : Option Tmp} {ty : TypeId} {pos : String} {af : Array Edge} {g : Option (Nat × Bool)} {x y : Operand} {t t' e : TypeId} {b o n c k : Nat} {a' : Option Addr} {m c' : Nat} {xs ys : List Value}
    (ht : elB P t = some e) (hk : szB P e = some k) (ok : Hp h0 D (capI k e (some ⟨b, o, none⟩, n, c) xs :: M) R h) (hn : Sl h k (.slice a' m c') ys) (h1 : ∀ u ∈ ys, u.oneCell' = true)
    (hx : ev s x = .slice (some ⟨b, o, none⟩) n c := by exact rfl) (hy : ev s y = .slice a' m c' := by exact rfl) (him : m ≤ n := by omega) :
    OpA P ⟨d, .call ⟨.builtin .copy, #[x, y], #[t, t']⟩, ty, pos, af, g⟩ s h (fun v h' => v = .int .i64 (m : Int) ∧ Hp h0 D (capI k e (some ⟨b, o, none⟩, n, c) (ys ++ xs.drop ys.length) :: M) R h' ∧ Chg (fun j => j = b) h h') :=
  OpA.mk (OpA.cpy (t' := t') 0 ht hk ok hn h1 (by rw [hx]; unfold cutA; split <;> simp [Addr.add_zero']) hy (by omega)) fun v h' q => by
    have e : spl xs (0 * k) ys = ys ++ xs.drop ys.length := by simp [spl]
    rw [e] at q; exact q
/-- make([]T, n, m), as an item. -/
theorem OpA.mks {P : Program} {s : Slots} {h0 h : Heap} {D : Nat → Prop} {M R : List Itm} {d : Option Tmp} {ty : TypeId} {pos : String} {af : Array Edge} {g : Option (Nat × Bool)} {x y : Operand} {t e : TypeId} {k bytes : Nat} {z : Value} {z1 z2 : Int} (n m : Nat)
    (ht : elB P t = some e) (hk : szB P e = some k) (hb : byB P e = some bytes) (hz : zrB P e = some z) (ok : Hp h0 D M R h)
    (hx : ev s x = .int .i64 z1 := by exact rfl) (hy : ev s y = .int .i64 z2 := by exact rfl) (hnm : z1 = (n : Int) ∧ z2 = (m : Int) ∧ n ≤ m ∧ m * bytes ≤ 281474976710656 ∧ m ≤ 9223372036854775807 := by omega) :
    OpA P ⟨d, .makeSlice t x y, ty, pos, af, g⟩ s h (fun v h' => ∃ b, v = .slice (some ⟨b, 0, none⟩) n m ∧ Hp h0 D (capI k e (some ⟨b, 0, none⟩, n, m) ((List.range (n * k)).map (z.cells[· % z.cells.size]!)) :: M) R h' ∧ Ext h h') := fun E w at' => by
  obtain ⟨rfl, rfl, h1, h2, h3⟩ := hnm
  obtain ⟨w', at2, hr⟩ := V.makeSlice (P := P) (s := s) (h := h) (d := d) (ty := ty) (pos := pos) (af := af) (g := g) hx hy ht hk hb hz h1 h2 h3 E w at'
  have hnk : n * k ≤ m * k := Nat.mul_le_mul_right _ h1
  refine ⟨_, _, w', ⟨h.size, rfl, ok.newM (Ext.push _ _) _ ?_ (fun j hj => ?_), Ext.push _ _⟩, at2, hr⟩
  · refine ⟨_, n, m, rfl, h1, h3, by simp, .inr ⟨h.size, 0, _, (0, 0), rfl, push_same _ _, by simp, fzOk_zero _, ?_⟩⟩
    apply List.ext_getElem?
    intro j
    rw [List.drop_zero, List.getElem?_take]
    by_cases hj : j < n * k
    · rw [if_pos hj]; simp [hj, Nat.lt_of_lt_of_le hj hnk]
    · rw [if_neg hj]; simp [hj]
  · obtain ⟨o, n', c', hv⟩ := hj
    injection hv with h1; injection h1 with h1; injection h1 with h1
    simp; omega
theorem RdL.cut {α : Type} [Rep α] {h : Heap} {F E : Nat → Prop} {a : Option Addr} {n c : Nat} {l : List α} (r : RdL h F E (a, n, c) l) {i j : Nat} (hij : i ≤ j) (hj : j ≤ n) : RdL h F E (cutA a i c (Rep.k α), j - i, c - i) ((l.drop i).take (j - i)) := by
  have hn : n = l.length := r.n
  have hnc : n ≤ c := r.c
  have hm : c ≤ 9223372036854775807 := r.m
  refine ⟨by simp; omega, by show j - i ≤ c - i; omega, by show c - i ≤ _; omega, fun hp => ?_⟩
  have hp' : 0 < j - i := by simp at hp; omega
  obtain ⟨b, o, e, hb, hc⟩ := r.at' (by omega)
  simp only at e
  subst e
  refine ⟨b, o + i * Rep.k α, cutA_some (by omega), hb, fun q hq => ?_⟩
  have hq' : q < j - i := by simp at hq; omega
  obtain ⟨cs, h1, h2⟩ := hc (i + q) (by omega)
  refine ⟨cs, by simpa using h1, fun w v hw => ?_⟩
  have := h2 w v hw
  rwa [Nat.add_mul, ← Nat.add_assoc] at this
theorem zeros8 (n : Nat) : (List.range (n * 1)).map ((Value.int .u8 0).cells[· % (Value.int .u8 0).cells.size]!) = (List.replicate n (0 : UInt8)).map bv := by
  apply List.ext_getElem?
  intro j
  by_cases hj : j < n
  · simp [hj, Value.cells, bv, Nat.mod_one]
  · simp [hj]
theorem Cap.lenB {h : Heap} {e : TypeId} {a : Option Addr} {n c : Nat} {l : List UInt8} (r : Cap h 1 e (.slice a n c) (l.map bv)) : n = l.length := by
  have := r.sl.cells.1
  simpa using this.symm
theorem Own.formB {h h' : Heap} {e : TypeId} {v : Value} {l : List UInt8} (o : Own h h' 1 e v (l.map bv)) : ∃ a c, v = .slice a l.length c := by
  obtain ⟨a, n, c, rfl⟩ := o.form3
  exact ⟨a, c, by rw [o.cap.lenB]⟩
theorem Hp.lenB {h0 h : Heap} {D : Nat → Prop} {M R : List Itm} {e : TypeId} {a : Option Addr} {n c : Nat} {l : List UInt8} (ok : Hp h0 D (capI 1 e (a, n, c) (l.map bv) :: M) R h) : n = l.length := Cap.lenB ok.m0
theorem RdL.pre {α : Type} [Rep α] {h : Heap} {F E : Nat → Prop} {a : Option Addr} {n c : Nat} {l l2 : List α} (r : RdL h F E (a, n, c) l) (h2 : l2 <+: l) : RdL h F E (a, l2.length, c) l2 := by
  obtain ⟨m, rfl⟩ := h2
  have hn : n = (l2 ++ m).length := r.n
  have hc : n ≤ c := r.c
  rw [List.length_append] at hn
  refine ⟨rfl, by simp only; omega, r.m, fun hp => ?_⟩
  obtain ⟨b, o, e, hb, hx⟩ := r.at' (by rw [List.length_append]; omega)
  refine ⟨b, o, e, hb, fun i hi => ?_⟩
  have := hx i (by rw [List.length_append]; omega)
  rwa [List.getElem_append_left hi] at this
section
variable {P : Program} {s : Slots} {h : Heap} {d : Option Tmp} {ty : TypeId} {pos : String} {af : Array Edge} {g : Option (Nat × Bool)} {x y : Operand} {t u : TypeId}
theorem OpV.addI {a b : Nat} (hx : ev s x = .int .i64 (a : Nat) := by exact rfl) (hy : ev s y = .int .i64 (b : Nat) := by exact rfl) (hr : a + b ≤ 9223372036854775807 := by omega) : OpV P ⟨d, .binOp .add t x y u, ty, pos, af, g⟩ s h (.int .i64 ((a + b : Nat) : Int)) := by
  rw [Int.natCast_add]; exact V.add hx hy (by omega)
theorem OpV.mulI {a b : Nat} (hx : ev s x = .int .i64 (a : Nat) := by exact rfl) (hy : ev s y = .int .i64 (b : Nat) := by exact rfl) (hr : a * b ≤ 9223372036854775807 := by omega) : OpV P ⟨d, .binOp .mul t x y u, ty, pos, af, g⟩ s h (.int .i64 ((a * b : Nat) : Int)) := by
  rw [Int.natCast_mul]; exact V.mul hx hy (by constructor <;> (have := Int.natCast_mul a b; omega))
end
end Go.HL
