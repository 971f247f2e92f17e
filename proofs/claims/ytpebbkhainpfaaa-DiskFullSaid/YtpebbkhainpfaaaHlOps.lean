/- What each operation of the model yields, as rules of the logic. Conditions: those that each rule names. -/
import Derived.Test.YtpebbkhainpfaaaHl
namespace Go.HL
open Go

def agB (P : Program) (t : TypeId) : Option Bool := (P.underlying t).map fun | .struct _ => true | .array _ _ => true | _ => false
def szB (P : Program) (t : TypeId) : Option Nat := (P.info? t).map (·.size)
def byB (P : Program) (t : TypeId) : Option Nat := (P.info? t).map (·.bytes)
def zrB (P : Program) (t : TypeId) : Option Value := (P.info? t).bind (·.zero)
def elB (P : Program) (t : TypeId) : Option TypeId := match P.underlying t with | some (.slice e) => some e | _ => none
def arB (P : Program) (t : TypeId) : Option (Nat × TypeId) := match P.underlying t with | some (.array n e) => some (n, e) | _ => none
def mpB (P : Program) (t : TypeId) : Option (TypeId × TypeId) := match P.underlying t with | some (.map k e) => some (k, e) | _ => none
def ptB (P : Program) (t : TypeId) : Option TypeId := match P.underlying t with | some (.pointer e) => some e | _ => none
def inB (P : Program) (t : TypeId) : Option IntKind := match P.underlying t with | some (.int k) => some k | _ => none
def stB (P : Program) (t : TypeId) : Bool := match P.underlying t with | some .string => true | _ => false
def boB (P : Program) (t : TypeId) : Bool := match P.underlying t with | some .bool => true | _ => false
/-- A struct's field: its offset, its type, the number of its cells. -/
def fdB (P : Program) (t : TypeId) (f : Nat) : Option (Nat × TypeId × Nat) := match P.underlying t with
  | some (.struct fs) => (fs[f]?).bind fun x => (P.info? x.type).map fun i => (x.offset, x.type, i.size)
  | _ => none

theorem elB_iff {P : Program} {t e : TypeId} (h : elB P t = some e) : P.underlying t = some (.slice e) := by
  unfold elB at h; split at h <;> simp_all
theorem arB_iff {P : Program} {t e : TypeId} {n : Nat} (h : arB P t = some (n, e)) : P.underlying t = some (.array n e) := by
  unfold arB at h; split at h <;> simp_all
theorem mpB_iff {P : Program} {t k e : TypeId} (h : mpB P t = some (k, e)) : P.underlying t = some (.map k e) := by
  unfold mpB at h; split at h <;> simp_all
theorem ptB_iff {P : Program} {t e : TypeId} (h : ptB P t = some e) : P.underlying t = some (.pointer e) := by
  unfold ptB at h; split at h <;> simp_all
theorem inB_iff {P : Program} {t : TypeId} {k : IntKind} (h : inB P t = some k) : P.underlying t = some (.int k) := by
  unfold inB at h; split at h <;> simp_all
theorem stB_iff {P : Program} {t : TypeId} (h : stB P t = true) : P.underlying t = some .string := by
  unfold stB at h; split at h <;> simp_all
theorem boB_iff {P : Program} {t : TypeId} (h : boB P t = true) : P.underlying t = some .bool := by
  unfold boB at h; split at h <;> simp_all
theorem szB_iff {P : Program} {t : TypeId} {k : Nat} (h : szB P t = some k) : ∃ i, P.info? t = some i ∧ i.size = k := by
  unfold szB at h; cases hi : P.info? t <;> simp_all
theorem byB_iff {P : Program} {t : TypeId} {k : Nat} (h : byB P t = some k) : ∃ i, P.info? t = some i ∧ i.bytes = k := by
  unfold byB at h; cases hi : P.info? t <;> simp_all
theorem zrB_iff {P : Program} {t : TypeId} {v : Value} (h : zrB P t = some v) : ∃ i, P.info? t = some i ∧ i.zero = some v := by
  unfold zrB at h; cases hi : P.info? t <;> simp_all
theorem fdB_iff {P : Program} {t ft : TypeId} {f off k : Nat} (h : fdB P t f = some (off, ft, k)) : ∃ fs fd i, P.underlying t = some (.struct fs) ∧ fs[f]? = some fd ∧ fd.offset = off ∧ fd.type = ft ∧ P.info? ft = some i ∧ i.size = k := by
  unfold fdB at h
  split at h
  · rename_i fs hu
    cases hf : fs[f]? with
    | none => simp [hf] at h
    | some fd =>
      simp only [hf, Option.bind_some] at h
      cases hi : P.info? fd.type with
      | none => simp [hi] at h
      | some i => simp [hi] at h; obtain ⟨rfl, rfl, rfl⟩ := h; exact ⟨fs, fd, i, hu, hf, rfl, rfl, hi, rfl⟩
  · cases h

theorem run_szB {P : Program} {t : TypeId} {k : Nat} (h : szB P t = some k) (w : World) : (sizeOf t).run P w = .ok k w := by
  obtain ⟨i, hi, rfl⟩ := szB_iff h
  simp [sizeOf, typeInfo, hi]
theorem run_und {P : Program} {t : TypeId} {d : TypeDesc} (h : P.underlying t = some d) (w : World) : (underlying t).run P w = .ok d w := run_underlying h w
theorem run_zrB {P : Program} {t : TypeId} {v : Value} (h : zrB P t = some v) (w : World) : (zeroValue t).run P w = .ok v w := by
  obtain ⟨i, hi, hz⟩ := zrB_iff h
  simp [zeroValue, typeInfo, hi, hz]
theorem run_agB {P : Program} {t : TypeId} {b : Bool} (h : agB P t = some b) (w : World) : (isAgg t).run P w = .ok b w := by
  unfold agB at h
  cases hu : P.underlying t with
  | none => simp [hu] at h
  | some d =>
    simp [hu] at h
    subst h
    cases d <;> simp [isAgg, run_underlying hu]

/-! ### The heap -/

def cell (h : Heap) (b o : Nat) : Option Value := match h[b]? with | some (.cells c _ _) => c[o]? | _ => none
theorem cell?_eq (w : World) (b o : Nat) : w.cell? ⟨b, o, none⟩ = cell w.heap b o := by
  unfold World.cell? cell
  split <;> simp_all
theorem cell_of {h : Heap} {b : Nat} {cs : Array Value} {t : TypeId} {fz : Nat × Nat} (hb : h[b]? = some (.cells cs t fz)) (o : Nat) : cell h b o = cs[o]? := by simp [cell, hb]
theorem cell_lt {h : Heap} {b o : Nat} {v : Value} (hc : cell h b o = some v) : b < h.size := by
  unfold cell at hc
  split at hc
  · rename_i hb; exact (Array.getElem?_eq_some_iff.1 hb).1
  · cases hc
theorem cell_block {h h' : Heap} {b : Nat} (hb : h'[b]? = h[b]?) (o : Nat) : cell h' b o = cell h b o := by simp [cell, hb]

theorem load_one {P : Program} {h : Heap} {t : TypeId} {b o : Nat} {v : Value} (ha : agB P t = some false) (hc : cell h b o = some v) : LoadIs P h t ⟨b, o, none⟩ v := by
  intro w hw
  subst hw
  have := cell?_eq w b o
  simp [loadVar, run_agB ha, load, Sem.run, this, hc]
theorem load_agg {P : Program} {h : Heap} {t : TypeId} {b o : Nat} (vs : List Value) (ha : agB P t = some true) (hs : szB P t = some vs.length) (hc : ∀ j v, vs[j]? = some v → cell h b (o + j) = some v) :
    LoadIs P h t ⟨b, o, none⟩ (.agg vs.toArray) := by
  intro w hw
  subst hw
  have := run_loadCells_list (P := P) (w := w) ⟨b, o, none⟩ vs (fun j v hj => by rw [Addr.add_lit, cell?_eq]; exact hc j v hj)
  simp [loadVar, run_agB ha, run_szB hs, this]

/-! ### Operations that leave the heap alone -/
namespace V
variable {P : Program} {s : Slots} {h : Heap} {d : Option Tmp} {ty : TypeId} {pos : String} {af : Array Edge} {g : Option (Nat × Bool)} {x y c : Operand} {t u : TypeId}

theorem move : OpV P ⟨d, .move x, ty, pos, af, g⟩ s h (ev s x) := fun w _ => by simp [execOp]
theorem assign : OpV P ⟨d, .assign x, ty, pos, af, g⟩ s h (ev s x) := fun w _ => by simp [execOp]
section mv
variable {v : Value}
theorem mvv (hx : ev s x = v) : OpV P ⟨d, .move x, ty, pos, af, g⟩ s h v := hx ▸ move
theorem asv (hx : ev s x = v) : OpV P ⟨d, .assign x, ty, pos, af, g⟩ s h v := hx ▸ assign
theorem mvI {k : IntKind} {a : Int} (hx : ev s x = .int k a) : OpV P ⟨d, .move x, ty, pos, af, g⟩ s h (.int k a) := mvv hx
theorem mvB {b : Bool} (hx : ev s x = .bool b) : OpV P ⟨d, .move x, ty, pos, af, g⟩ s h (.bool b) := mvv hx
theorem mvS {a : Option Addr} {n m : Nat} (hx : ev s x = .slice a n m) : OpV P ⟨d, .move x, ty, pos, af, g⟩ s h (.slice a n m) := mvv hx
theorem mvP {a : Option Addr} (hx : ev s x = .pointer a) : OpV P ⟨d, .move x, ty, pos, af, g⟩ s h (.pointer a) := mvv hx
theorem mvT {b : ByteArray} (hx : ev s x = .string b) : OpV P ⟨d, .move x, ty, pos, af, g⟩ s h (.string b) := mvv hx
theorem mvM {r : Option Nat} (hx : ev s x = .map r) : OpV P ⟨d, .move x, ty, pos, af, g⟩ s h (.map r) := mvv hx
theorem mvU {cs : Array Value} (hx : ev s x = .tuple cs) : OpV P ⟨d, .move x, ty, pos, af, g⟩ s h (.tuple cs) := mvv hx
theorem mvA {cs : Array Value} (hx : ev s x = .agg cs) : OpV P ⟨d, .move x, ty, pos, af, g⟩ s h (.agg cs) := mvv hx
theorem asI {k : IntKind} {a : Int} (hx : ev s x = .int k a) : OpV P ⟨d, .assign x, ty, pos, af, g⟩ s h (.int k a) := asv hx
theorem asB {b : Bool} (hx : ev s x = .bool b) : OpV P ⟨d, .assign x, ty, pos, af, g⟩ s h (.bool b) := asv hx
theorem asS {a : Option Addr} {n m : Nat} (hx : ev s x = .slice a n m) : OpV P ⟨d, .assign x, ty, pos, af, g⟩ s h (.slice a n m) := asv hx
theorem asP {a : Option Addr} (hx : ev s x = .pointer a) : OpV P ⟨d, .assign x, ty, pos, af, g⟩ s h (.pointer a) := asv hx
theorem asT {b : ByteArray} (hx : ev s x = .string b) : OpV P ⟨d, .assign x, ty, pos, af, g⟩ s h (.string b) := asv hx
theorem asM {r : Option Nat} (hx : ev s x = .map r) : OpV P ⟨d, .assign x, ty, pos, af, g⟩ s h (.map r) := asv hx
theorem asA {cs : Array Value} (hx : ev s x = .agg cs) : OpV P ⟨d, .assign x, ty, pos, af, g⟩ s h (.agg cs) := asv hx
end mv
theorem pick_t {b : Bool} (hc : ev s c = .bool true) (hx : ev s x = .bool b) : OpV P ⟨d, .pick c x y, ty, pos, af, g⟩ s h (.bool b) := fun w _ => by simp [execOp, hc, asBool, hx]
theorem pick_f {b : Bool} (hc : ev s c = .bool false) (hy : ev s y = .bool b) : OpV P ⟨d, .pick c x y, ty, pos, af, g⟩ s h (.bool b) := fun w _ => by simp [execOp, hc, asBool, hy]

theorem eqG {op : BinOp} {k : IntKind} {k' : IntKind} {a b : Int} {w : World} : (eqGuard op t x y (.int k a) (.int k' b)).run P w = .ok () w := by
  unfold eqGuard
  cases op <;> simp

section ints
variable {k : IntKind} {a b : Int}
theorem add_w (hx : ev s x = .int k a) (hy : ev s y = .int k b) : OpV P ⟨d, .binOp .add t x y u, ty, pos, af, g⟩ s h (.int k (k.wrap (a + b))) := fun w _ => by simp [execOp, hx, hy, eqG, binOp, Op.intArith]
theorem sub_w (hx : ev s x = .int k a) (hy : ev s y = .int k b) : OpV P ⟨d, .binOp .sub t x y u, ty, pos, af, g⟩ s h (.int k (k.wrap (a - b))) := fun w _ => by simp [execOp, hx, hy, eqG, binOp, Op.intArith]
theorem mul_w (hx : ev s x = .int k a) (hy : ev s y = .int k b) : OpV P ⟨d, .binOp .mul t x y u, ty, pos, af, g⟩ s h (.int k (k.wrap (a * b))) := fun w _ => by simp [execOp, hx, hy, eqG, binOp, Op.intArith]
theorem add (hx : ev s x = .int .i64 a) (hy : ev s y = .int .i64 b) (hr : -9223372036854775808 ≤ a + b ∧ a + b ≤ 9223372036854775807) : OpV P ⟨d, .binOp .add t x y u, ty, pos, af, g⟩ s h (.int .i64 (a + b)) := by
  have := add_w (P := P) (h := h) (d := d) (ty := ty) (pos := pos) (af := af) (g := g) (t := t) (u := u) hx hy
  rwa [IntWalk.i64_in _ hr] at this
theorem sub (hx : ev s x = .int .i64 a) (hy : ev s y = .int .i64 b) (hr : -9223372036854775808 ≤ a - b ∧ a - b ≤ 9223372036854775807) : OpV P ⟨d, .binOp .sub t x y u, ty, pos, af, g⟩ s h (.int .i64 (a - b)) := by
  have := sub_w (P := P) (h := h) (d := d) (ty := ty) (pos := pos) (af := af) (g := g) (t := t) (u := u) hx hy
  rwa [IntWalk.i64_in _ hr] at this
theorem mul (hx : ev s x = .int .i64 a) (hy : ev s y = .int .i64 b) (hr : -9223372036854775808 ≤ a * b ∧ a * b ≤ 9223372036854775807) : OpV P ⟨d, .binOp .mul t x y u, ty, pos, af, g⟩ s h (.int .i64 (a * b)) := by
  have := mul_w (P := P) (h := h) (d := d) (ty := ty) (pos := pos) (af := af) (g := g) (t := t) (u := u) hx hy
  rwa [IntWalk.i64_in _ hr] at this
/-- '/' and '%' at numbers that are not below 0. -/
theorem quo (hx : ev s x = .int .i64 a) (hy : ev s y = .int .i64 b) (hr : 0 ≤ a ∧ a ≤ 9223372036854775807 ∧ 1 ≤ b) : OpV P ⟨d, .binOp .quo t x y u, ty, pos, af, g⟩ s h (.int .i64 (a / b)) := fun w _ => by
  have hb : b ≠ 0 := by omega
  simp [execOp, hx, hy, eqG, binOp, Op.intDiv, hb, IntWalk.i64_quo a b hr]
theorem rem (hx : ev s x = .int k a) (hy : ev s y = .int k b) (hr : 0 ≤ a ∧ 1 ≤ b) : OpV P ⟨d, .binOp .rem t x y u, ty, pos, af, g⟩ s h (.int k (a % b)) := fun w _ => by
  have hb : b ≠ 0 := by omega
  simp [execOp, hx, hy, eqG, binOp, Op.intDiv, hb, IntWalk.rem_in a b hr.1]

theorem lss {r : Bool} (hx : ev s x = .int k a) (hy : ev s y = .int k b) (hr : decide (a < b) = r) : OpV P ⟨d, .binOp .lss t x y u, ty, pos, af, g⟩ s h (.bool r) := fun w _ => by simp [execOp, hx, hy, eqG, binOp, Op.intCmp, ← hr]
theorem leq {r : Bool} (hx : ev s x = .int k a) (hy : ev s y = .int k b) (hr : decide (a ≤ b) = r) : OpV P ⟨d, .binOp .leq t x y u, ty, pos, af, g⟩ s h (.bool r) := fun w _ => by simp [execOp, hx, hy, eqG, binOp, Op.intCmp, ← hr]
theorem gtr {r : Bool} (hx : ev s x = .int k a) (hy : ev s y = .int k b) (hr : decide (b < a) = r) : OpV P ⟨d, .binOp .gtr t x y u, ty, pos, af, g⟩ s h (.bool r) := fun w _ => by simp [execOp, hx, hy, eqG, binOp, Op.intCmp, ← hr]
theorem geq {r : Bool} (hx : ev s x = .int k a) (hy : ev s y = .int k b) (hr : decide (b ≤ a) = r) : OpV P ⟨d, .binOp .geq t x y u, ty, pos, af, g⟩ s h (.bool r) := fun w _ => by simp [execOp, hx, hy, eqG, binOp, Op.intCmp, ← hr]
theorem eql {r : Bool} (hx : ev s x = .int k a) (hy : ev s y = .int k b) (hr : decide (a = b) = r) : OpV P ⟨d, .binOp .eql t x y u, ty, pos, af, g⟩ s h (.bool r) := fun w _ => by
  simp [execOp, hx, hy, eqG, binOp, Op.intCmp, ← hr]; rw [Bool.eq_iff_iff]; simp
theorem neq {r : Bool} (hx : ev s x = .int k a) (hy : ev s y = .int k b) (hr : decide (a ≠ b) = r) : OpV P ⟨d, .binOp .neq t x y u, ty, pos, af, g⟩ s h (.bool r) := fun w _ => by
  simp [execOp, hx, hy, eqG, binOp, Op.intCmp, ← hr]; rw [Bool.eq_iff_iff]; simp
end ints

theorem not {b : Bool} (hx : ev s x = .bool b) : OpV P ⟨d, .unOp .not t x, ty, pos, af, g⟩ s h (.bool (!b)) := fun w _ => by simp [execOp, hx, Op.unary]
theorem len {a : Option Addr} {n m : Nat} {e : TypeId} (hx : ev s x = .slice a n m) (ht : elB P t = some e) : OpV P ⟨d, .call ⟨.builtin .len, #[x], #[t]⟩, ty, pos, af, g⟩ s h (.int .i64 n) := fun w _ => by
  simp [execOp, resolve, invoke, builtin, hx, Builtin.len_, goInt, run_und (elB_iff ht)]
theorem cap {a : Option Addr} {n m : Nat} {e : TypeId} (hx : ev s x = .slice a n m) (ht : elB P t = some e) : OpV P ⟨d, .call ⟨.builtin .cap, #[x], #[t]⟩, ty, pos, af, g⟩ s h (.int .i64 m) := fun w _ => by
  simp [execOp, resolve, invoke, builtin, hx, Builtin.cap_, goInt, run_und (elB_iff ht)]
theorem nilCheck {ad : Addr} (hx : ev s x = .pointer (some ad)) : OpV P ⟨d, .nilCheck x, ty, pos, af, g⟩ s h (.pointer (some ad)) := fun w _ => by simp [execOp, hx]

theorem fieldAddr {b o off k : Nat} {ft : TypeId} {f : Nat} (hx : ev s x = .pointer (some ⟨b, o, none⟩)) (hf : fdB P t f = some (off, ft, k + 1)) : OpV P ⟨d, .fieldAddr t x f, ty, pos, af, g⟩ s h (.pointer (some ⟨b, o + off, none⟩)) := fun w _ => by
  obtain ⟨fs, fd, i, h1, h2, rfl, rfl, h3, h4⟩ := fdB_iff hf
  simp [execOp, hx, Instr.fieldAt, run_und h1, h2, Instr.sureAddr, fieldPlace, sizeOf, typeInfo, h3, h4, Addr.add_lit]

theorem indexAddr {b o n m k : Nat} {e : TypeId} {kk : IntKind} {i : Int} (hx : ev s x = .slice (some ⟨b, o, none⟩) n m) (hy : ev s y = .int kk i) (ht : elB P t = some e) (hk : szB P e = some k) (hi : 0 ≤ i ∧ i < n) :
    OpV P ⟨d, .indexAddr t x y, ty, pos, af, g⟩ s h (.pointer (some ⟨b, o + i.toNat * k, none⟩)) := fun w _ => by
  simp [execOp, hx, hy, Instr.indexAt, asIntOf, run_und (elB_iff ht), hi.1, hi.2, run_szB hk, Addr.add_lit]

theorem indexAddr1 {b o n m : Nat} {e : TypeId} {kk : IntKind} {i : Int} (hx : ev s x = .slice (some ⟨b, o, none⟩) n m) (hy : ev s y = .int kk i) (ht : elB P t = some e) (hk : szB P e = some 1) (hi : 0 ≤ i ∧ i < n) :
    OpV P ⟨d, .indexAddr t x y, ty, pos, af, g⟩ s h (.pointer (some ⟨b, o + i.toNat, none⟩)) := by
  have := indexAddr (P := P) (h := h) (d := d) (ty := ty) (pos := pos) (af := af) (g := g) hx hy ht hk hi
  rwa [Nat.mul_one] at this

theorem load {b o : Nat} {v : Value} (hx : ev s x = .pointer (some ⟨b, o, none⟩)) (hl : LoadIs P h t ⟨b, o, none⟩ v) : OpV P ⟨d, .load t x, ty, pos, af, g⟩ s h v := fun w hw => by
  simp [execOp, hx, Instr.loadAt, Instr.sureAddr, hl w hw]

theorem extract {vs : Array Value} {i : Nat} {v : Value} (hx : ev s x = .tuple vs) (hv : vs[i]? = some v) : OpV P ⟨d, .extract x i, ty, pos, af, g⟩ s h v := fun w _ => by
  simp [execOp, hx, Instr.extract, hv]
end V

/-- A call of a named function. -/
theorem OpC.func {P : Program} {s : Slots} {h : Heap} {d : Option Tmp} {ty : TypeId} {pos : String} {af : Array Edge} {g : Option (Nat × Bool)} {f : FuncId} {l : List Operand} {ts : Array TypeId} :
    OpC P ⟨d, .call ⟨.value (.func f), l.toArray, ts⟩, ty, pos, af, g⟩ s h f (l.map (ev s)).toArray := fun w _ hc => by
  obtain ⟨fn, h1, h2, h3⟩ := hc
  have h2' : ¬ fn.name = "runtime.NumGoroutine" := by simpa using h2
  have h3' : ¬ fn.body = none := by intro e; simp [e] at h3
  simp [execOp, resolve, Deferred.ofValue, invoke, callFunc, h1, h2', h3']
end Go.HL
