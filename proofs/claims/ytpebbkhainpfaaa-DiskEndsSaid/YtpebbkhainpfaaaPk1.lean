/- A small logic of heaps and slots over the model: what a call leaves, told by a relation; the rules of code and of regions. Conditions: none. What each operation of the model yields, as rules of the logic. Conditions: those that each rule names. Slices as lists of cells, and heaps that agree but for some blocks. Conditions: those that each fact names. -/
import Derived.WalkKit
import Derived.Deep.Quiet
import Derived.OrdersHeld
import Derived.StillTail
namespace Go.HL
open Go

abbrev Heap := Array Obj
abbrev Slots := Nat → Value

structure Env where
  os : Os
  tape : Nat → Question → Nat
  output : Array (Nat × ByteArray)

structure At (E : Env) (h : Heap) (w : World) : Prop where
  heap : w.heap = h
  os : w.os = E.os
  tape : w.tape = E.tape
  output : w.output = E.output

def Env.of (w : World) : Env := ⟨w.os, w.tape, w.output⟩
theorem At.self (w : World) : At (Env.of w) w.heap w := ⟨rfl, rfl, rfl, rfl⟩

@[reducible] def upd (s : Slots) (d : Nat) (v : Value) : Slots := fun i => bif Nat.beq i d then v else s i
@[reducible] def ev (s : Slots) : Operand → Value
  | .tmp t => s t
  | .const v => v
  | .global g => .pointer (some ⟨g, 0, none⟩)
  | .func f => .func (.func f) #[] #[]

theorem upd_self {s : Slots} {d : Nat} {v : Value} (h : s d = v) : upd s d v = s := by
  funext i
  unfold upd
  cases hb : Nat.beq i d with
  | true => have := Nat.eq_of_beq_eq_true hb; subst this; simp [h]
  | false => rfl

def frm : List (Nat × Value) → Slots → Slots
  | [], s => s
  | p :: l, s => upd (frm l s) p.1 p.2
def Has (s : Slots) : List (Nat × Value) → Prop
  | [] => True
  | p :: l => s p.1 = p.2 ∧ Has s l
theorem frm_of {s : Slots} : ∀ {l : List (Nat × Value)}, Has s l → frm l s = s
  | [], _ => rfl
  | p :: l, h => by
    unfold frm
    rw [frm_of h.2]
    exact upd_self h.1

structure Rel (n : Nat) (s : Slots) (a : Act) : Prop where
  size : a.tmps.size = n
  get : ∀ i, a.tmps.getD i undef = s i
  defers : a.defers = []

theorem Rel.eval {n : Nat} {s : Slots} {a : Act} (r : Rel n s a) (x : Operand) : a.eval x = ev s x := by
  cases x <;> simp [Act.eval, ev]
  have := r.get
  simpa using this _

theorem Rel.eval' {n : Nat} {s : Slots} {a : Act} (r : Rel n s a) : a.eval = ev s := funext r.eval

theorem Rel.put {n : Nat} {s : Slots} {a : Act} (r : Rel n s a) {d : Nat} (v : Value) (hd : Nat.blt d n = true) : Rel n (upd s d v) (a.put (some d) v) := by
  have hdn : d < n := by simpa [Nat.blt_eq] using hd
  refine ⟨by simp [Act.put, r.size], fun i => ?_, by simp [Act.put, r.defers]⟩
  have hg := r.get i
  unfold upd
  cases hb : Nat.beq i d with
  | true =>
    have := Nat.eq_of_beq_eq_true hb; subst this
    simp [Act.put, r.size, hdn]
  | false =>
    have hne : d ≠ i := fun e => by subst e; simp at hb
    simp [Act.put, hne]
    simpa using hg

def thn (K : Slots → Heap → Prop) (Q : Exit → Slots → Heap → Prop) : Exit → Slots → Heap → Prop
  | .normal, s, h => K s h
  | e, s, h => Q e s h
def inBlk (id : Nat) (Q : Exit → Slots → Heap → Prop) : Exit → Slots → Heap → Prop
  | .exit id', s, h => bif Nat.beq id' id then Q .normal s h else Q (.exit id') s h
  | e, s, h => Q e s h
def nrm (K : Slots → Heap → Prop) : Exit → Slots → Heap → Prop
  | .normal, s, h => K s h
  | _, _, _ => False

def Lift (E : Env) (n : Nat) (Q : Exit → Slots → Heap → Prop) (e : Exit) (a : Act) (w : World) : Prop :=
  ∃ s h, Rel n s a ∧ At E h w ∧ Q e s h

theorem Lift.mono {E : Env} {n : Nat} {Q Q' : Exit → Slots → Heap → Prop} (hq : ∀ e s h, Q e s h → Q' e s h) {e : Exit} {a : Act} {w : World} (h : Lift E n Q e a w) : Lift E n Q' e a w :=
  let ⟨s, h', r, at', q⟩ := h; ⟨s, h', r, at', hq _ _ _ q⟩

/-- The code's weakest precondition over slots and heap, in whatever outer world. -/
def HW (P : Program) (n : Nat) (c : Code) (Q : Exit → Slots → Heap → Prop) (s : Slots) (h : Heap) : Prop :=
  ∀ E a w, Rel n s a → At E h w → c.wp P (Lift E n Q) a w

section rules
variable {P : Program} {n : Nat} {Q : Exit → Slots → Heap → Prop} {s : Slots} {h : Heap}

theorem HW.mono {c : Code} {Q' : Exit → Slots → Heap → Prop} (hc : HW P n c Q s h) (hq : ∀ e s h, Q e s h → Q' e s h) : HW P n c Q' s h :=
  fun E a w r at' => wp_mono (hc E a w r at') fun _ _ _ => Lift.mono hq

theorem HW.skip (hq : Q .normal s h) : HW P n .skip Q s h := fun _ _ _ r at' => wp_skip ⟨s, h, r, at', hq⟩
theorem HW.exit {id : Nat} (hq : Q (.exit id) s h) : HW P n (.exit id) Q s h := fun _ _ _ r at' => wp_exit ⟨s, h, r, at', hq⟩
theorem HW.ret (hq : Q .ret s h) : HW P n .ret Q s h := fun _ _ _ r at' => wp_ret ⟨s, h, r, at', hq⟩

theorem HW.seq {x y : Code} (hx : ∀ K : Slots → Heap → Prop, (∀ s h, HW P n y Q s h → K s h) → HW P n x (thn K Q) s h) : HW P n (.seq x y) Q s h := by
  intro E a w r at'
  refine wp_seq (wp_mono (hx (HW P n y Q) (fun _ _ h => h) E a w r at') ?_)
  rintro e a' w' ⟨s', h', r', at2, q⟩
  cases e with
  | normal => exact q E a' w' r' at2
  | exit id => exact ⟨s', h', r', at2, q⟩
  | goto l => exact ⟨s', h', r', at2, q⟩
  | ret => exact ⟨s', h', r', at2, q⟩
  | panic c => exact ⟨s', h', r', at2, q⟩
  | outgrown => exact ⟨s', h', r', at2, q⟩

/-- What holds where the ways through the first part meet. -/
theorem HW.seqc {x y : Code} (J : Slots → Heap → Prop) (hx : HW P n x (thn J Q) s h) (hy : ∀ s h, J s h → HW P n y Q s h) : HW P n (.seq x y) Q s h :=
  HW.seq fun _ hK => hx.mono fun e s h q => by cases e <;> first | exact hK _ _ (hy _ _ q) | exact q

theorem HW.cond {c : Operand} {x y : Code} {t : Bool} (hc : ev s c = .bool t) (ht : t = true → HW P n x Q s h) (hf : t = false → HW P n y Q s h) : HW P n (.cond c x y) Q s h :=
  fun E a w r at' => wp_cond_split (t := t) (by rw [r.eval]; exact hc) (fun e => ht e E a w r at') (fun e => hf e E a w r at')
theorem HW.cond_t {c : Operand} {x y : Code} (hc : ev s c = .bool true) (ht : HW P n x Q s h) : HW P n (.cond c x y) Q s h := HW.cond hc (fun _ => ht) (fun e => by cases e)
theorem HW.cond_f {c : Operand} {x y : Code} (hc : ev s c = .bool false) (hf : HW P n y Q s h) : HW P n (.cond c x y) Q s h := HW.cond hc (fun e => by cases e) (fun _ => hf)

theorem HW.condr {c : Operand} {x y : Code} {t : Bool} (hc : ev s c = .bool t) (hf : t = false → HW P n y Q s h) (ht : t = true → HW P n x Q s h) : HW P n (.cond c x y) Q s h := HW.cond hc ht hf

theorem HW.block {id : Nat} {c : Code} (hc : HW P n c (inBlk id Q) s h) : HW P n (.block id c) Q s h := by
  intro E a w r at'
  refine wp_block (wp_mono (hc E a w r at') ?_)
  rintro e a' w' ⟨s', h', r', at2, q⟩
  cases e with
  | normal => exact ⟨s', h', r', at2, q⟩
  | exit id' =>
    simp only [inBlk] at q
    simp only [Exit.inBlock]
    by_cases hid : id' = id
    · subst hid; simp only [Nat.beq_refl, cond_true] at q; simp only [if_true]; exact ⟨s', h', r', at2, q⟩
    · have : Nat.beq id' id = false := by cases hb : Nat.beq id' id with
        | true => exact absurd (Nat.eq_of_beq_eq_true hb) hid
        | false => rfl
      simp only [this, cond_false] at q; simp only [hid, if_false]; exact ⟨s', h', r', at2, q⟩
  | goto l => exact ⟨s', h', r', at2, q⟩
  | ret => exact ⟨s', h', r', at2, q⟩
  | panic c => exact ⟨s', h', r', at2, q⟩
  | outgrown => exact ⟨s', h', r', at2, q⟩

theorem HW.loop {c : Code} (I : Slots → Heap → Prop) (μ : Slots → Heap → Nat) (h0 : I s h)
    (round : ∀ s h, I s h → ∀ J : Slots → Heap → Prop, (∀ s' h', I s' h' → μ s' h' < μ s h → J s' h') → HW P n c (thn J Q) s h) : HW P n (.loop c) Q s h := by
  intro E a w r at'
  refine wp_loop (fun a w => ∃ s h, Rel n s a ∧ At E h w ∧ I s h) (fun a w => μ (fun i => a.tmps.getD i undef) w.heap) ⟨s, h, r, at', h0⟩ ?_
  rintro a w ⟨s, h, r, at', hI⟩
  have e1 : (fun i => a.tmps.getD i undef) = s := funext r.get
  have e2 := at'.heap
  simp only [e1, e2]
  refine wp_mono (round s h hI (fun s' h' => I s' h' ∧ μ s' h' < μ s h) (fun _ _ a b => ⟨a, b⟩) E a w r at') ?_
  rintro e a' w' ⟨s', h', r', at2, q⟩
  cases e with
  | normal =>
    refine ⟨⟨s', h', r', at2, q.1⟩, ?_⟩
    have e1 : (fun i => a'.tmps.getD i undef) = s' := funext r'.get
    have e2 := at2.heap
    simp only [e1, e2]
    exact q.2
  | exit id => exact ⟨s', h', r', at2, q⟩
  | goto l => exact ⟨s', h', r', at2, q⟩
  | ret => exact ⟨s', h', r', at2, q⟩
  | panic c => exact ⟨s', h', r', at2, q⟩
  | outgrown => exact ⟨s', h', r', at2, q⟩

/-- The loop with its measure as a number that the invariant bears. -/
theorem exists_least {p : Nat → Prop} (h : ∃ m, p m) : ∃ m, p m ∧ ∀ k, p k → m ≤ k := by
  obtain ⟨m, hm⟩ := h
  induction m using Nat.strongRecOn with
  | ind m ih =>
    by_cases hk : ∃ k, k < m ∧ p k
    · obtain ⟨k, hkm, hpk⟩ := hk; exact ih k hkm hpk
    · exact ⟨m, hm, fun k hp => Nat.le_of_not_lt fun hlt => hk ⟨k, hlt, hp⟩⟩
noncomputable def least (p : Nat → Prop) : Nat := Classical.epsilon fun m => p m ∧ ∀ k, p k → m ≤ k
theorem least_spec {p : Nat → Prop} (h : ∃ m, p m) : p (least p) ∧ ∀ k, p k → least p ≤ k := Classical.epsilon_spec (exists_least h)

theorem HW.loopm {c : Code} (I : Nat → Slots → Heap → Prop) (h0 : ∃ m, I m s h)
    (round : ∀ m s h, I m s h → ∀ J : Slots → Heap → Prop, (∀ m' s' h', I m' s' h' → m' < m → J s' h') → HW P n c (thn J Q) s h) : HW P n (.loop c) Q s h := by
  refine HW.loop (fun s h => ∃ m, I m s h) (fun s h => least fun m => I m s h) h0 fun s h hI J hJ => ?_
  have hl := least_spec hI
  exact round _ s h hl.1 J fun m' s' h' hi hlt => hJ s' h' ⟨m', hi⟩ (Nat.lt_of_le_of_lt ((least_spec ⟨m', hi⟩).2 m' hi) hlt)

theorem HW.frame {c : Code} {l : List (Nat × Value)} (hs : Has s l) (hc : ∀ τ, HW P n c Q (frm l τ) h) : HW P n c Q s h := by
  have := hc s
  rwa [frm_of hs] at this

/-- The same code under a post that follows. -/
theorem HW.cut {c : Code} {K : Slots → Heap → Prop} (J : Slots → Heap → Prop) (hJ : ∀ s h, J s h → K s h) (hc : HW P n c (thn J Q) s h) : HW P n c (thn K Q) s h :=
  hc.mono fun e s h q => by cases e <;> first | exact hJ _ _ q | exact q

/-! ### Operations -/

end rules

def OpV (P : Program) (o : Oper) (s : Slots) (h : Heap) (v : Value) : Prop :=
  ∀ w : World, w.heap = h → (execOp (ev s) o).run P w = .ok (.value v) w
/-- A value, and another heap (draws alone besides). -/
def OpE (P : Program) (o : Oper) (s : Slots) (h : Heap) (v : Value) (h' : Heap) : Prop :=
  ∀ E w, At E h w → ∃ w', At E h' w' ∧ (execOp (ev s) o).run P w = .ok (.value v) w'
/-- A value and a heap out of a class (what a draw decides). -/
def OpA (P : Program) (o : Oper) (s : Slots) (h : Heap) (R : Value → Heap → Prop) : Prop :=
  ∀ E w, At E h w → ∃ v h' w', R v h' ∧ At E h' w' ∧ (execOp (ev s) o).run P w = .ok (.value v) w'
/-- No value. -/
def OpU (P : Program) (o : Oper) (s : Slots) (h : Heap) (h' : Heap) : Prop :=
  ∀ E w, At E h w → ∃ w', At E h' w' ∧ (execOp (ev s) o).run P w = .ok .skip w'

def Callable (P : Program) (f : FuncId) : Prop := ∃ fn, P.funcs[f]? = some fn ∧ (fn.name == "runtime.NumGoroutine") = false ∧ fn.body.isNone = false
/-- A call's contract over heaps. -/
def HC (P : Program) (f : FuncId) (args : Array Value) (h : Heap) (R : Value → Heap → Prop) : Prop :=
  Callable P f ∧ ∀ E w, At E h w → Calls P f args w fun e w' => ∃ v h', e = .returned v ∧ At E h' w' ∧ R v h'
theorem HC.mono {P : Program} {f : FuncId} {args : Array Value} {h : Heap} {R R' : Value → Heap → Prop} (hc : HC P f args h R) (hr : ∀ v h', R v h' → R' v h') : HC P f args h R' :=
  ⟨hc.1, fun E w at' => (hc.2 E w at').mono fun _ _ ⟨v, h', e, a, r⟩ => ⟨v, h', e, a, hr _ _ r⟩⟩

/-- The call that an operation makes. -/
def OpC (P : Program) (o : Oper) (s : Slots) (h : Heap) (f : FuncId) (args : Array Value) : Prop :=
  ∀ w : World, w.heap = h → Callable P f → (execOp (ev s) o).run P w = .ok (.enter f args) w

def wants (ops : Array Oper) (o : Oper) (s : Slots) : Bool :=
  match o.guard with
  | none => true
  | some (j, want) => match (ops[j]?).bind (·.dst) with
    | some d => match s d with
      | .bool b => b == want
      | _ => false
    | none => false

theorem Rel.wanted {n : Nat} {s : Slots} {a : Act} (r : Rel n s a) (ops : Array Oper) (o : Oper) : Region.wanted o (yielded ops a.tmps) = wants ops o s := by
  unfold Region.wanted wants yielded
  cases hg : o.guard with
  | none => rfl
  | some p =>
    obtain ⟨j, want⟩ := p
    simp only
    cases hd : (ops[j]?).bind (·.dst) with
    | none => simp
    | some d =>
      simp only [Option.bind_some]
      have hgd := r.get d
      by_cases hlt : d < a.tmps.size
      · have : a.tmps[d]? = some (s d) := by
          rw [← hgd]; simp [hlt]
        rw [this]
        cases s d <;> simp <;> cases want <;> rename_i b <;> cases b <;> rfl
      · have hn : a.tmps[d]? = none := Array.getElem?_eq_none (Nat.le_of_not_lt hlt)
        have : s d = undef := by rw [← hgd]; simp [hn]
        rw [hn, this]
        simp [undef]

/-- A list of operations, in the text's order. -/
def HO (P : Program) (n : Nat) (ops : Array Oper) (l : List Oper) (K : Slots → Heap → Prop) (s : Slots) (h : Heap) : Prop :=
  ∀ E a w, Rel n s a → At E h w → wpList P ops (Lift E n (nrm K)) l a w

section ops
variable {P : Program} {n : Nat} {ops : Array Oper} {l : List Oper} {o : Oper} {K : Slots → Heap → Prop} {s : Slots} {h : Heap}

theorem HO.nil (hk : K s h) : HO P n ops [] K s h := fun _ _ _ r at' => ⟨s, h, r, at', hk⟩

theorem HO.step (hw : wants ops o s = true) (hs : ∀ E a w, Rel n s a → At E h w → o.wp P a w (wpList P ops (Lift E n (nrm K)) l) (Lift E n (nrm K))) : HO P n ops (o :: l) K s h := by
  intro E a w r at'
  unfold wpList
  rw [r.wanted, hw]
  exact .inl (hs E a w r at')

theorem HO.v {v : Value} (hv : OpV P o s h v) (hw : wants ops o s = true) (d : Nat) (hd : o.dst = some d) (hn : Nat.blt d n = true) (hk : HO P n ops l K (upd s d v) h) : HO P n ops (o :: l) K s h :=
  HO.step hw fun E a w r at' => by
    unfold Oper.wp
    rw [r.eval', hv w at'.heap]
    simp only [Oper.upon, hd]
    exact hk E _ w (r.put v hn) at'

theorem HO.e {v : Value} {h' : Heap} (hv : OpE P o s h v h') (hw : wants ops o s = true) (d : Nat) (hd : o.dst = some d) (hn : Nat.blt d n = true) (hk : HO P n ops l K (upd s d v) h') : HO P n ops (o :: l) K s h :=
  HO.step hw fun E a w r at' => by
    obtain ⟨w', at2, hr⟩ := hv E w at'
    unfold Oper.wp
    rw [r.eval', hr]
    simp only [Oper.upon, hd]
    exact hk E _ w' (r.put v hn) at2

theorem HO.a {R : Value → Heap → Prop} (hv : OpA P o s h R) (hw : wants ops o s = true) (d : Nat) (hd : o.dst = some d) (hn : Nat.blt d n = true) (hk : ∀ v h', R v h' → HO P n ops l K (upd s d v) h') : HO P n ops (o :: l) K s h :=
  HO.step hw fun E a w r at' => by
    obtain ⟨v, h', w', hR, at2, hr⟩ := hv E w at'
    unfold Oper.wp
    rw [r.eval', hr]
    simp only [Oper.upon, hd]
    exact hk v h' hR E _ w' (r.put v hn) at2

theorem HO.a0 {R : Value → Heap → Prop} (hv : OpA P o s h R) (hw : wants ops o s = true) (hd : o.dst = none) (hk : ∀ v h', R v h' → HO P n ops l K s h') : HO P n ops (o :: l) K s h :=
  HO.step hw fun E a w r at' => by
    obtain ⟨v, h', w', hR, at2, hr⟩ := hv E w at'
    unfold Oper.wp
    rw [r.eval', hr]
    simp only [Oper.upon, hd, Act.put]
    exact hk v h' hR E _ w' r at2

theorem HO.u {h' : Heap} (hv : OpU P o s h h') (hw : wants ops o s = true) (hd : o.dst = none) (hk : HO P n ops l K s h') : HO P n ops (o :: l) K s h :=
  HO.step hw fun E a w r at' => by
    obtain ⟨w', at2, hr⟩ := hv E w at'
    unfold Oper.wp
    rw [r.eval', hr]
    simp only [Oper.upon, hd, Act.put]
    exact hk E _ w' r at2

theorem HO.c {f : FuncId} {args : Array Value} {R : Value → Heap → Prop} (hv : OpC P o s h f args) (hw : wants ops o s = true) (d : Nat) (hd : o.dst = some d) (hn : Nat.blt d n = true)
    (hc : HC P f args h R) (hk : ∀ v h', R v h' → HO P n ops l K (upd s d v) h') : HO P n ops (o :: l) K s h :=
  HO.step hw fun E a w r at' => by
    unfold Oper.wp
    rw [r.eval', hv w at'.heap hc.1]
    simp only [Oper.upon]
    refine (hc.2 E w at').mono ?_
    rintro e w' ⟨v, h', rfl, at2, hR⟩
    simp only [hd]
    exact hk v h' hR E _ w' (r.put v hn) at2

/-- A Boolean that guards what follows: both ways. -/
theorem HO.spl {b : Bool} {d : Nat} (ht : b = true → HO P n ops l K (upd s d (.bool true)) h) (hf : b = false → HO P n ops l K (upd s d (.bool false)) h) : HO P n ops l K (upd s d (.bool b)) h := by
  cases b
  · exact hf rfl
  · exact ht rfl
/-- An operation whose guard says no. -/
theorem HO.no (hw : wants ops o s = false) (d : Nat) (hd : o.dst = some d) (hn : Nat.blt d n = true) (hk : HO P n ops l K (upd s d undef) h) : HO P n ops (o :: l) K s h := by
  intro E a w r at'
  unfold wpList
  rw [r.wanted, hw, hd]
  exact hk E _ w (r.put undef hn) at'

end ops

theorem HW.region {P : Program} {n id : Nat} {l : List Oper} {Q : Exit → Slots → Heap → Prop} {s : Slots} {h : Heap} (hk : HO P n l.toArray l (fun s h => Q .normal s h) s h) : HW P n (.region id l.toArray false) Q s h := by
  intro E a w r at'
  refine wp_mono (wp_region_lit (hk E a w r at')) fun e _ _ => Lift.mono fun e s h q => ?_
  cases e with
  | normal => exact q
  | exit id => exact q.elim
  | goto l => exact q.elim
  | ret => exact q.elim
  | panic c => exact q.elim
  | outgrown => exact q.elim

/-! ### A region that draws its order, all of whose operations leave the heap alone -/

def HQ (P : Program) (n : Nat) (ops : Array Oper) (l : List Oper) (K : Slots → Heap → Prop) (s : Slots) (h : Heap) : Prop :=
  ∀ E a, Rel n s a → wpQuiet P ops (At E h) (fun a' => ∃ s', Rel n s' a' ∧ K s' h) l a

section quiet
variable {P : Program} {n : Nat} {ops : Array Oper} {l : List Oper} {o : Oper} {K : Slots → Heap → Prop} {s : Slots} {h : Heap}

theorem HQ.nil (hk : K s h) : HQ P n ops [] K s h := fun _ _ r => ⟨s, r, hk⟩

theorem HQ.v {v : Value} (hv : OpV P o s h v) (hw : wants ops o s = true) (d : Nat) (hd : o.dst = some d) (hn : Nat.blt d n = true) (hk : HQ P n ops l K (upd s d v) h) : HQ P n ops (o :: l) K s h := by
  intro E a r
  unfold wpQuiet
  rw [r.wanted, hw, if_pos rfl]
  refine ⟨v, fun w at' => ?_, ?_⟩
  · unfold Oper.quietAt
    rw [r.eval', hv w at'.heap]
    exact ⟨rfl, rfl⟩
  · rw [hd]; exact hk E _ (r.put v hn)

theorem HQ.c {v : Value} {f : FuncId} {args : Array Value} (hv : OpC P o s h f args) (hw : wants ops o s = true) (d : Nat) (hd : o.dst = some d) (hn : Nat.blt d n = true)
    (hc : HC P f args h (fun v' h' => v' = v ∧ h' = h)) (hk : HQ P n ops l K (upd s d v) h) : HQ P n ops (o :: l) K s h := by
  intro E a r
  unfold wpQuiet
  rw [r.wanted, hw, if_pos rfl]
  refine ⟨v, fun w at' => ?_, ?_⟩
  · unfold Oper.quietAt
    rw [r.eval', hv w at'.heap hc.1]
    refine ⟨rfl, (hc.2 E w at').mono ?_⟩
    rintro e w' ⟨v', h', rfl, at2, rfl, rfl⟩
    exact ⟨rfl, at2⟩
  · rw [hd]; exact hk E _ (r.put v hn)

theorem HQ.spl {b : Bool} {d : Nat} (ht : b = true → HQ P n ops l K (upd s d (.bool true)) h) (hf : b = false → HQ P n ops l K (upd s d (.bool false)) h) : HQ P n ops l K (upd s d (.bool b)) h := by
  cases b
  · exact hf rfl
  · exact ht rfl
theorem HQ.no (hw : wants ops o s = false) (d : Nat) (hd : o.dst = some d) (hn : Nat.blt d n = true) (hk : HQ P n ops l K (upd s d undef) h) : HQ P n ops (o :: l) K s h := by
  intro E a r
  unfold wpQuiet
  rw [r.wanted, hw, hd]
  exact hk E _ (r.put undef hn)
end quiet

theorem wpQuiet_mono {P : Program} {ops : Array Oper} {C : World → Prop} {Q Q' : Act → Prop} (hq : ∀ a, Q a → Q' a) : ∀ (l : List Oper) (a : Act), wpQuiet P ops C Q l a → wpQuiet P ops C Q' l a
  | [], a, h => hq a h
  | o :: l, a, h => by
    unfold wpQuiet at h ⊢
    split
    · rename_i hw
      rw [if_pos hw] at h
      exact Oper.quiet_mono (wpQuiet_mono hq l) h
    · rename_i hw
      rw [if_neg hw] at h
      exact wpQuiet_mono hq l _ h

theorem HW.quiet {P : Program} {n id : Nat} {l : List Oper} {Q : Exit → Slots → Heap → Prop} {s : Slots} {h : Heap} (hm : P.follows .mixedOrders = true) (hB : Region.lexB .any l.toArray = true)
    (hk : HQ P n l.toArray l (fun s h => Q .normal s h) s h) : HW P n (.region id l.toArray true) Q s h := by
  intro E a w r at'
  refine wp_region_quiet (C := At E h) hm hB ⟨at'.heap, at'.os, at'.tape, at'.output⟩ ?_
  have := hk E a r
  have e : (l.toArray).toList = l := by simp
  rw [e]
  refine wpQuiet_mono (fun a' => ?_) l a this
  rintro ⟨s', r', k⟩ w' at2
  exact ⟨s', h, r', at2, k⟩

/-! ### A region that draws its order: its head leaves the heap alone, its tail goes in one order -/

def HT (P : Program) (n : Nat) (ops : Array Oper) (l : List Oper) (K : Slots → Heap → Prop) (s : Slots) (h : Heap) : Prop :=
  ∀ a w, Rel n s a → w.heap = h → wpStill P ops w (fun a' => ∃ s', Rel n s' a' ∧ K s' h) l a
section head
variable {P : Program} {n : Nat} {ops : Array Oper} {l : List Oper} {o : Oper} {K : Slots → Heap → Prop} {s : Slots} {h : Heap}
theorem HT.nil (hk : K s h) : HT P n ops [] K s h := fun _ _ r _ => ⟨s, r, hk⟩
theorem HT.v {v : Value} (hv : OpV P o s h v) (hw : wants ops o s = true) (d : Nat) (hd : o.dst = some d) (hn : Nat.blt d n = true) (hk : HT P n ops l K (upd s d v) h) : HT P n ops (o :: l) K s h := by
  intro a w r hh
  unfold wpStill
  rw [r.wanted, hw, if_pos rfl]
  unfold Oper.still
  rw [r.eval', hv w hh]
  exact ⟨rfl, by rw [hd]; exact hk _ w (r.put v hn) hh⟩
theorem HT.spl {b : Bool} {d : Nat} (ht : b = true → HT P n ops l K (upd s d (.bool true)) h) (hf : b = false → HT P n ops l K (upd s d (.bool false)) h) : HT P n ops l K (upd s d (.bool b)) h := by
  cases b
  · exact hf rfl
  · exact ht rfl
theorem HT.no (hw : wants ops o s = false) (d : Nat) (hd : o.dst = some d) (hn : Nat.blt d n = true) (hk : HT P n ops l K (upd s d undef) h) : HT P n ops (o :: l) K s h := by
  intro a w r hh
  unfold wpStill
  rw [r.wanted, hw, hd]
  exact hk _ w (r.put undef hn) hh
theorem wpStill_mono' {w : World} {Q Q' : Act → Prop} (hq : ∀ a, Q a → Q' a) : ∀ (l : List Oper) (a : Act), wpStill P ops w Q l a → wpStill P ops w Q' l a
  | [], a, h => hq a h
  | o :: l, a, h => by
    unfold wpStill at h ⊢
    split
    · rename_i hw
      rw [if_pos hw] at h
      unfold Oper.still Oper.stillUpon at h ⊢
      revert h
      generalize (execOp a.eval o).run P w = r
      intro h
      cases r with
      | ok n w' =>
        cases n <;> simp only at h ⊢ <;> try exact h
        · exact ⟨h.1, wpStill_mono' hq l _ h.2⟩
        · exact ⟨h.1, wpStill_mono' hq l _ h.2⟩
        · exact ⟨h.1, let ⟨v, h1, h2⟩ := h.2; ⟨v, h1, wpStill_mono' hq l _ h2⟩⟩
      | halt x w' => exact h
    · rename_i hw
      rw [if_neg hw] at h
      exact wpStill_mono' hq l _ h
end head
theorem HW.tail {P : Program} {n id : Nat} {l : List Oper} {Q : Exit → Slots → Heap → Prop} {s : Slots} {h : Heap} (q : Nat) (hm : P.follows .mixedOrders = true) (hB : Region.lexTailB .any l.toArray q = true)
    (hk : HT P n l.toArray (l.take q) (HO P n l.toArray (l.drop q) (fun s h => Q .normal s h)) s h) : HW P n (.region id l.toArray true) Q s h := by
  intro E a w r at'
  have at2 : At E h { w with drawn := w.drawn + 1 } := ⟨at'.heap, at'.os, at'.tape, at'.output⟩
  refine wp_mono (wp_region_still_tail (Q := Lift E n (nrm fun s h => Q .normal s h)) q hm hB (wpStill_mono' ?_ _ _ (hk a { w with drawn := w.drawn + 1 } r at'.heap))) fun e _ _ => Lift.mono fun e s h q => ?_
  · rintro a' ⟨s', r', k⟩
    exact k E a' _ r' at2
  · cases e with
    | normal => exact q
    | exit id => exact q.elim
    | goto l => exact q.elim
    | ret => exact q.elim
    | panic c => exact q.elim
    | outgrown => exact q.elim

/-! ### A region that draws its order, some of whose operations write -/

/-- Whatever order is picked from here on; S holds behind every operation, at a flag that says whether the operation 'bar' has been carried out. -/
def wpAnyS (P : Program) (ops : Array Oper) (Q : Exit → Act → World → Prop) (bar : Nat) (S : Bool → World → Prop) : Nat → Array Bool → Act → World → Prop
  | 0, listed, a, w => Region.ready .any ops listed = [] ∧ Q .normal a w
  | fuel + 1, listed, a, w =>
    (Region.ready .any ops listed = [] → Q .normal a w) ∧
    ∀ i ∈ Region.ready .any ops listed, wpOp P ops Q i (fun a' w' => S ((listed.setIfInBounds i true).getD bar false) w' ∧ wpAnyS P ops Q bar S fuel (listed.setIfInBounds i true) a' w') a w

section anyS
variable {P : Program} {ops : Array Oper} {Q : Exit → Act → World → Prop} {bar : Nat} {S : Bool → World → Prop}

theorem wpAny_of_S : ∀ (fuel : Nat) (listed : Array Bool) (a : Act) (w : World), wpAnyS P ops Q bar S fuel listed a w → wpAny P .any ops Q fuel listed a w
  | 0, _, _, _, h => h
  | fuel + 1, _, _, _, h => ⟨h.1, fun i hi => wpOp_mono (fun a' w' h' => wpAny_of_S fuel _ a' w' h'.2) (h.2 i hi)⟩

theorem flag_ne {listed : Array Bool} {i : Nat} (h : i ≠ bar) : (listed.setIfInBounds i true).getD bar false = listed.getD bar false := getD_set_ne false h

/-- An operation taken first: its value is the same in every world of S, before the bar and (unless the bar waits for it) behind it. -/
theorem wpAnyS_first {i : Nat} {oi : Oper} {v : Value} (hi : ops[i]? = some oi) (hsel : ∀ (j : Nat) (o : Oper) cs b, ops[j]? = some o → o.op ≠ .select cs b) (hib : i ≠ bar)
    (hQ : ∀ c a w, Q (.panic c) (a.put oi.dst v) w → Q (.panic c) a w) :
    ∀ (fuel : Nat) (listed : Array Bool) (a : Act) (w : World),
      (∀ j oj, ops[j]? = some oj → j ≠ i → listed.getD j true = false → (∀ e ∈ oj.after, Region.binds .any e = true → e.on ≠ i) → oi.apart ops oj = true) →
      i ∈ Region.ready .any ops listed → YieldsIf P ops (fun w => S (listed.getD bar false) w ∨ (Region.waitsFor .any ops bar i = false ∧ S true w)) oi v a → S (listed.getD bar false) w →
      wpAnyS P ops Q bar S fuel (listed.setIfInBounds i true) (a.put oi.dst v) w → wpAnyS P ops Q bar S (fuel + 1) listed a w := by
  intro fuel
  induction fuel with
  | zero =>
    intro listed a w _ hr hy hS H
    refine ⟨fun h => (by rw [h] at hr; cases hr), fun j hj => ?_⟩
    by_cases hji : j = i
    · subst hji; exact hy.wpOp hi (.inl hS) ⟨by rw [flag_ne hib]; exact hS, H⟩
    · have := ready_mono hj hji
      rw [H.1] at this
      cases this
  | succ fuel ih =>
    intro listed a w hfree hr hy hS H
    refine ⟨fun h => (by rw [h] at hr; cases hr), fun j hj => ?_⟩
    by_cases hji : j = i
    · subst hji; exact hy.wpOp hi (.inl hS) ⟨by rw [flag_ne hib]; exact hS, H⟩
    · have h1 := H.2 j (ready_mono hj hji)
      obtain ⟨hjun, oj, hoj, hall⟩ := mem_ready.1 hj
      have hnot : ∀ e ∈ oj.after, Region.binds .any e = true → e.on ≠ i := fun e he hb heq => by
        have h1 := hall e he hb
        have h0 := (mem_ready.1 hr).1
        rw [heq] at h1
        rcases Nat.lt_or_ge i listed.size with h' | h'
        · simp [h'] at h0 h1; rw [h0] at h1; cases h1
        · simp [Array.getElem?_eq_none h'] at h1
      have h2 := wpOp_putIf hoj (hfree j oj hoj hji hjun hnot) (fun cs b => hsel i oi cs b hi) (fun cs b => hsel j oj cs b hoj) hQ hy h1
      have hfree' : ∀ k ok, ops[k]? = some ok → k ≠ i → (listed.setIfInBounds j true).getD k true = false →
          (∀ e ∈ ok.after, Region.binds .any e = true → e.on ≠ i) → oi.apart ops ok = true := fun k ok hk hki hun hno => by
        refine hfree k ok hk hki ?_ hno
        by_cases hjk : j = k
        · subst hjk; exact hjun
        · rw [getD_set_ne true hjk] at hun; exact hun
      have hcomm : ((listed.setIfInBounds i true).setIfInBounds j true).getD bar false = (listed.setIfInBounds j true).getD bar false := by
        rw [Array.setIfInBounds_comm _ _ (Ne.symm hji)]; exact flag_ne hib
      have hlower : ∀ w, (S ((listed.setIfInBounds j true).getD bar false) w ∨ (Region.waitsFor .any ops bar i = false ∧ S true w)) → (S (listed.getD bar false) w ∨ (Region.waitsFor .any ops bar i = false ∧ S true w)) := fun w hw => by
        rcases hw with hw | hw
        · by_cases hjb : j = bar
          · subst hjb
            have hwf : Region.waitsFor .any ops j i = false := by
              cases hq : Region.waitsFor .any ops j i with
              | false => rfl
              | true =>
                obtain ⟨o', ho', e, he, hb, heo⟩ := Region.waitsFor_spec hq
                rw [hoj] at ho'; injection ho' with ho'; subst ho'
                exact absurd heo (hnot e he hb)
            refine .inr ⟨hwf, ?_⟩
            have : (listed.setIfInBounds j true).getD j false = true ∨ (listed.setIfInBounds j true).getD j false = listed.getD j false := by
              by_cases hlt : j < listed.size
              · left; simp [hlt]
              · right; simp [hlt]
            rcases this with h' | h'
            · rw [h'] at hw; exact hw
            · have hl : ¬ j < listed.size := fun hlt => by simp [hlt] at hjun; simp [hlt, hjun] at h'
              simp [Array.getElem?_eq_none (Nat.le_of_not_lt hl)] at hjun
          · rw [flag_ne hjb] at hw; exact .inl hw
        · exact .inr hw
      refine wpOp_mono (fun a' w' h3 => ?_) h2
      obtain ⟨hy', hS', hrest⟩ := h3
      rw [hcomm] at hS'
      refine ⟨hS', ih (listed.setIfInBounds j true) a' w' hfree' (ready_mono hr (Ne.symm hji)) ?_ hS' ?_⟩
      · exact hy'.imp (fun ⟨q1, q2⟩ => ⟨q1, fun w hw => q2 w (hlower w hw)⟩) id
      · rw [Array.setIfInBounds_comm _ _ hji]
        exact hrest
end anyS

def HA (P : Program) (n : Nat) (ops : Array Oper) (bar : Nat) (S : Bool → Heap → Prop) (K : Slots → Heap → Prop) (fuel : Nat) (listed : Array Bool) (s : Slots) (h : Heap) : Prop :=
  ∀ E a w, Rel n s a → At E h w → wpAnyS P ops (Lift E n (nrm K)) bar (fun fl w' => S fl w'.heap) fuel listed a w

section any
variable {P : Program} {n : Nat} {ops : Array Oper} {o : Oper} {bar : Nat} {S : Bool → Heap → Prop} {K : Slots → Heap → Prop} {fuel : Nat} {listed : Array Bool} {s : Slots} {h : Heap}

theorem HA.done (hr : Region.ready .any ops listed = []) (hk : K s h) : HA P n ops bar S K fuel listed s h :=
  fun _ _ _ r at' => match fuel with
    | 0 => ⟨hr, ⟨s, h, r, at', hk⟩⟩
    | _ + 1 => ⟨fun _ => ⟨s, h, r, at', hk⟩, by rw [hr]; simp⟩

theorem noPanic {E : Env} {K : Slots → Heap → Prop} {v : Value} {dst : Option Tmp} : ∀ c a w, Lift E n (nrm K) (.panic c) (a.put dst v) w → Lift E n (nrm K) (.panic c) a w :=
  fun _ _ _ ⟨_, _, _, _, q⟩ => q.elim

/-- Take an operation first whose value is the same in every heap that meets S. -/
theorem HA.take (i : Nat) {v : Value} (hi : ops[i]? = some o) (hs : Region.noSelect ops = true) (hf : Region.free .any ops listed i = true) (hr : (Region.ready .any ops listed).contains i = true) (hib : Nat.beq i bar = false)
    (hw : wants ops o s = true) (d : Nat) (hd : o.dst = some d) (hn : Nat.blt d n = true) (hS : S (listed.getD bar false) h) (hv : ∀ h', (S (listed.getD bar false) h' ∨ (Region.waitsFor .any ops bar i = false ∧ S true h')) → OpV P o s h' v)
    (hk : HA P n ops bar S K fuel (listed.setIfInBounds i true) (upd s d v) h) : HA P n ops bar S K (fuel + 1) listed s h := by
  intro E a w r at'
  refine wpAnyS_first hi (Region.noSelect_spec hs) (fun e => by subst e; simp at hib) noPanic _ _ _ _ (Region.free_spec hi hf) (by simpa using hr) (.inl ⟨by rw [r.wanted, hw], fun w' hw' => by rw [r.eval']; exact hv _ hw' w' rfl⟩) (by rw [at'.heap]; exact hS) ?_
  rw [hd]; exact hk E _ w (r.put v hn) at'
/-- .. that hangs on no heap. -/
theorem HA.p (i : Nat) {v : Value} (hi : ops[i]? = some o) (hs : Region.noSelect ops = true) (hf : Region.free .any ops listed i = true) (hr : (Region.ready .any ops listed).contains i = true) (hib : Nat.beq i bar = false)
    (hw : wants ops o s = true) (d : Nat) (hd : o.dst = some d) (hn : Nat.blt d n = true) {fl : Bool} (hfl : listed.getD bar false = fl) (hS : S fl h) (hv : ∀ h', OpV P o s h' v)
    (hk : HA P n ops bar S K fuel (listed.setIfInBounds i true) (upd s d v) h) : HA P n ops bar S K (fuel + 1) listed s h :=
  HA.take i hi hs hf hr hib hw d hd hn (by rw [hfl]; exact hS) (fun h' _ => hv h') hk
/-- .. that reads the heap, ahead of the bar, which waits for it. -/
theorem HA.v (i : Nat) {v : Value} (hi : ops[i]? = some o) (hs : Region.noSelect ops = true) (hf : Region.free .any ops listed i = true) (hr : (Region.ready .any ops listed).contains i = true) (hib : Nat.beq i bar = false)
    (hw : wants ops o s = true) (d : Nat) (hd : o.dst = some d) (hn : Nat.blt d n = true) {fl : Bool} (hfl : listed.getD bar false = fl) (hS : S fl h) (hwt : Region.waitsFor .any ops bar i = true) (hv : ∀ h', S fl h' → OpV P o s h' v)
    (hk : HA P n ops bar S K fuel (listed.setIfInBounds i true) (upd s d v) h) : HA P n ops bar S K (fuel + 1) listed s h :=
  HA.take i hi hs hf hr hib hw d hd hn (by rw [hfl]; exact hS) (fun h' hh => hv h' (by rw [hfl, hwt] at hh; rcases hh with hh | ⟨e, _⟩; exact hh; cases e)) hk
/-- .. that reads the heap, where S does not hang on the bar. -/
theorem HA.w (i : Nat) {v : Value} (hi : ops[i]? = some o) (hs : Region.noSelect ops = true) (hf : Region.free .any ops listed i = true) (hr : (Region.ready .any ops listed).contains i = true) (hib : Nat.beq i bar = false)
    (hw : wants ops o s = true) (d : Nat) (hd : o.dst = some d) (hn : Nat.blt d n = true) {fl : Bool} (hfl : listed.getD bar false = fl) (hS : S fl h) (hv : ∀ fl h', S fl h' → OpV P o s h' v)
    (hk : HA P n ops bar S K fuel (listed.setIfInBounds i true) (upd s d v) h) : HA P n ops bar S K (fuel + 1) listed s h :=
  HA.take i hi hs hf hr hib hw d hd hn (by rw [hfl]; exact hS) (fun h' hh => by rcases hh with hh | ⟨_, hh⟩ <;> exact hv _ h' hh) hk

theorem HA.spl {b : Bool} {d : Nat} (ht : b = true → HA P n ops bar S K fuel listed (upd s d (.bool true)) h) (hf : b = false → HA P n ops bar S K fuel listed (upd s d (.bool false)) h) : HA P n ops bar S K fuel listed (upd s d (.bool b)) h := by
  cases b
  · exact hf rfl
  · exact ht rfl
theorem HA.no (i : Nat) (hi : ops[i]? = some o) (hs : Region.noSelect ops = true) (hf : Region.free .any ops listed i = true) (hr : (Region.ready .any ops listed).contains i = true) (hib : Nat.beq i bar = false)
    (hw : wants ops o s = false) (d : Nat) (hd : o.dst = some d) (hn : Nat.blt d n = true) {fl : Bool} (hfl : listed.getD bar false = fl) (hS : S fl h)
    (hk : HA P n ops bar S K fuel (listed.setIfInBounds i true) (upd s d undef) h) : HA P n ops bar S K (fuel + 1) listed s h := by
  intro E a w r at'
  refine wpAnyS_first hi (Region.noSelect_spec hs) (fun e => by subst e; simp at hib) noPanic (v := undef) _ _ _ _ (Region.free_spec hi hf) (by simpa using hr) (.inr ⟨by rw [r.wanted, hw], rfl⟩) (by rw [at'.heap, hfl]; exact hS) ?_
  rw [hd]; exact hk E _ w (r.put undef hn) at'

/-- What an operation that comes up leaves to be shown. -/
def Up (P : Program) (n : Nat) (ops : Array Oper) (bar : Nat) (S : Bool → Heap → Prop) (K : Slots → Heap → Prop) (fuel : Nat) (listed : Array Bool) (i : Nat) (s : Slots) (h : Heap) : Prop :=
  ∀ E a w, Rel n s a → At E h w → wpOp P ops (Lift E n (nrm K)) i (fun a' w' => S ((listed.setIfInBounds i true).getD bar false) w'.heap ∧ wpAnyS P ops (Lift E n (nrm K)) bar (fun fl w' => S fl w'.heap) fuel (listed.setIfInBounds i true) a' w') a w

theorem all_of {E : Env} {a : Act} {w : World} {rs : List Nat} (hr : Region.ready .any ops listed = rs) (hne : rs ≠ [])
    (hk : ∀ i ∈ rs, wpOp P ops (Lift E n (nrm K)) i (fun a' w' => S ((listed.setIfInBounds i true).getD bar false) w'.heap ∧ wpAnyS P ops (Lift E n (nrm K)) bar (fun fl w' => S fl w'.heap) fuel (listed.setIfInBounds i true) a' w') a w) :
    wpAnyS P ops (Lift E n (nrm K)) bar (fun fl w' => S fl w'.heap) (fuel + 1) listed a w := ⟨fun h0 => absurd (hr ▸ h0) hne, hr ▸ hk⟩
theorem HA.one (i : Nat) (hr : Region.ready .any ops listed = [i]) (hk : Up P n ops bar S K fuel listed i s h) : HA P n ops bar S K (fuel + 1) listed s h :=
  fun E a w r at' => all_of hr (by simp) fun j hj => by
    rw [List.mem_singleton] at hj; subst hj; exact hk E a w r at'
theorem HA.two (i j : Nat) (hr : Region.ready .any ops listed = [i, j]) (hi : Up P n ops bar S K fuel listed i s h) (hj : Up P n ops bar S K fuel listed j s h) : HA P n ops bar S K (fuel + 1) listed s h :=
  fun E a w r at' => all_of hr (by simp) fun k hk => by
    rcases List.mem_cons.1 hk with rfl | hk
    · exact hi E a w r at'
    · rw [List.mem_singleton] at hk; subst hk; exact hj E a w r at'
theorem HA.three (i j k : Nat) (hr : Region.ready .any ops listed = [i, j, k]) (hi : Up P n ops bar S K fuel listed i s h) (hj : Up P n ops bar S K fuel listed j s h) (hk : Up P n ops bar S K fuel listed k s h) : HA P n ops bar S K (fuel + 1) listed s h :=
  fun E a w r at' => all_of hr (by simp) fun m hm => by
    rcases List.mem_cons.1 hm with rfl | hm
    · exact hi E a w r at'
    rcases List.mem_cons.1 hm with rfl | hm
    · exact hj E a w r at'
    · rw [List.mem_singleton] at hm; subst hm; exact hk E a w r at'

theorem Up.step {i : Nat} (hi : ops[i]? = some o) (hw : wants ops o s = true) (hs : ∀ E a w, Rel n s a → At E h w → o.wp P a w (fun a' w' => S ((listed.setIfInBounds i true).getD bar false) w'.heap ∧ wpAnyS P ops (Lift E n (nrm K)) bar (fun fl w' => S fl w'.heap) fuel (listed.setIfInBounds i true) a' w') (Lift E n (nrm K))) :
    Up P n ops bar S K fuel listed i s h := by
  intro E a w r at'
  unfold wpOp
  simp only [hi]
  rw [r.wanted, hw, if_pos rfl]
  exact .inl (hs E a w r at')

theorem Up.v {i : Nat} {v : Value} (hi : ops[i]? = some o) (hw : wants ops o s = true) (d : Nat) (hd : o.dst = some d) (hn : Nat.blt d n = true) (hv : OpV P o s h v) {fl : Bool} (hfl : (listed.setIfInBounds i true).getD bar false = fl) (hS : S fl h)
    (hk : HA P n ops bar S K fuel (listed.setIfInBounds i true) (upd s d v) h) : Up P n ops bar S K fuel listed i s h :=
  Up.step hi hw fun E a w r at' => by
    unfold Oper.wp
    rw [r.eval', hv w at'.heap]
    simp only [Oper.upon, hd, hfl]
    exact ⟨by rw [at'.heap]; exact hS, hk E _ w (r.put v hn) at'⟩

theorem Up.e {i : Nat} {v : Value} {h' : Heap} (hi : ops[i]? = some o) (hw : wants ops o s = true) (d : Nat) (hd : o.dst = some d) (hn : Nat.blt d n = true) (hv : OpE P o s h v h') {fl : Bool} (hfl : (listed.setIfInBounds i true).getD bar false = fl) (hS : S fl h')
    (hk : HA P n ops bar S K fuel (listed.setIfInBounds i true) (upd s d v) h') : Up P n ops bar S K fuel listed i s h :=
  Up.step hi hw fun E a w r at' => by
    obtain ⟨w', at2, hr⟩ := hv E w at'
    unfold Oper.wp
    rw [r.eval', hr]
    simp only [Oper.upon, hd, hfl]
    exact ⟨by rw [at2.heap]; exact hS, hk E _ w' (r.put v hn) at2⟩

theorem Up.a {i : Nat} {R : Value → Heap → Prop} (hi : ops[i]? = some o) (hw : wants ops o s = true) (d : Nat) (hd : o.dst = some d) (hn : Nat.blt d n = true) (hv : OpA P o s h R) {fl : Bool} (hfl : (listed.setIfInBounds i true).getD bar false = fl)
    (hk : ∀ v h', R v h' → S fl h' ∧ HA P n ops bar S K fuel (listed.setIfInBounds i true) (upd s d v) h') : Up P n ops bar S K fuel listed i s h :=
  Up.step hi hw fun E a w r at' => by
    obtain ⟨v, h', w', hR, at2, hr⟩ := hv E w at'
    unfold Oper.wp
    rw [r.eval', hr]
    simp only [Oper.upon, hd, hfl]
    obtain ⟨k1, k2⟩ := hk v h' hR
    exact ⟨by rw [at2.heap]; exact k1, k2 E _ w' (r.put v hn) at2⟩

theorem Up.a0 {i : Nat} {R : Value → Heap → Prop} (hi : ops[i]? = some o) (hw : wants ops o s = true) (hd : o.dst = none) (hv : OpA P o s h R) {fl : Bool} (hfl : (listed.setIfInBounds i true).getD bar false = fl)
    (hk : ∀ v h', R v h' → S fl h' ∧ HA P n ops bar S K fuel (listed.setIfInBounds i true) s h') : Up P n ops bar S K fuel listed i s h :=
  Up.step hi hw fun E a w r at' => by
    obtain ⟨v, h', w', hR, at2, hr⟩ := hv E w at'
    unfold Oper.wp
    rw [r.eval', hr]
    simp only [Oper.upon, hd, Act.put, hfl]
    obtain ⟨k1, k2⟩ := hk v h' hR
    exact ⟨by rw [at2.heap]; exact k1, k2 E _ w' r at2⟩

theorem Up.u {i : Nat} {h' : Heap} (hi : ops[i]? = some o) (hw : wants ops o s = true) (hd : o.dst = none) (hv : OpU P o s h h') {fl : Bool} (hfl : (listed.setIfInBounds i true).getD bar false = fl) (hS : S fl h')
    (hk : HA P n ops bar S K fuel (listed.setIfInBounds i true) s h') : Up P n ops bar S K fuel listed i s h :=
  Up.step hi hw fun E a w r at' => by
    obtain ⟨w', at2, hr⟩ := hv E w at'
    unfold Oper.wp
    rw [r.eval', hr]
    simp only [Oper.upon, hd, Act.put, hfl]
    exact ⟨by rw [at2.heap]; exact hS, hk E _ w' r at2⟩

theorem Up.c {i : Nat} {f : FuncId} {args : Array Value} {R : Value → Heap → Prop} (hi : ops[i]? = some o) (hw : wants ops o s = true) (d : Nat) (hd : o.dst = some d) (hn : Nat.blt d n = true) (hv : OpC P o s h f args)
    (hc : HC P f args h R) {fl : Bool} (hfl : (listed.setIfInBounds i true).getD bar false = fl) (hk : ∀ v h', R v h' → S fl h' ∧ HA P n ops bar S K fuel (listed.setIfInBounds i true) (upd s d v) h') : Up P n ops bar S K fuel listed i s h :=
  Up.step hi hw fun E a w r at' => by
    unfold Oper.wp
    rw [r.eval', hv w at'.heap hc.1]
    simp only [Oper.upon]
    refine (hc.2 E w at').mono ?_
    rintro e w' ⟨v, h', rfl, at2, hR⟩
    simp only [hd, hfl]
    obtain ⟨k1, k2⟩ := hk v h' hR
    exact ⟨by rw [at2.heap]; exact k1, k2 E _ w' (r.put v hn) at2⟩
end any

theorem HW.any {P : Program} {n id : Nat} {l : List Oper} {Q : Exit → Slots → Heap → Prop} {s : Slots} {h : Heap} (bar : Nat) (S : Bool → Heap → Prop) (hm : P.follows .mixedOrders = true)
    (hk : HA P n l.toArray bar S (fun s h => Q .normal s h) l.length (Array.replicate l.length false) s h) : HW P n (.region id l.toArray true) Q s h := by
  intro E a w r at'
  have hw := hk E a { w with drawn := w.drawn + 1 } r ⟨at'.heap, at'.os, at'.tape, at'.output⟩
  refine wp_mono (wp_region_any hm (wpAny_of_S _ _ _ _ (by simpa using hw))) fun e _ _ => Lift.mono fun e s h q => ?_
  cases e with
  | normal => exact q
  | exit id => exact q.elim
  | goto l => exact q.elim
  | ret => exact q.elim
  | panic c => exact q.elim
  | outgrown => exact q.elim

/-! ### A function's body -/

@[reducible] def lst : List Value → Slots
  | [], _ => undef
  | v :: _, 0 => v
  | _ :: l, i + 1 => lst l i

theorem lst_getD : ∀ (l : List Value) (i : Nat), l.getD i undef = lst l i
  | [], _ => rfl
  | _ :: _, 0 => rfl
  | _ :: l, i + 1 => by simpa using lst_getD l i

/-- What the function's results read as. -/
def Res (P : Program) (fn : Func) (s : Slots) (h : Heap) (v : Value) : Prop :=
  ∀ (tmps : Array Value) (w : World), (∀ i, tmps.getD i undef = s i) → w.heap = h → (results fn tmps).run P w = .ok v w

def fin (P : Program) (fn : Func) (R : Value → Heap → Prop) : Exit → Slots → Heap → Prop
  | .normal, s, h | .ret, s, h => ∃ v, Res P fn s h v ∧ R v h
  | _, _, _ => False

theorem HC.body {P : Program} {f : FuncId} {fn : Func} {c : Code} {args : List Value} {h : Heap} {R : Value → Heap → Prop} (hf : P.funcs[f]? = some fn) (hb : fn.body = some c)
    (hname : (fn.name == "runtime.NumGoroutine") = false) (n : Nat) (hn : fn.ntmps = n) (hsz : Nat.ble args.length n = true) (hc : HW P n c (fin P fn R) (lst args) h) : HC P f args.toArray h R := by
  have hsz := Nat.le_of_ble_eq_true hsz
  refine ⟨⟨fn, hf, hname, by simp [hb]⟩, fun E w at' => calls_of_wp hf hb ?_⟩
  subst hn
  refine wp_mono (hc E _ w ⟨by simp; omega, fun i => ?_, rfl⟩ at') ?_
  · rw [← lst_getD]
    simp only [Array.getD_eq_getD_getElem?, Array.getElem?_append, List.getD_eq_getElem?_getD]
    by_cases hi : i < args.length
    · simp [hi]
    · simp only [List.size_toArray, hi, if_false]
      rw [List.getElem?_eq_none (by omega)]
      by_cases hj : i - args.length < fn.ntmps - args.length
      · rw [Array.getElem?_replicate, if_pos hj]; rfl
      · rw [Array.getElem?_replicate, if_neg hj]
  · rintro e a' w' ⟨s', h', r', at2, q⟩
    cases e with
    | normal => obtain ⟨v, hv, hR⟩ := q; exact ⟨r'.defers, v, hv _ _ r'.get at2.heap, v, h', rfl, at2, hR⟩
    | ret => obtain ⟨v, hv, hR⟩ := q; exact ⟨r'.defers, v, hv _ _ r'.get at2.heap, v, h', rfl, at2, hR⟩
    | exit id => exact q.elim
    | goto l => exact q.elim
    | panic c => exact q.elim
    | outgrown => exact q.elim

/-- A load of a variable of a type. -/
def LoadIs (P : Program) (h : Heap) (t : TypeId) (ad : Addr) (v : Value) : Prop := ∀ w : World, w.heap = h → (loadVar t ad).run P w = .ok v w

section res
variable {P : Program} {fn : Func} {s : Slots} {h : Heap}
theorem Res.none (hr : fn.results = #[]) : Res P fn s h (.tuple #[]) := fun tmps w _ _ => by simp [results, hr]
theorem Res.one {t : Tmp} {v : Value} (hr : fn.results = #[.tmp t]) (hv : s t = v) : Res P fn s h v := fun tmps w hg _ => by
  have := hg t
  simp [results, hr]
  simp [hv] at this
  exact this
theorem Res.two {t u : Tmp} {v1 v2 : Value} (hr : fn.results = #[.tmp t, .tmp u]) (hv1 : s t = v1) (hv2 : s u = v2) : Res P fn s h (.tuple #[v1, v2]) := fun tmps w hg _ => by
  have h1 := hg t
  have h2 := hg u
  simp [results, hr]
  simp at h1 h2
  simp [h1, h2, hv1, hv2]
theorem Res.three {t u x : Tmp} {v1 v2 v3 : Value} (hr : fn.results = #[.tmp t, .tmp u, .tmp x]) (hv1 : s t = v1) (hv2 : s u = v2) (hv3 : s x = v3) : Res P fn s h (.tuple #[v1, v2, v3]) := fun tmps w hg _ => by
  have h1 := hg t
  have h2 := hg u
  have h3 := hg x
  simp [results, hr]
  simp at h1 h2 h3
  simp [h1, h2, h3, hv1, hv2, hv3]
/-- Results of whatever make: temporaries, and variables in memory. -/
def ResVs (P : Program) (s : Slots) (h : Heap) : List ResultVar → List Value → Prop
  | [], [] => True
  | .tmp t :: rs, v :: vs => s t = v ∧ ResVs P s h rs vs
  | .cell a t :: rs, v :: vs => (∃ ad, s a = .pointer (some ad) ∧ LoadIs P h t ad v) ∧ ResVs P s h rs vs
  | _, _ => False
def tup : List Value → Value
  | [v] => v
  | vs => .tuple vs.toArray
def resF (tmps : Array Value) (x : ResultVar) : Sem Value :=
  match x with
  | .tmp t => pure (tmps.getD t undef)
  | .cell a t => do loadVar t (← asAddr (tmps.getD a undef))
theorem run_results {tmps : Array Value} {w : World} (hg : ∀ i, tmps.getD i undef = s i) (hw : w.heap = h) : ∀ {rs : List ResultVar} {vs : List Value}, ResVs P s h rs vs →
    (rs.mapM (resF tmps)).run P w = .ok vs w
  | [], [], _ => by simp
  | .tmp t :: rs, v :: vs, hr => by
    have ih := run_results hg hw hr.2
    have e : (resF tmps (.tmp t)).run P w = .ok v w := by
      unfold resF; dsimp only; rw [hg t, hr.1]; rfl
    simp only [List.mapM_cons, Sem.run_bind, Sem.run_pure, Result.andThen_ok, e, ih]
  | .cell a t :: rs, v :: vs, hr => by
    obtain ⟨⟨ad, h1, h2⟩, h3⟩ := hr
    have ih := run_results hg hw h3
    have e : (resF tmps (.cell a t)).run P w = .ok v w := by
      unfold resF; dsimp only; rw [hg a, h1]; simp [asAddr, h2 w hw]
    simp only [List.mapM_cons, Sem.run_bind, Sem.run_pure, Result.andThen_ok, e, ih]
theorem Res.many {rs : List ResultVar} {vs : List Value} {v : Value} (hr : fn.results = rs.toArray) (hv : ResVs P s h rs vs) (ht : tup vs = v) : Res P fn s h v := fun tmps w hg hw => by
  have hrun := run_results hg hw hv
  subst ht
  have hd : results fn tmps = (do let vs ← rs.toArray.mapM (resF tmps); pure (if h : vs.size = 1 then vs[0] else .tuple vs)) := by unfold results; rw [hr]; rfl
  rw [hd, List.mapM_toArray]
  simp only [Sem.run_bind, Sem.run_map, hrun, Result.andThen_ok, Sem.run_pure]
  cases vs with
  | nil => rfl
  | cons x l => cases l <;> rfl
end res

end Go.HL

namespace Go.HL
open Go

def agB (P : Program) (t : TypeId) : Option Bool := (P.underlying t).map fun | .struct _ => true | .array _ _ => true | _ => false
def szB (P : Program) (t : TypeId) : Option Nat := (P.info? t).map (·.size)
def byB (P : Program) (t : TypeId) : Option Nat := (P.info? t).map (·.bytes)
def zrB (P : Program) (t : TypeId) : Option Value := (P.info? t).bind (·.zero)
def elB (P : Program) (t : TypeId) : Option TypeId := match P.underlying t with | some (.slice e) => some e | _ => none
def arB (P : Program) (t : TypeId) : Option (Nat × TypeId) := match P.underlying t with | some (.array n e) => some (n, e) | _ => none
def mpB (P : Program) (t : TypeId) : Option (TypeId × TypeId) := match P.underlying t with | some (.map k e) => some (k, e) | _ => none
def ptB (P : Program) (t : TypeId) : Option TypeId := match P.underlying t with | some (.pointer e) => some e | _ => none
def inB (P : Program) (t : TypeId) : Option IntKind := match P.underlying t with | some (.int k) => some k | _ => none
def stB (P : Program) (t : TypeId) : Bool := match P.underlying t with | some .string => true | _ => false
def boB (P : Program) (t : TypeId) : Bool := match P.underlying t with | some .bool => true | _ => false
/-- A struct's field: its offset, its type, the number of its cells. -/
def fdB (P : Program) (t : TypeId) (f : Nat) : Option (Nat × TypeId × Nat) := match P.underlying t with
  | some (.struct fs) => (fs[f]?).bind fun x => (P.info? x.type).map fun i => (x.offset, x.type, i.size)
  | _ => none

theorem elB_iff {P : Program} {t e : TypeId} (h : elB P t = some e) : P.underlying t = some (.slice e) := by
  unfold elB at h; split at h <;> simp_all
theorem arB_iff {P : Program} {t e : TypeId} {n : Nat} (h : arB P t = some (n, e)) : P.underlying t = some (.array n e) := by
  unfold arB at h; split at h <;> simp_all
theorem mpB_iff {P : Program} {t k e : TypeId} (h : mpB P t = some (k, e)) : P.underlying t = some (.map k e) := by
  unfold mpB at h; split at h <;> simp_all
theorem ptB_iff {P : Program} {t e : TypeId} (h : ptB P t = some e) : P.underlying t = some (.pointer e) := by
  unfold ptB at h; split at h <;> simp_all
theorem inB_iff {P : Program} {t : TypeId} {k : IntKind} (h : inB P t = some k) : P.underlying t = some (.int k) := by
  unfold inB at h; split at h <;> simp_all
theorem stB_iff {P : Program} {t : TypeId} (h : stB P t = true) : P.underlying t = some .string := by
  unfold stB at h; split at h <;> simp_all
theorem boB_iff {P : Program} {t : TypeId} (h : boB P t = true) : P.underlying t = some .bool := by
  unfold boB at h; split at h <;> simp_all
theorem szB_iff {P : Program} {t : TypeId} {k : Nat} (h : szB P t = some k) : ∃ i, P.info? t = some i ∧ i.size = k := by
  unfold szB at h; cases hi : P.info? t <;> simp_all
theorem byB_iff {P : Program} {t : TypeId} {k : Nat} (h : byB P t = some k) : ∃ i, P.info? t = some i ∧ i.bytes = k := by
  unfold byB at h; cases hi : P.info? t <;> simp_all
theorem zrB_iff {P : Program} {t : TypeId} {v : Value} (h : zrB P t = some v) : ∃ i, P.info? t = some i ∧ i.zero = some v := by
  unfold zrB at h; cases hi : P.info? t <;> simp_all
theorem fdB_iff {P : Program} {t ft : TypeId} {f off k : Nat} (h : fdB P t f = some (off, ft, k)) : ∃ fs fd i, P.underlying t = some (.struct fs) ∧ fs[f]? = some fd ∧ fd.offset = off ∧ fd.type = ft ∧ P.info? ft = some i ∧ i.size = k := by
  unfold fdB at h
  split at h
  · rename_i fs hu
    cases hf : fs[f]? with
    | none => simp [hf] at h
    | some fd =>
      simp only [hf, Option.bind_some] at h
      cases hi : P.info? fd.type with
      | none => simp [hi] at h
      | some i => simp [hi] at h; obtain ⟨rfl, rfl, rfl⟩ := h; exact ⟨fs, fd, i, hu, hf, rfl, rfl, hi, rfl⟩
  · cases h

theorem run_szB {P : Program} {t : TypeId} {k : Nat} (h : szB P t = some k) (w : World) : (sizeOf t).run P w = .ok k w := by
  obtain ⟨i, hi, rfl⟩ := szB_iff h
  simp [sizeOf, typeInfo, hi]
theorem run_und {P : Program} {t : TypeId} {d : TypeDesc} (h : P.underlying t = some d) (w : World) : (underlying t).run P w = .ok d w := run_underlying h w
theorem run_zrB {P : Program} {t : TypeId} {v : Value} (h : zrB P t = some v) (w : World) : (zeroValue t).run P w = .ok v w := by
  obtain ⟨i, hi, hz⟩ := zrB_iff h
  simp [zeroValue, typeInfo, hi, hz]
theorem run_agB {P : Program} {t : TypeId} {b : Bool} (h : agB P t = some b) (w : World) : (isAgg t).run P w = .ok b w := by
  unfold agB at h
  cases hu : P.underlying t with
  | none => simp [hu] at h
  | some d =>
    simp [hu] at h
    subst h
    cases d <;> simp [isAgg, run_underlying hu]

/-! ### The heap -/

def cell (h : Heap) (b o : Nat) : Option Value := match h[b]? with | some (.cells c _ _) => c[o]? | _ => none
theorem cell?_eq (w : World) (b o : Nat) : w.cell? ⟨b, o, none⟩ = cell w.heap b o := by
  unfold World.cell? cell
  split <;> simp_all
theorem cell_of {h : Heap} {b : Nat} {cs : Array Value} {t : TypeId} {fz : Nat × Nat} (hb : h[b]? = some (.cells cs t fz)) (o : Nat) : cell h b o = cs[o]? := by simp [cell, hb]
theorem cell_lt {h : Heap} {b o : Nat} {v : Value} (hc : cell h b o = some v) : b < h.size := by
  unfold cell at hc
  split at hc
  · rename_i hb; exact (Array.getElem?_eq_some_iff.1 hb).1
  · cases hc
theorem cell_block {h h' : Heap} {b : Nat} (hb : h'[b]? = h[b]?) (o : Nat) : cell h' b o = cell h b o := by simp [cell, hb]

theorem load_one {P : Program} {h : Heap} {t : TypeId} {b o : Nat} {v : Value} (ha : agB P t = some false) (hc : cell h b o = some v) : LoadIs P h t ⟨b, o, none⟩ v := by
  intro w hw
  subst hw
  have := cell?_eq w b o
  simp [loadVar, run_agB ha, load, Sem.run, this, hc]
theorem load_agg {P : Program} {h : Heap} {t : TypeId} {b o : Nat} (vs : List Value) (ha : agB P t = some true) (hs : szB P t = some vs.length) (hc : ∀ j v, vs[j]? = some v → cell h b (o + j) = some v) :
    LoadIs P h t ⟨b, o, none⟩ (.agg vs.toArray) := by
  intro w hw
  subst hw
  have := run_loadCells_list (P := P) (w := w) ⟨b, o, none⟩ vs (fun j v hj => by rw [Addr.add_lit, cell?_eq]; exact hc j v hj)
  simp [loadVar, run_agB ha, run_szB hs, this]

/-! ### Operations that leave the heap alone -/
namespace V
variable {P : Program} {s : Slots} {h : Heap} {d : Option Tmp} {ty : TypeId} {pos : String} {af : Array Edge} {g : Option (Nat × Bool)} {x y c : Operand} {t u : TypeId}

theorem move : OpV P ⟨d, .move x, ty, pos, af, g⟩ s h (ev s x) := fun w _ => by simp [execOp]
theorem assign : OpV P ⟨d, .assign x, ty, pos, af, g⟩ s h (ev s x) := fun w _ => by simp [execOp]
section mv
variable {v : Value}
theorem mvv (hx : ev s x = v) : OpV P ⟨d, .move x, ty, pos, af, g⟩ s h v := hx ▸ move
theorem asv (hx : ev s x = v) : OpV P ⟨d, .assign x, ty, pos, af, g⟩ s h v := hx ▸ assign
theorem mvI {k : IntKind} {a : Int} (hx : ev s x = .int k a) : OpV P ⟨d, .move x, ty, pos, af, g⟩ s h (.int k a) := mvv hx
theorem mvB {b : Bool} (hx : ev s x = .bool b) : OpV P ⟨d, .move x, ty, pos, af, g⟩ s h (.bool b) := mvv hx
theorem mvS {a : Option Addr} {n m : Nat} (hx : ev s x = .slice a n m) : OpV P ⟨d, .move x, ty, pos, af, g⟩ s h (.slice a n m) := mvv hx
theorem mvP {a : Option Addr} (hx : ev s x = .pointer a) : OpV P ⟨d, .move x, ty, pos, af, g⟩ s h (.pointer a) := mvv hx
theorem mvT {b : ByteArray} (hx : ev s x = .string b) : OpV P ⟨d, .move x, ty, pos, af, g⟩ s h (.string b) := mvv hx
theorem mvM {r : Option Nat} (hx : ev s x = .map r) : OpV P ⟨d, .move x, ty, pos, af, g⟩ s h (.map r) := mvv hx
theorem mvU {cs : Array Value} (hx : ev s x = .tuple cs) : OpV P ⟨d, .move x, ty, pos, af, g⟩ s h (.tuple cs) := mvv hx
theorem mvA {cs : Array Value} (hx : ev s x = .agg cs) : OpV P ⟨d, .move x, ty, pos, af, g⟩ s h (.agg cs) := mvv hx
theorem asI {k : IntKind} {a : Int} (hx : ev s x = .int k a) : OpV P ⟨d, .assign x, ty, pos, af, g⟩ s h (.int k a) := asv hx
theorem asB {b : Bool} (hx : ev s x = .bool b) : OpV P ⟨d, .assign x, ty, pos, af, g⟩ s h (.bool b) := asv hx
theorem asS {a : Option Addr} {n m : Nat} (hx : ev s x = .slice a n m) : OpV P ⟨d, .assign x, ty, pos, af, g⟩ s h (.slice a n m) := asv hx
theorem asP {a : Option Addr} (hx : ev s x = .pointer a) : OpV P ⟨d, .assign x, ty, pos, af, g⟩ s h (.pointer a) := asv hx
theorem asT {b : ByteArray} (hx : ev s x = .string b) : OpV P ⟨d, .assign x, ty, pos, af, g⟩ s h (.string b) := asv hx
theorem asM {r : Option Nat} (hx : ev s x = .map r) : OpV P ⟨d, .assign x, ty, pos, af, g⟩ s h (.map r) := asv hx
theorem asA {cs : Array Value} (hx : ev s x = .agg cs) : OpV P ⟨d, .assign x, ty, pos, af, g⟩ s h (.agg cs) := asv hx
end mv
theorem pick_t {b : Bool} (hc : ev s c = .bool true) (hx : ev s x = .bool b) : OpV P ⟨d, .pick c x y, ty, pos, af, g⟩ s h (.bool b) := fun w _ => by simp [execOp, hc, asBool, hx]
theorem pick_f {b : Bool} (hc : ev s c = .bool false) (hy : ev s y = .bool b) : OpV P ⟨d, .pick c x y, ty, pos, af, g⟩ s h (.bool b) := fun w _ => by simp [execOp, hc, asBool, hy]

theorem eqG {op : BinOp} {k : IntKind} {k' : IntKind} {a b : Int} {w : World} : (eqGuard op t x y (.int k a) (.int k' b)).run P w = .ok () w := by
  unfold eqGuard
  cases op <;> simp

section ints
variable {k : IntKind} {a b : Int}
theorem add_w (hx : ev s x = .int k a) (hy : ev s y = .int k b) : OpV P ⟨d, .binOp .add t x y u, ty, pos, af, g⟩ s h (.int k (k.wrap (a + b))) := fun w _ => by simp [execOp, hx, hy, eqG, binOp, Op.intArith]
theorem sub_w (hx : ev s x = .int k a) (hy : ev s y = .int k b) : OpV P ⟨d, .binOp .sub t x y u, ty, pos, af, g⟩ s h (.int k (k.wrap (a - b))) := fun w _ => by simp [execOp, hx, hy, eqG, binOp, Op.intArith]
theorem mul_w (hx : ev s x = .int k a) (hy : ev s y = .int k b) : OpV P ⟨d, .binOp .mul t x y u, ty, pos, af, g⟩ s h (.int k (k.wrap (a * b))) := fun w _ => by simp [execOp, hx, hy, eqG, binOp, Op.intArith]
theorem add (hx : ev s x = .int .i64 a) (hy : ev s y = .int .i64 b) (hr : -9223372036854775808 ≤ a + b ∧ a + b ≤ 9223372036854775807) : OpV P ⟨d, .binOp .add t x y u, ty, pos, af, g⟩ s h (.int .i64 (a + b)) := by
  have := add_w (P := P) (h := h) (d := d) (ty := ty) (pos := pos) (af := af) (g := g) (t := t) (u := u) hx hy
  rwa [IntWalk.i64_in _ hr] at this
theorem sub (hx : ev s x = .int .i64 a) (hy : ev s y = .int .i64 b) (hr : -9223372036854775808 ≤ a - b ∧ a - b ≤ 9223372036854775807) : OpV P ⟨d, .binOp .sub t x y u, ty, pos, af, g⟩ s h (.int .i64 (a - b)) := by
  have := sub_w (P := P) (h := h) (d := d) (ty := ty) (pos := pos) (af := af) (g := g) (t := t) (u := u) hx hy
  rwa [IntWalk.i64_in _ hr] at this
theorem mul (hx : ev s x = .int .i64 a) (hy : ev s y = .int .i64 b) (hr : -9223372036854775808 ≤ a * b ∧ a * b ≤ 9223372036854775807) : OpV P ⟨d, .binOp .mul t x y u, ty, pos, af, g⟩ s h (.int .i64 (a * b)) := by
  have := mul_w (P := P) (h := h) (d := d) (ty := ty) (pos := pos) (af := af) (g := g) (t := t) (u := u) hx hy
  rwa [IntWalk.i64_in _ hr] at this
/-- '/' and '%' at numbers that are not below 0. -/
theorem quo (hx : ev s x = .int .i64 a) (hy : ev s y = .int .i64 b) (hr : 0 ≤ a ∧ a ≤ 9223372036854775807 ∧ 1 ≤ b) : OpV P ⟨d, .binOp .quo t x y u, ty, pos, af, g⟩ s h (.int .i64 (a / b)) := fun w _ => by
  have hb : b ≠ 0 := by omega
  simp [execOp, hx, hy, eqG, binOp, Op.intDiv, hb, IntWalk.i64_quo a b hr]
theorem rem (hx : ev s x = .int k a) (hy : ev s y = .int k b) (hr : 0 ≤ a ∧ 1 ≤ b) : OpV P ⟨d, .binOp .rem t x y u, ty, pos, af, g⟩ s h (.int k (a % b)) := fun w _ => by
  have hb : b ≠ 0 := by omega
  simp [execOp, hx, hy, eqG, binOp, Op.intDiv, hb, IntWalk.rem_in a b hr.1]

theorem lss {r : Bool} (hx : ev s x = .int k a) (hy : ev s y = .int k b) (hr : decide (a < b) = r) : OpV P ⟨d, .binOp .lss t x y u, ty, pos, af, g⟩ s h (.bool r) := fun w _ => by simp [execOp, hx, hy, eqG, binOp, Op.intCmp, ← hr]
theorem leq {r : Bool} (hx : ev s x = .int k a) (hy : ev s y = .int k b) (hr : decide (a ≤ b) = r) : OpV P ⟨d, .binOp .leq t x y u, ty, pos, af, g⟩ s h (.bool r) := fun w _ => by simp [execOp, hx, hy, eqG, binOp, Op.intCmp, ← hr]
theorem gtr {r : Bool} (hx : ev s x = .int k a) (hy : ev s y = .int k b) (hr : decide (b < a) = r) : OpV P ⟨d, .binOp .gtr t x y u, ty, pos, af, g⟩ s h (.bool r) := fun w _ => by simp [execOp, hx, hy, eqG, binOp, Op.intCmp, ← hr]
theorem geq {r : Bool} (hx : ev s x = .int k a) (hy : ev s y = .int k b) (hr : decide (b ≤ a) = r) : OpV P ⟨d, .binOp .geq t x y u, ty, pos, af, g⟩ s h (.bool r) := fun w _ => by simp [execOp, hx, hy, eqG, binOp, Op.intCmp, ← hr]
theorem eql {r : Bool} (hx : ev s x = .int k a) (hy : ev s y = .int k b) (hr : decide (a = b) = r) : OpV P ⟨d, .binOp .eql t x y u, ty, pos, af, g⟩ s h (.bool r) := fun w _ => by
  simp [execOp, hx, hy, eqG, binOp, Op.intCmp, ← hr]; rw [Bool.eq_iff_iff]; simp
theorem neq {r : Bool} (hx : ev s x = .int k a) (hy : ev s y = .int k b) (hr : decide (a ≠ b) = r) : OpV P ⟨d, .binOp .neq t x y u, ty, pos, af, g⟩ s h (.bool r) := fun w _ => by
  simp [execOp, hx, hy, eqG, binOp, Op.intCmp, ← hr]; rw [Bool.eq_iff_iff]; simp
end ints

theorem not {b : Bool} (hx : ev s x = .bool b) : OpV P ⟨d, .unOp .not t x, ty, pos, af, g⟩ s h (.bool (!b)) := fun w _ => by simp [execOp, hx, Op.unary]
theorem len {a : Option Addr} {n m : Nat} {e : TypeId} (hx : ev s x = .slice a n m) (ht : elB P t = some e) : OpV P ⟨d, .call ⟨.builtin .len, #[x], #[t]⟩, ty, pos, af, g⟩ s h (.int .i64 n) := fun w _ => by
  simp [execOp, resolve, invoke, builtin, hx, Builtin.len_, goInt, run_und (elB_iff ht)]
theorem cap {a : Option Addr} {n m : Nat} {e : TypeId} (hx : ev s x = .slice a n m) (ht : elB P t = some e) : OpV P ⟨d, .call ⟨.builtin .cap, #[x], #[t]⟩, ty, pos, af, g⟩ s h (.int .i64 m) := fun w _ => by
  simp [execOp, resolve, invoke, builtin, hx, Builtin.cap_, goInt, run_und (elB_iff ht)]
theorem nilCheck {ad : Addr} (hx : ev s x = .pointer (some ad)) : OpV P ⟨d, .nilCheck x, ty, pos, af, g⟩ s h (.pointer (some ad)) := fun w _ => by simp [execOp, hx]

theorem fieldAddr {b o off k : Nat} {ft : TypeId} {f : Nat} (hx : ev s x = .pointer (some ⟨b, o, none⟩)) (hf : fdB P t f = some (off, ft, k + 1)) : OpV P ⟨d, .fieldAddr t x f, ty, pos, af, g⟩ s h (.pointer (some ⟨b, o + off, none⟩)) := fun w _ => by
  obtain ⟨fs, fd, i, h1, h2, rfl, rfl, h3, h4⟩ := fdB_iff hf
  simp [execOp, hx, Instr.fieldAt, run_und h1, h2, Instr.sureAddr, fieldPlace, sizeOf, typeInfo, h3, h4, Addr.add_lit]

theorem indexAddr {b o n m k : Nat} {e : TypeId} {kk : IntKind} {i : Int} (hx : ev s x = .slice (some ⟨b, o, none⟩) n m) (hy : ev s y = .int kk i) (ht : elB P t = some e) (hk : szB P e = some k) (hi : 0 ≤ i ∧ i < n) :
    OpV P ⟨d, .indexAddr t x y, ty, pos, af, g⟩ s h (.pointer (some ⟨b, o + i.toNat * k, none⟩)) := fun w _ => by
  simp [execOp, hx, hy, Instr.indexAt, asIntOf, run_und (elB_iff ht), hi.1, hi.2, run_szB hk, Addr.add_lit]

theorem indexAddr1 {b o n m : Nat} {e : TypeId} {kk : IntKind} {i : Int} (hx : ev s x = .slice (some ⟨b, o, none⟩) n m) (hy : ev s y = .int kk i) (ht : elB P t = some e) (hk : szB P e = some 1) (hi : 0 ≤ i ∧ i < n) :
    OpV P ⟨d, .indexAddr t x y, ty, pos, af, g⟩ s h (.pointer (some ⟨b, o + i.toNat, none⟩)) := by
  have := indexAddr (P := P) (h := h) (d := d) (ty := ty) (pos := pos) (af := af) (g := g) hx hy ht hk hi
  rwa [Nat.mul_one] at this

theorem load {b o : Nat} {v : Value} (hx : ev s x = .pointer (some ⟨b, o, none⟩)) (hl : LoadIs P h t ⟨b, o, none⟩ v) : OpV P ⟨d, .load t x, ty, pos, af, g⟩ s h v := fun w hw => by
  simp [execOp, hx, Instr.loadAt, Instr.sureAddr, hl w hw]

theorem extract {vs : Array Value} {i : Nat} {v : Value} (hx : ev s x = .tuple vs) (hv : vs[i]? = some v) : OpV P ⟨d, .extract x i, ty, pos, af, g⟩ s h v := fun w _ => by
  simp [execOp, hx, Instr.extract, hv]
end V

/-- A call of a named function. -/
theorem OpC.func {P : Program} {s : Slots} {h : Heap} {d : Option Tmp} {ty : TypeId} {pos : String} {af : Array Edge} {g : Option (Nat × Bool)} {f : FuncId} {l : List Operand} {ts : Array TypeId} :
    OpC P ⟨d, .call ⟨.value (.func f), l.toArray, ts⟩, ty, pos, af, g⟩ s h f (l.map (ev s)).toArray := fun w _ hc => by
  obtain ⟨fn, h1, h2, h3⟩ := hc
  have h2' : ¬ fn.name = "runtime.NumGoroutine" := by simpa using h2
  have h3' : ¬ fn.body = none := by intro e; simp [e] at h3
  simp [execOp, resolve, Deferred.ofValue, invoke, callFunc, h1, h2', h3']
end Go.HL

namespace Go.HL
open Go

/-- A slice's cells: n elements of k cells each, cell by cell; nothing is said of the capacity. -/
def Row (h : Heap) (k : Nat) (a : Option Addr) (n : Nat) (xs : List Value) : Prop :=
  xs.length = n * k ∧ (0 < n → ∃ b o, a = some ⟨b, o, none⟩ ∧ ∀ i x, xs[i]? = some x → cell h b (o + i) = some x)

/-- The block that a slice lies in. -/
def blk (v : Value) (b : Nat) : Prop := ∃ o n c, v = .slice (some ⟨b, o, none⟩) n c ∧ 0 < n

def Sl (h : Heap) (k : Nat) (v : Value) (xs : List Value) : Prop := ∃ a n c, v = .slice a n c ∧ n ≤ c ∧ c ≤ 9223372036854775807 ∧ Row h k a n xs

def bv (x : UInt8) : Value := .int .u8 x.toNat
def iv (x : Int) : Value := .int .i64 x
def Bytes (h : Heap) (v : Value) (l : List UInt8) : Prop := Sl h 1 v (l.map bv)
def Ints (h : Heap) (v : Value) (l : List Int) : Prop := Sl h 1 v (l.map iv)

theorem Row.len {h : Heap} {a : Option Addr} {n : Nat} {xs : List Value} (r : Row h 1 a n xs) : xs.length = n := by simpa using r.1
theorem Row.pos {h : Heap} {k : Nat} {a : Option Addr} {n : Nat} {xs : List Value} (r : Row h k a n xs) (hn : 0 < n) : ∃ b o, a = some ⟨b, o, none⟩ ∧ ∀ i x, xs[i]? = some x → cell h b (o + i) = some x := r.2 hn

/-- Heaps that agree but for some blocks, and have no fewer. -/
structure Chg (F : Nat → Prop) (h h' : Heap) : Prop where
  size : h.size ≤ h'.size
  same : ∀ b, b < h.size → ¬ F b → h'[b]? = h[b]?

def none_ : Nat → Prop := fun _ => False
/-- Nothing that was there has turned. -/
abbrev Ext (h h' : Heap) : Prop := Chg none_ h h'

theorem Chg.refl (F : Nat → Prop) (h : Heap) : Chg F h h := ⟨Nat.le_refl _, fun _ _ _ => rfl⟩
theorem Chg.trans {F : Nat → Prop} {a b c : Heap} (x : Chg F a b) (y : Chg F b c) : Chg F a c :=
  ⟨Nat.le_trans x.size y.size, fun k hk hf => (y.same k (Nat.lt_of_lt_of_le hk x.size) hf).trans (x.same k hk hf)⟩
/-- A second step may turn, besides, whatever the first one made. -/
theorem Chg.trans' {F G : Nat → Prop} {a b c : Heap} (x : Chg F a b) (y : Chg G b c) (hg : ∀ k, k < a.size → G k → F k) : Chg F a c :=
  ⟨Nat.le_trans x.size y.size, fun k hk hf => (y.same k (Nat.lt_of_lt_of_le hk x.size) (fun g => hf (hg k hk g))).trans (x.same k hk hf)⟩
theorem Chg.mono {F G : Nat → Prop} {a b : Heap} (x : Chg F a b) (hg : ∀ k, k < a.size → F k → G k) : Chg G a b := ⟨x.size, fun k hk hf => x.same k hk (fun f => hf (hg k hk f))⟩
theorem Ext.to {F : Nat → Prop} {a b : Heap} (x : Ext a b) : Chg F a b := x.mono fun _ _ f => f.elim
theorem Ext.refl (h : Heap) : Ext h h := Chg.refl _ h
theorem Ext.push (h : Heap) (o : Obj) : Ext h (h.push o) := ⟨by simp, fun b hb _ => by rw [Array.getElem?_push, if_neg (by omega)]⟩

theorem Chg.cell {F : Nat → Prop} {h h' : Heap} (x : Chg F h h') {b o : Nat} {v : Value} (hc : cell h b o = some v) (hf : ¬ F b) : cell h' b o = some v := by
  rw [cell_block (x.same b (cell_lt hc) hf)]; exact hc

theorem Row.chg {F : Nat → Prop} {h h' : Heap} (x : Chg F h h') {k : Nat} {a : Option Addr} {n : Nat} {xs : List Value} (r : Row h k a n xs) (hf : ∀ b o, a = some ⟨b, o, none⟩ → ¬ F b) : Row h' k a n xs :=
  ⟨r.1, fun hn => by
    obtain ⟨b, o, rfl, hc⟩ := r.2 hn
    exact ⟨b, o, rfl, fun i y hy => x.cell (hc i y hy) (hf b o rfl)⟩⟩
theorem Row.ext {h h' : Heap} (x : Ext h h') {k : Nat} {a : Option Addr} {n : Nat} {xs : List Value} (r : Row h k a n xs) : Row h' k a n xs := r.chg x fun _ _ _ f => f
theorem Sl.chg {F : Nat → Prop} {h h' : Heap} (x : Chg F h h') {k : Nat} {v : Value} {xs : List Value} (r : Sl h k v xs) (hf : ∀ b, blk v b → ¬ F b) : Sl h' k v xs := by
  obtain ⟨a, n, c, rfl, hc, hm, hr⟩ := r
  refine ⟨a, n, c, rfl, hc, hm, hr.1, fun hn => ?_⟩
  obtain ⟨b, o, rfl, hcell⟩ := hr.2 hn
  exact ⟨b, o, rfl, fun i y hy => x.cell (hcell i y hy) (hf b ⟨o, n, c, rfl, hn⟩)⟩
theorem Sl.ext {h h' : Heap} (x : Ext h h') {k : Nat} {v : Value} {xs : List Value} (r : Sl h k v xs) : Sl h' k v xs := r.chg x fun _ _ f => f
theorem Bytes.ext {h h' : Heap} (x : Ext h h') {v : Value} {l : List UInt8} (r : Bytes h v l) : Bytes h' v l := Sl.ext x r
theorem Ints.ext {h h' : Heap} (x : Ext h h') {v : Value} {l : List Int} (r : Ints h v l) : Ints h' v l := Sl.ext x r
theorem Sl.nil (h : Heap) (k : Nat) : Sl h k (.slice none 0 0) [] := ⟨none, 0, 0, rfl, Nat.le_refl _, by omega, by simp, fun x => absurd x (by omega)⟩

theorem map_at {α β : Type} {f : α → β} {l : List α} {k : Nat} (h : k < l.length) : (l.map f)[k]? = some (f l[k]) := by simp [h]

theorem flat_len {α : Type} {f : α → List Value} {k : Nat} (hf : ∀ x, (f x).length = k) : ∀ (l : List α), (l.flatMap f).length = l.length * k
  | [] => by simp
  | x :: l => by simp [flat_len hf l, hf x, Nat.add_mul]; omega
theorem flat_at {α : Type} {f : α → List Value} {k : Nat} (hf : ∀ x, (f x).length = k) : ∀ (l : List α) (i j : Nat) (hi : i < l.length), j < k → (l.flatMap f)[i * k + j]? = (f l[i])[j]?
  | x :: l, 0, j, _, hj => by simp only [List.flatMap_cons, Nat.zero_mul, Nat.zero_add]; rw [List.getElem?_append_left (by rw [hf]; exact hj)]; rfl
  | x :: l, i + 1, j, hi, hj => by
    simp only [List.flatMap_cons]
    rw [List.getElem?_append_right (by rw [hf, Nat.add_mul]; omega), hf]
    have : (i + 1) * k + j - k = i * k + j := by rw [Nat.add_mul]; omega
    rw [this, flat_at hf l i j (by simpa using hi) hj]
    rfl
theorem cell_at {α : Type} {f : α → List Value} {k : Nat} (hf : ∀ x, (f x).length = k) {l : List α} {h : Heap} {b o : Nat} (hc : ∀ i x, (l.flatMap f)[i]? = some x → cell h b (o + i) = some x) {i j : Nat} {v : Value} (hi : i < l.length)
    (hv : (f l[i])[j]? = some v) : cell h b (o + i * k + j) = some v := by
  rw [Nat.add_assoc]
  refine hc _ _ ?_
  rw [flat_at hf l i j hi (by rw [← hf l[i]]; exact (List.getElem?_eq_some_iff.1 hv).1)]
  exact hv

/-- Two lists, place by place. -/
def All2 {α β : Type} (R : α → β → Prop) (l : List α) (m : List β) : Prop := l.length = m.length ∧ ∀ i (h1 : i < l.length) (h2 : i < m.length), R l[i] m[i]
theorem All2.nil {α β : Type} {R : α → β → Prop} : All2 R [] [] := ⟨rfl, fun i h => absurd h (by simp)⟩
theorem All2.mono {α β : Type} {R R' : α → β → Prop} {l : List α} {m : List β} (h : All2 R l m) (hr : ∀ a b, R a b → R' a b) : All2 R' l m := ⟨h.1, fun i h1 h2 => hr _ _ (h.2 i h1 h2)⟩
theorem All2.cons {α β : Type} {R : α → β → Prop} {a : α} {b : β} {l : List α} {m : List β} (h : R a b) (t : All2 R l m) : All2 R (a :: l) (b :: m) :=
  ⟨by simp [t.1], fun i h1 h2 => by
    cases i with
    | zero => exact h
    | succ i => exact t.2 i (by simpa using h1) (by simpa using h2)⟩
theorem All2.append {α β : Type} {R : α → β → Prop} {l l' : List α} {m m' : List β} (h : All2 R l m) (t : All2 R l' m') : All2 R (l ++ l') (m ++ m') :=
  ⟨by simp [h.1, t.1], fun i h1 h2 => by
    by_cases hi : i < l.length
    · rw [List.getElem_append_left hi, List.getElem_append_left (h.1 ▸ hi)]; exact h.2 i hi (h.1 ▸ hi)
    · have hi' : ¬ i < m.length := h.1 ▸ hi
      rw [List.getElem_append_right (by omega), List.getElem_append_right (by omega)]
      have e := h.1
      have := t.2 (i - l.length) (by simp at h1; omega) (by simp at h2; omega)
      simp only [e] at this ⊢
      exact this⟩

theorem flatten_take {l : List (List UInt8)} {k : Nat} (h : k < l.length) : (l.take (k + 1)).flatten = (l.take k).flatten ++ l[k] := by
  rw [List.take_succ_eq_append_getElem h, List.flatten_append]; simp
theorem take_next {α : Type} {l : List α} {k : Nat} (h : k < l.length) : l.take (k + 1) = l.take k ++ [l[k]] := List.take_succ_eq_append_getElem h
theorem bv_one (x : UInt8) : ∀ u ∈ [bv x], u.oneCell' = true := by
  intro u hu; simp at hu; subst hu; rfl

theorem cells0 {h : Heap} {b : Nat} {cs : List Value} {t : TypeId} {fz : Nat × Nat} (hb : h[b]? = some (.cells cs.toArray t fz)) : ∀ j v, cs[j]? = some v → cell h b (0 + j) = some v := fun j v hj => by
  rw [cell_of hb, Nat.zero_add]; simpa using hj

theorem bv_inj {x y : UInt8} (h : bv x = bv y) : x = y := by
  unfold bv at h; injection h with _ h; exact UInt8.toNat_inj.1 (by omega)
end Go.HL
