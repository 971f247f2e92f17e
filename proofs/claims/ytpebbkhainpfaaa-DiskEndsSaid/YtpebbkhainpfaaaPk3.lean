/- The rules of the logic in few words: code as a list of what is still to run. Conditions: those that each rule names. Memory as a list of separate items that may turn, and a list of items that are read alone. Conditions: those that each fact names. What values in memory read as: one relation for each type of plain data. Conditions: those that each fact names. -/
import Derived.Test.YtpebbkhainpfaaaPk2
namespace Go.HL
open Go

/-- What is still to run, one behind the other. -/
def HS (P : Program) (n : Nat) : List Code → (Exit → Slots → Heap → Prop) → Slots → Heap → Prop
  | [], Q, s, h => Q .normal s h
  | c :: k, Q, s, h => HW P n c (thn (HS P n k Q) Q) s h
section code
variable {P : Program} {n : Nat} {Q : Exit → Slots → Heap → Prop} {s : Slots} {h : Heap} {k : List Code}
theorem thn_thn {K K' : Slots → Heap → Prop} {e : Exit} {s : Slots} {h : Heap} (q : thn K (thn K' Q) e s h) : thn K Q e s h := by cases e <;> exact q
theorem HS.seq {a b : Code} (hk : HS P n (a :: b :: k) Q s h) : HS P n (.seq a b :: k) Q s h :=
  HW.seq fun _ hK => HW.mono hk fun e s h q => by cases e <;> first | exact hK _ _ q | exact q
theorem HS.skip (hk : HS P n k Q s h) : HS P n (.skip :: k) Q s h := HW.skip hk
theorem HS.end (hk : Q .normal s h) : HS P n [] Q s h := hk
theorem HS.ret (hq : Q .ret s h) : HS P n (.ret :: k) Q s h := HW.ret hq
theorem HS.exit {id : Nat} (hq : Q (.exit id) s h) : HS P n (.exit id :: k) Q s h := HW.exit hq
theorem HS.cond {c : Operand} {x y : Code} {t : Bool} (ht : t = true → HS P n (x :: k) Q s h) (hf : t = false → HS P n (y :: k) Q s h) (hc : ev s c = .bool t := by exact rfl) : HS P n (.cond c x y :: k) Q s h := HW.cond hc ht hf
theorem HS.condr {c : Operand} {x y : Code} {t : Bool} (hf : t = false → HS P n (y :: k) Q s h) (ht : t = true → HS P n (x :: k) Q s h) (hc : ev s c = .bool t := by exact rfl) : HS P n (.cond c x y :: k) Q s h := HW.cond hc ht hf
theorem HS.ct {c : Operand} {x y : Code} (ht : HS P n (x :: k) Q s h) (hc : ev s c = .bool true := by exact rfl) : HS P n (.cond c x y :: k) Q s h := HW.cond_t hc ht
theorem HS.cf {c : Operand} {x y : Code} (hf : HS P n (y :: k) Q s h) (hc : ev s c = .bool false := by exact rfl) : HS P n (.cond c x y :: k) Q s h := HW.cond_f hc hf
/-- Where ways meet: what holds there. -/
theorem HS.join {c : Code} (J : Slots → Heap → Prop) (hx : HS P n [c] (thn J Q) s h) (hy : ∀ s h, J s h → HS P n k Q s h) : HS P n (c :: k) Q s h :=
  HW.mono hx fun e s h q => by cases e <;> first | exact hy _ _ q | exact q
theorem HS.block {id : Nat} {c : Code} (hk : ∀ K : Slots → Heap → Prop, (∀ s h, HS P n k Q s h → K s h) → HS P n [c] (inBlk id (thn K Q)) s h) : HS P n (.block id c :: k) Q s h :=
  HW.block (HW.mono (hk (HS P n k Q) fun _ _ q => q) fun e s h q => by cases e <;> exact q)
theorem HS.loop {c : Code} (I : Nat → Slots → Heap → Prop) (h0 : ∃ m, I m s h)
    (round : ∀ m s h, I m s h → ∀ J : Slots → Heap → Prop, (∀ m' s' h', I m' s' h' → m' < m → J s' h') → HS P n [c] (thn J Q) s h) : HS P n (.loop c :: k) Q s h :=
  HW.loopm I h0 fun m s h hI J hJ => HW.mono (round m s h hI J hJ) fun e s h q => by cases e <;> exact q
theorem HS.frame {l : List (Nat × Value)} (hs : Has s l) (hc : ∀ τ, HS P n k Q (frm l τ) h) : HS P n k Q s h := by
  have := hc s
  rwa [frm_of hs] at this
theorem HS.r {id : Nat} {l : List Oper} (hk : HO P n l.toArray l (fun s h => HS P n k Q s h) s h) : HS P n (.region id l.toArray false :: k) Q s h := HW.region hk
theorem HS.q {id : Nat} {l : List Oper} (hk : HQ P n l.toArray l (fun s h => HS P n k Q s h) s h) (hm : P.follows .mixedOrders = true) (hB : Region.lexB .any l.toArray = true := by kernel_rfl) : HS P n (.region id l.toArray true :: k) Q s h := HW.quiet hm hB hk
theorem HS.t {id : Nat} {l : List Oper} (q : Nat) (hm : P.follows .mixedOrders = true) (hk : HT P n l.toArray (l.take q) (HO P n l.toArray (l.drop q) (fun s h => HS P n k Q s h)) s h) (hB : Region.lexTailB .any l.toArray q = true := by kernel_rfl) : HS P n (.region id l.toArray true :: k) Q s h := HW.tail q hm hB hk
theorem HS.a {id : Nat} {l : List Oper} (bar : Nat) (S : Bool → Heap → Prop) (hm : P.follows .mixedOrders = true) (hk : HA P n l.toArray bar S (fun s h => HS P n k Q s h) l.length (Array.replicate l.length false) s h) : HS P n (.region id l.toArray true :: k) Q s h := HW.any bar S hm hk
end code
theorem HC.go {P : Program} {f : FuncId} {fn : Func} {c : Code} {args : List Value} {h : Heap} {R : Value → Heap → Prop} (hf : P.funcs[f]? = some fn) (n : Nat) (hc : HS P n [c] (fin P fn R) (lst args) h) (hb : fn.body = some c := by exact rfl)
    (hname : (fn.name == "runtime.NumGoroutine") = false := by kernel_rfl) (hn : fn.ntmps = n := by exact rfl) (hsz : Nat.ble args.length n = true := by exact rfl) : HC P f args.toArray h R :=
  HC.body hf hb hname n hn hsz (HW.mono hc fun e s h q => by cases e <;> exact q)

section ops
variable {P : Program} {n : Nat} {ops : Array Oper} {l : List Oper} {o : Oper} {K : Slots → Heap → Prop} {s : Slots} {h : Heap}
theorem HO.w (d : Nat) {v : Value} (hv : OpV P o s h v) (hk : HO P n ops l K (upd s d v) h) (hw : wants ops o s = true := by exact rfl) (hd : o.dst = some d := by exact rfl) (hn : Nat.blt d n = true := by exact rfl) : HO P n ops (o :: l) K s h := HO.v hv hw d hd hn hk
theorem HO.x (d : Nat) (hk : HO P n ops l K (upd s d undef) h) (hw : wants ops o s = false := by exact rfl) (hd : o.dst = some d := by exact rfl) (hn : Nat.blt d n = true := by exact rfl) : HO P n ops (o :: l) K s h := HO.no hw d hd hn hk
theorem HQ.w (d : Nat) {v : Value} (hv : OpV P o s h v) (hk : HQ P n ops l K (upd s d v) h) (hw : wants ops o s = true := by exact rfl) (hd : o.dst = some d := by exact rfl) (hn : Nat.blt d n = true := by exact rfl) : HQ P n ops (o :: l) K s h := HQ.v hv hw d hd hn hk
theorem HQ.x (d : Nat) (hk : HQ P n ops l K (upd s d undef) h) (hw : wants ops o s = false := by exact rfl) (hd : o.dst = some d := by exact rfl) (hn : Nat.blt d n = true := by exact rfl) : HQ P n ops (o :: l) K s h := HQ.no hw d hd hn hk
theorem HT.w (d : Nat) {v : Value} (hv : OpV P o s h v) (hk : HT P n ops l K (upd s d v) h) (hw : wants ops o s = true := by exact rfl) (hd : o.dst = some d := by exact rfl) (hn : Nat.blt d n = true := by exact rfl) : HT P n ops (o :: l) K s h := HT.v hv hw d hd hn hk
theorem HT.x (d : Nat) (hk : HT P n ops l K (upd s d undef) h) (hw : wants ops o s = false := by exact rfl) (hd : o.dst = some d := by exact rfl) (hn : Nat.blt d n = true := by exact rfl) : HT P n ops (o :: l) K s h := HT.no hw d hd hn hk
/-- A call that turns nothing and answers v. -/
theorem HO.k (d : Nat) {v : Value} {f : FuncId} {args : Array Value} (hv : OpC P o s h f args) (hc : HC P f args h (fun v' h' => v' = v ∧ h' = h)) (hk : HO P n ops l K (upd s d v) h) (hw : wants ops o s = true := by exact rfl) (hd : o.dst = some d := by exact rfl) (hn : Nat.blt d n = true := by exact rfl) : HO P n ops (o :: l) K s h :=
  HO.c hv hw d hd hn hc fun _ _ ⟨e1, e2⟩ => by subst e1 e2; exact hk
theorem HQ.k (d : Nat) {v : Value} {f : FuncId} {args : Array Value} (hv : OpC P o s h f args) (hc : HC P f args h (fun v' h' => v' = v ∧ h' = h)) (hk : HQ P n ops l K (upd s d v) h) (hw : wants ops o s = true := by exact rfl) (hd : o.dst = some d := by exact rfl) (hn : Nat.blt d n = true := by exact rfl) : HQ P n ops (o :: l) K s h := HQ.c hv hw d hd hn hc hk
/-- A call. -/
theorem HO.c' (d : Nat) {f : FuncId} {args : Array Value} {R : Value → Heap → Prop} (hv : OpC P o s h f args) (hc : HC P f args h R) (hk : ∀ v h', R v h' → HO P n ops l K (upd s d v) h') (hw : wants ops o s = true := by exact rfl) (hd : o.dst = some d := by exact rfl) (hn : Nat.blt d n = true := by exact rfl) : HO P n ops (o :: l) K s h := HO.c hv hw d hd hn hc hk
/-- An operation that yields a value and a heap out of a class. -/
theorem HO.a' (d : Nat) {R : Value → Heap → Prop} (hv : OpA P o s h R) (hk : ∀ v h', R v h' → HO P n ops l K (upd s d v) h') (hw : wants ops o s = true := by exact rfl) (hd : o.dst = some d := by exact rfl) (hn : Nat.blt d n = true := by exact rfl) : HO P n ops (o :: l) K s h := HO.a hv hw d hd hn hk
theorem HO.ur' {R : Heap → Prop} (hv : OpUR P o s h R) (hk : ∀ h', R h' → HO P n ops l K s h') (hw : wants ops o s = true := by exact rfl) (hd : o.dst = none := by exact rfl) : HO P n ops (o :: l) K s h := HO.ur hv hw hd hk
end ops

section any
variable {P : Program} {n : Nat} {ops : Array Oper} {o : Oper} {bar : Nat} {S : Bool → Heap → Prop} {K : Slots → Heap → Prop} {fuel : Nat} {listed : Array Bool} {s : Slots} {h : Heap}
theorem HA.e (hk : K s h) (hr : Region.ready .any ops listed = [] := by kernel_rfl) : HA P n ops bar S K fuel listed s h := HA.done hr hk
theorem HA.g (i : Nat) (fl : Bool) (hi : ops[i]? = some o) (d : Nat) {v : Value} (hS : S fl h) (hv : ∀ h', OpV P o s h' v) (hk : HA P n ops bar S K fuel (listed.setIfInBounds i true) (upd s d v) h)
    (hs : Region.noSelect ops = true := by kernel_rfl) (hf : Region.free .any ops listed i = true := by kernel_rfl) (hr : (Region.ready .any ops listed).contains i = true := by kernel_rfl) (hib : Nat.beq i bar = false := by exact rfl)
    (hw : wants ops o s = true := by exact rfl) (hd : o.dst = some d := by exact rfl) (hn : Nat.blt d n = true := by exact rfl) (hfl : listed.getD bar false = fl := by kernel_rfl) : HA P n ops bar S K (fuel + 1) listed s h :=
  HA.p i hi hs hf hr hib hw d hd hn hfl hS hv hk
/-- .. that reads the heap, ahead of the bar. -/
theorem HA.l (i : Nat) (fl : Bool) (hi : ops[i]? = some o) (d : Nat) {v : Value} (hS : S fl h) (hv : ∀ h', S fl h' → OpV P o s h' v) (hk : HA P n ops bar S K fuel (listed.setIfInBounds i true) (upd s d v) h)
    (hs : Region.noSelect ops = true := by kernel_rfl) (hf : Region.free .any ops listed i = true := by kernel_rfl) (hr : (Region.ready .any ops listed).contains i = true := by kernel_rfl) (hib : Nat.beq i bar = false := by exact rfl)
    (hw : wants ops o s = true := by exact rfl) (hd : o.dst = some d := by exact rfl) (hn : Nat.blt d n = true := by exact rfl) (hfl : listed.getD bar false = fl := by kernel_rfl) (hwt : Region.waitsFor .any ops bar i = true := by kernel_rfl) : HA P n ops bar S K (fuel + 1) listed s h :=
  HA.v i hi hs hf hr hib hw d hd hn hfl hS hwt hv hk
theorem HA.lw (i : Nat) (fl : Bool) (hi : ops[i]? = some o) (d : Nat) {v : Value} (hS : S fl h) (hv : ∀ fl h', S fl h' → OpV P o s h' v) (hk : HA P n ops bar S K fuel (listed.setIfInBounds i true) (upd s d v) h)
    (hs : Region.noSelect ops = true := by kernel_rfl) (hf : Region.free .any ops listed i = true := by kernel_rfl) (hr : (Region.ready .any ops listed).contains i = true := by kernel_rfl) (hib : Nat.beq i bar = false := by exact rfl)
    (hw : wants ops o s = true := by exact rfl) (hd : o.dst = some d := by exact rfl) (hn : Nat.blt d n = true := by exact rfl) (hfl : listed.getD bar false = fl := by kernel_rfl) : HA P n ops bar S K (fuel + 1) listed s h :=
  HA.w i hi hs hf hr hib hw d hd hn hfl hS hv hk
theorem HA.x (i : Nat) (fl : Bool) (hi : ops[i]? = some o) (d : Nat) (hS : S fl h) (hk : HA P n ops bar S K fuel (listed.setIfInBounds i true) (upd s d undef) h)
    (hs : Region.noSelect ops = true := by kernel_rfl) (hf : Region.free .any ops listed i = true := by kernel_rfl) (hr : (Region.ready .any ops listed).contains i = true := by kernel_rfl) (hib : Nat.beq i bar = false := by exact rfl)
    (hw : wants ops o s = false := by exact rfl) (hd : o.dst = some d := by exact rfl) (hn : Nat.blt d n = true := by exact rfl) (hfl : listed.getD bar false = fl := by kernel_rfl) : HA P n ops bar S K (fuel + 1) listed s h :=
  HA.no i hi hs hf hr hib hw d hd hn hfl hS hk
theorem HA.o1 (i : Nat) (hk : Up P n ops bar S K fuel listed i s h) (hr : Region.ready .any ops listed = [i] := by kernel_rfl) : HA P n ops bar S K (fuel + 1) listed s h := HA.one i hr hk
theorem HA.o2 (i j : Nat) (hi : Up P n ops bar S K fuel listed i s h) (hj : Up P n ops bar S K fuel listed j s h) (hr : Region.ready .any ops listed = [i, j] := by kernel_rfl) : HA P n ops bar S K (fuel + 1) listed s h := HA.two i j hr hi hj
theorem HA.o3 (i j k : Nat) (hi : Up P n ops bar S K fuel listed i s h) (hj : Up P n ops bar S K fuel listed j s h) (hk : Up P n ops bar S K fuel listed k s h) (hr : Region.ready .any ops listed = [i, j, k] := by kernel_rfl) : HA P n ops bar S K (fuel + 1) listed s h := HA.three i j k hr hi hj hk
variable {i : Nat}
theorem Up.k {v : Value} {f : FuncId} {args : Array Value} (fl : Bool) (hi : ops[i]? = some o) (d : Nat) (hv : OpC P o s h f args) (hc : HC P f args h (fun v' h' => v' = v ∧ h' = h)) (hS : S fl h) (hk : HA P n ops bar S K fuel (listed.setIfInBounds i true) (upd s d v) h)
    (hw : wants ops o s = true := by exact rfl) (hd : o.dst = some d := by exact rfl) (hn : Nat.blt d n = true := by exact rfl) (hfl : (listed.setIfInBounds i true).getD bar false = fl := by kernel_rfl) : Up P n ops bar S K fuel listed i s h :=
  Up.c hi hw d hd hn hv hc hfl fun _ _ ⟨e1, e2⟩ => by subst e1 e2; exact ⟨hS, hk⟩
theorem Up.c' {f : FuncId} {args : Array Value} {R : Value → Heap → Prop} (fl : Bool) (hi : ops[i]? = some o) (d : Nat) (hv : OpC P o s h f args) (hc : HC P f args h R) (hk : ∀ v h', R v h' → S fl h' ∧ HA P n ops bar S K fuel (listed.setIfInBounds i true) (upd s d v) h')
    (hw : wants ops o s = true := by exact rfl) (hd : o.dst = some d := by exact rfl) (hn : Nat.blt d n = true := by exact rfl) (hfl : (listed.setIfInBounds i true).getD bar false = fl := by kernel_rfl) : Up P n ops bar S K fuel listed i s h := Up.c hi hw d hd hn hv hc hfl hk
theorem Up.a' {R : Value → Heap → Prop} (fl : Bool) (hi : ops[i]? = some o) (d : Nat) (hv : OpA P o s h R) (hk : ∀ v h', R v h' → S fl h' ∧ HA P n ops bar S K fuel (listed.setIfInBounds i true) (upd s d v) h')
    (hw : wants ops o s = true := by exact rfl) (hd : o.dst = some d := by exact rfl) (hn : Nat.blt d n = true := by exact rfl) (hfl : (listed.setIfInBounds i true).getD bar false = fl := by kernel_rfl) : Up P n ops bar S K fuel listed i s h := Up.a hi hw d hd hn hv hfl hk
theorem Up.ur' {R : Heap → Prop} (fl : Bool) (hi : ops[i]? = some o) (hv : OpUR P o s h R) (hk : ∀ h', R h' → S fl h' ∧ HA P n ops bar S K fuel (listed.setIfInBounds i true) s h')
    (hw : wants ops o s = true := by exact rfl) (hd : o.dst = none := by exact rfl) (hfl : (listed.setIfInBounds i true).getD bar false = fl := by kernel_rfl) : Up P n ops bar S K fuel listed i s h := Up.ur hi hw hd hv hfl hk
end any

/-! ### Operations, their operands read off the slots -/
namespace OpV
variable {P : Program} {s : Slots} {h : Heap} {d : Option Tmp} {ty : TypeId} {pos : String} {af : Array Edge} {g : Option (Nat × Bool)} {x y c : Operand} {t u : TypeId}
section
variable {k : IntKind} {a b : Int}
theorem mvI (hx : ev s x = .int k a := by exact rfl) : OpV P ⟨d, .move x, ty, pos, af, g⟩ s h (.int k a) := V.mvI hx
theorem asI (hx : ev s x = .int k a := by exact rfl) : OpV P ⟨d, .assign x, ty, pos, af, g⟩ s h (.int k a) := V.asI hx
theorem add (hx : ev s x = .int .i64 a := by exact rfl) (hy : ev s y = .int .i64 b := by exact rfl) (hr : -9223372036854775808 ≤ a + b ∧ a + b ≤ 9223372036854775807 := by omega) : OpV P ⟨d, .binOp .add t x y u, ty, pos, af, g⟩ s h (.int .i64 (a + b)) := V.add hx hy hr
theorem sub (hx : ev s x = .int .i64 a := by exact rfl) (hy : ev s y = .int .i64 b := by exact rfl) (hr : -9223372036854775808 ≤ a - b ∧ a - b ≤ 9223372036854775807 := by omega) : OpV P ⟨d, .binOp .sub t x y u, ty, pos, af, g⟩ s h (.int .i64 (a - b)) := V.sub hx hy hr
theorem mul (hx : ev s x = .int .i64 a := by exact rfl) (hy : ev s y = .int .i64 b := by exact rfl) (hr : -9223372036854775808 ≤ a * b ∧ a * b ≤ 9223372036854775807 := by omega) : OpV P ⟨d, .binOp .mul t x y u, ty, pos, af, g⟩ s h (.int .i64 (a * b)) := V.mul hx hy hr
theorem quo (hx : ev s x = .int .i64 a := by exact rfl) (hy : ev s y = .int .i64 b := by exact rfl) (hr : 0 ≤ a ∧ a ≤ 9223372036854775807 ∧ 1 ≤ b := by omega) : OpV P ⟨d, .binOp .quo t x y u, ty, pos, af, g⟩ s h (.int .i64 (a / b)) := V.quo hx hy hr
theorem rem (hx : ev s x = .int k a := by exact rfl) (hy : ev s y = .int k b := by exact rfl) (hr : 0 ≤ a ∧ 1 ≤ b := by omega) : OpV P ⟨d, .binOp .rem t x y u, ty, pos, af, g⟩ s h (.int k (a % b)) := V.rem hx hy hr
theorem addw (hx : ev s x = .int k a := by exact rfl) (hy : ev s y = .int k b := by exact rfl) : OpV P ⟨d, .binOp .add t x y u, ty, pos, af, g⟩ s h (.int k (k.wrap (a + b))) := V.add_w hx hy
theorem subw (hx : ev s x = .int k a := by exact rfl) (hy : ev s y = .int k b := by exact rfl) : OpV P ⟨d, .binOp .sub t x y u, ty, pos, af, g⟩ s h (.int k (k.wrap (a - b))) := V.sub_w hx hy
theorem mulw (hx : ev s x = .int k a := by exact rfl) (hy : ev s y = .int k b := by exact rfl) : OpV P ⟨d, .binOp .mul t x y u, ty, pos, af, g⟩ s h (.int k (k.wrap (a * b))) := V.mul_w hx hy
theorem lss (hx : ev s x = .int k a := by exact rfl) (hy : ev s y = .int k b := by exact rfl) : OpV P ⟨d, .binOp .lss t x y u, ty, pos, af, g⟩ s h (.bool (decide (a < b))) := V.lss hx hy rfl
theorem leq (hx : ev s x = .int k a := by exact rfl) (hy : ev s y = .int k b := by exact rfl) : OpV P ⟨d, .binOp .leq t x y u, ty, pos, af, g⟩ s h (.bool (decide (a ≤ b))) := V.leq hx hy rfl
theorem gtr (hx : ev s x = .int k a := by exact rfl) (hy : ev s y = .int k b := by exact rfl) : OpV P ⟨d, .binOp .gtr t x y u, ty, pos, af, g⟩ s h (.bool (decide (b < a))) := V.gtr hx hy rfl
theorem geq (hx : ev s x = .int k a := by exact rfl) (hy : ev s y = .int k b := by exact rfl) : OpV P ⟨d, .binOp .geq t x y u, ty, pos, af, g⟩ s h (.bool (decide (b ≤ a))) := V.geq hx hy rfl
theorem eql (hx : ev s x = .int k a := by exact rfl) (hy : ev s y = .int k b := by exact rfl) : OpV P ⟨d, .binOp .eql t x y u, ty, pos, af, g⟩ s h (.bool (decide (a = b))) := V.eql hx hy rfl
theorem neq (hx : ev s x = .int k a := by exact rfl) (hy : ev s y = .int k b := by exact rfl) : OpV P ⟨d, .binOp .neq t x y u, ty, pos, af, g⟩ s h (.bool (decide (a ≠ b))) := V.neq hx hy rfl
/-- Between kinds of integers: the number that comes out is told. -/
theorem cv {k' : IntKind} (b : Int) (hu : inB P u = some k') (ht : inB P t = some k) (hb : k'.wrap a = b) (hx : ev s x = .int k a := by exact rfl) : OpV P ⟨d, .convert t u x, ty, pos, af, g⟩ s h (.int k' b) := V.convE hx hu ht hb
end
theorem mvB {b : Bool} (hx : ev s x = .bool b := by exact rfl) : OpV P ⟨d, .move x, ty, pos, af, g⟩ s h (.bool b) := V.mvB hx
theorem mvS {a : Option Addr} {n m : Nat} (hx : ev s x = .slice a n m := by exact rfl) : OpV P ⟨d, .move x, ty, pos, af, g⟩ s h (.slice a n m) := V.mvS hx
theorem mvP {a : Option Addr} (hx : ev s x = .pointer a := by exact rfl) : OpV P ⟨d, .move x, ty, pos, af, g⟩ s h (.pointer a) := V.mvP hx
theorem mvT {b : ByteArray} (hx : ev s x = .string b := by exact rfl) : OpV P ⟨d, .move x, ty, pos, af, g⟩ s h (.string b) := V.mvT hx
theorem mvM {r : Option Nat} (hx : ev s x = .map r := by exact rfl) : OpV P ⟨d, .move x, ty, pos, af, g⟩ s h (.map r) := V.mvM hx
theorem mvU {cs : Array Value} (hx : ev s x = .tuple cs := by exact rfl) : OpV P ⟨d, .move x, ty, pos, af, g⟩ s h (.tuple cs) := V.mvU hx
theorem mvA {cs : Array Value} (hx : ev s x = .agg cs := by exact rfl) : OpV P ⟨d, .move x, ty, pos, af, g⟩ s h (.agg cs) := V.mvA hx
theorem mvF {a b : Array Value} {ff : _} (hx : ev s x = .func ff a b := by exact rfl) : OpV P ⟨d, .move x, ty, pos, af, g⟩ s h (.func ff a b) := V.mvv hx
theorem asB {b : Bool} (hx : ev s x = .bool b := by exact rfl) : OpV P ⟨d, .assign x, ty, pos, af, g⟩ s h (.bool b) := V.asB hx
theorem asS {a : Option Addr} {n m : Nat} (hx : ev s x = .slice a n m := by exact rfl) : OpV P ⟨d, .assign x, ty, pos, af, g⟩ s h (.slice a n m) := V.asS hx
theorem asP {a : Option Addr} (hx : ev s x = .pointer a := by exact rfl) : OpV P ⟨d, .assign x, ty, pos, af, g⟩ s h (.pointer a) := V.asP hx
theorem asT {b : ByteArray} (hx : ev s x = .string b := by exact rfl) : OpV P ⟨d, .assign x, ty, pos, af, g⟩ s h (.string b) := V.asT hx
theorem asM {r : Option Nat} (hx : ev s x = .map r := by exact rfl) : OpV P ⟨d, .assign x, ty, pos, af, g⟩ s h (.map r) := V.asM hx
theorem asA {cs : Array Value} (hx : ev s x = .agg cs := by exact rfl) : OpV P ⟨d, .assign x, ty, pos, af, g⟩ s h (.agg cs) := V.asA hx
theorem asF {a b : Array Value} {ff : _} (hx : ev s x = .func ff a b := by exact rfl) : OpV P ⟨d, .assign x, ty, pos, af, g⟩ s h (.func ff a b) := V.asv hx
theorem pkt {b : Bool} (hc : ev s c = .bool true := by exact rfl) (hx : ev s x = .bool b := by exact rfl) : OpV P ⟨d, .pick c x y, ty, pos, af, g⟩ s h (.bool b) := V.pick_t hc hx
theorem pkf {b : Bool} (hc : ev s c = .bool false := by exact rfl) (hy : ev s y = .bool b := by exact rfl) : OpV P ⟨d, .pick c x y, ty, pos, af, g⟩ s h (.bool b) := V.pick_f hc hy
theorem not {b : Bool} (hx : ev s x = .bool b := by exact rfl) : OpV P ⟨d, .unOp .not t x, ty, pos, af, g⟩ s h (.bool (!b)) := V.not hx
theorem len {a : Option Addr} {n m : Nat} {e : TypeId} (ht : elB P t = some e) (hx : ev s x = .slice a n m := by exact rfl) : OpV P ⟨d, .call ⟨.builtin .len, #[x], #[t]⟩, ty, pos, af, g⟩ s h (.int .i64 n) := V.len hx ht
theorem cap {a : Option Addr} {n m : Nat} {e : TypeId} (ht : elB P t = some e) (hx : ev s x = .slice a n m := by exact rfl) : OpV P ⟨d, .call ⟨.builtin .cap, #[x], #[t]⟩, ty, pos, af, g⟩ s h (.int .i64 m) := V.cap hx ht
theorem nil {ad : Addr} (hx : ev s x = .pointer (some ad) := by exact rfl) : OpV P ⟨d, .nilCheck x, ty, pos, af, g⟩ s h (.pointer (some ad)) := V.nilCheck hx
theorem fa {b o off k : Nat} {ft : TypeId} {f : Nat} (hf : fdB P t f = some (off, ft, k + 1)) (hx : ev s x = .pointer (some ⟨b, o, none⟩) := by exact rfl) : OpV P ⟨d, .fieldAddr t x f, ty, pos, af, g⟩ s h (.pointer (some ⟨b, o + off, none⟩)) := V.fieldAddr hx hf
theorem fd {cs : Array Value} {f off : Nat} {ft : TypeId} {v : Value} (hf : fdB P t f = some (off, ft, 1)) (ha : agB P ft = some false) (hx : ev s x = .agg cs := by exact rfl) (hv : cs[off]? = some v := by exact rfl) : OpV P ⟨d, .field t x f, ty, pos, af, g⟩ s h v := V.field1 hx hf ha hv
/-- A slice's place q. -/
theorem ix (q : Nat) {b o n m k : Nat} {e : TypeId} {kk : IntKind} {i : Int} (ht : elB P t = some e) (hk : szB P e = some k) (hx : ev s x = .slice (some ⟨b, o, none⟩) n m := by exact rfl) (hy : ev s y = .int kk i := by exact rfl) (hi : i = (q : Int) ∧ q < n := by omega) :
    OpV P ⟨d, .indexAddr t x y, ty, pos, af, g⟩ s h (.pointer (some ⟨b, o + q * k, none⟩)) := by
  have := V.indexAddr (P := P) (h := h) (d := d) (ty := ty) (pos := pos) (af := af) (g := g) hx hy ht hk (by omega)
  have e : i.toNat = q := by omega
  rwa [e] at this
theorem ix1 (q : Nat) {b o n m : Nat} {e : TypeId} {kk : IntKind} {i : Int} (ht : elB P t = some e) (hk : szB P e = some 1) (hx : ev s x = .slice (some ⟨b, o, none⟩) n m := by exact rfl) (hy : ev s y = .int kk i := by exact rfl) (hi : i = (q : Int) ∧ q < n := by omega) :
    OpV P ⟨d, .indexAddr t x y, ty, pos, af, g⟩ s h (.pointer (some ⟨b, o + q, none⟩)) := by
  have := ix (P := P) (h := h) (d := d) (ty := ty) (pos := pos) (af := af) (g := g) q ht hk hx hy hi
  rwa [Nat.mul_one] at this
theorem ixa (q : Nat) {b o n : Nat} {e : TypeId} {kk : IntKind} {i : Int} (ht : arB P t = some (n, e)) (hk : szB P e = some 1) (hx : ev s x = .pointer (some ⟨b, o, none⟩) := by exact rfl) (hy : ev s y = .int kk i := by exact rfl) (hi : i = (q : Int) ∧ q < n := by omega) :
    OpV P ⟨d, .indexAddr t x y, ty, pos, af, g⟩ s h (.pointer (some ⟨b, o + q, none⟩)) := by
  have := V.indexA (P := P) (h := h) (d := d) (ty := ty) (pos := pos) (af := af) (g := g) hx hy ht hk (by omega)
  have e : i.toNat = q := by omega
  rwa [e] at this
/-- A load of a cell. -/
theorem ld {b o : Nat} {v : Value} (ha : agB P t = some false) (hc : cell h b o = some v) (hx : ev s x = .pointer (some ⟨b, o, none⟩) := by exact rfl) : OpV P ⟨d, .load t x, ty, pos, af, g⟩ s h v := V.load hx (load_one ha hc)
/-- A load of several. -/
theorem lda {b o : Nat} (vs : List Value) (ha : agB P t = some true) (hs : szB P t = some vs.length) (hc : ∀ j v, vs[j]? = some v → cell h b (o + j) = some v) (hx : ev s x = .pointer (some ⟨b, o, none⟩) := by exact rfl) : OpV P ⟨d, .load t x, ty, pos, af, g⟩ s h (.agg vs.toArray) := V.load hx (load_agg vs ha hs hc)
theorem ex {vs : Array Value} {i : Nat} {v : Value} (hx : ev s x = .tuple vs := by exact rfl) (hv : vs[i]? = some v := by exact rfl) : OpV P ⟨d, .extract x i, ty, pos, af, g⟩ s h v := V.extract hx hv
theorem pEq {a : Option Addr} {e : TypeId} (ht : ptB P t = some e) (hx : ev s x = .pointer a := by exact rfl) (hy : ev s y = .pointer none := by exact rfl) : OpV P ⟨d, .binOp .eql t x y u, ty, pos, af, g⟩ s h (.bool a.isNone) := V.ptrEqNil hx hy ht
theorem pNe {a : Option Addr} {e : TypeId} (ht : ptB P t = some e) (hx : ev s x = .pointer a := by exact rfl) (hy : ev s y = .pointer none := by exact rfl) : OpV P ⟨d, .binOp .neq t x y u, ty, pos, af, g⟩ s h (.bool (!a.isNone)) := V.ptrNeNil hx hy ht
theorem pEqS {a : Addr} {e : TypeId} (ht : ptB P t = some e) (hx : ev s x = .pointer (some a) := by exact rfl) (hy : ev s y = .pointer none := by exact rfl) : OpV P ⟨d, .binOp .eql t x y u, ty, pos, af, g⟩ s h (.bool false) := V.ptrEqNil hx hy ht
theorem pNeS {a : Addr} {e : TypeId} (ht : ptB P t = some e) (hx : ev s x = .pointer (some a) := by exact rfl) (hy : ev s y = .pointer none := by exact rfl) : OpV P ⟨d, .binOp .neq t x y u, ty, pos, af, g⟩ s h (.bool true) := V.ptrNeNil hx hy ht
theorem pEqN {e : TypeId} (ht : ptB P t = some e) (hx : ev s x = .pointer none := by exact rfl) (hy : ev s y = .pointer none := by exact rfl) : OpV P ⟨d, .binOp .eql t x y u, ty, pos, af, g⟩ s h (.bool true) := V.ptrEqNil hx hy ht
theorem pNeN {e : TypeId} (ht : ptB P t = some e) (hx : ev s x = .pointer none := by exact rfl) (hy : ev s y = .pointer none := by exact rfl) : OpV P ⟨d, .binOp .neq t x y u, ty, pos, af, g⟩ s h (.bool false) := V.ptrNeNil hx hy ht
theorem sEq {a : Option Addr} {n m : Nat} {e : TypeId} (ht : elB P t = some e) (hx : ev s x = .slice a n m := by exact rfl) (hy : ev s y = .slice none 0 0 := by exact rfl) : OpV P ⟨d, .binOp .eql t x y u, ty, pos, af, g⟩ s h (.bool a.isNone) := V.slEqNil hx hy ht
theorem sNe {a : Option Addr} {n m : Nat} {e : TypeId} (ht : elB P t = some e) (hx : ev s x = .slice a n m := by exact rfl) (hy : ev s y = .slice none 0 0 := by exact rfl) : OpV P ⟨d, .binOp .neq t x y u, ty, pos, af, g⟩ s h (.bool (!a.isNone)) := V.slNeNil hx hy ht
theorem bEq {a b : Bool} (ht : boB P t = true) (hx : ev s x = .bool a := by exact rfl) (hy : ev s y = .bool b := by exact rfl) : OpV P ⟨d, .binOp .eql t x y u, ty, pos, af, g⟩ s h (.bool (a == b)) := V.boEql hx hy ht rfl
theorem bNe {a b : Bool} (ht : boB P t = true) (hx : ev s x = .bool a := by exact rfl) (hy : ev s y = .bool b := by exact rfl) : OpV P ⟨d, .binOp .neq t x y u, ty, pos, af, g⟩ s h (.bool (a != b)) := V.boNeq hx hy ht rfl
theorem tEq {a b : ByteArray} (hx : ev s x = .string a := by exact rfl) (hy : ev s y = .string b := by exact rfl) : OpV P ⟨d, .binOp .eql t x y u, ty, pos, af, g⟩ s h (.bool (a.toList == b.toList)) := V.stEql hx hy rfl
theorem tNe {a b : ByteArray} (hx : ev s x = .string a := by exact rfl) (hy : ev s y = .string b := by exact rfl) : OpV P ⟨d, .binOp .neq t x y u, ty, pos, af, g⟩ s h (.bool (!(a.toList == b.toList))) := V.stNeq hx hy rfl
theorem bd {l : List (Nat × Operand)} {ps : List (Nat × Nat)} {z : Value} (cs : Array Value) (hz : zrB P t = some z) (hp : V.plB P t = some ps) (hf : Instr.fill (fun i => ps[i]?) z.cells (l.map fun p => (p.1, ev s p.2)) = some cs) : OpV P ⟨d, .build t l.toArray, ty, pos, af, g⟩ s h (.agg cs) := V.build hz hp hf
section
variable {a : Option Addr} {n m k : Nat} {e : TypeId} {lo hi mx : Operand} {k1 k2 k3 : IntKind} {l r q : Int}
/-- Parts of slices: the bounds are told as numbers that are not below 0. -/
theorem slh (i j : Nat) (ht : elB P t = some e) (hk : szB P e = some k) (hx : ev s x = .slice a n m := by exact rfl) (hlo : ev s lo = .int k1 l := by exact rfl) (hhi : ev s hi = .int k2 r := by exact rfl) (hb : l = (i : Int) ∧ r = (j : Int) ∧ i ≤ j ∧ j ≤ m := by omega) :
    OpV P ⟨d, .slice t x (some lo) (some hi) none, ty, pos, af, g⟩ s h (.slice (cutA a i m k) (j - i) (m - i)) := by
  obtain ⟨rfl, rfl, h1, h2⟩ := hb; exact V.slice_lh hx hlo hhi ht hk h1 h2
theorem sll (i : Nat) (ht : elB P t = some e) (hk : szB P e = some k) (hx : ev s x = .slice a n m := by exact rfl) (hlo : ev s lo = .int k1 l := by exact rfl) (hb : l = (i : Int) ∧ i ≤ n := by omega) :
    OpV P ⟨d, .slice t x (some lo) none none, ty, pos, af, g⟩ s h (.slice (cutA a i m k) (n - i) (m - i)) := by
  obtain ⟨rfl, h1⟩ := hb; exact V.slice_l hx hlo ht hk h1
theorem sl_h (j : Nat) (ht : elB P t = some e) (hk : szB P e = some k) (hx : ev s x = .slice a n m := by exact rfl) (hhi : ev s hi = .int k2 r := by exact rfl) (hb : r = (j : Int) ∧ j ≤ m := by omega) :
    OpV P ⟨d, .slice t x none (some hi) none, ty, pos, af, g⟩ s h (.slice a j m) := by
  obtain ⟨rfl, h1⟩ := hb; exact V.slice_h hx hhi ht hk h1
theorem slhm (j c' : Nat) (ht : elB P t = some e) (hk : szB P e = some k) (hx : ev s x = .slice a n m := by exact rfl) (hhi : ev s hi = .int k2 r := by exact rfl) (hmx : ev s mx = .int k3 q := by exact rfl) (hb : r = (j : Int) ∧ q = (c' : Int) ∧ j ≤ c' ∧ c' ≤ m := by omega) :
    OpV P ⟨d, .slice t x none (some hi) (some mx), ty, pos, af, g⟩ s h (.slice a j c') := by
  obtain ⟨rfl, rfl, h1, h2⟩ := hb; exact V.slice_hm hx hhi hmx ht hk h1 h2
theorem sllhm (i j c' : Nat) (ht : elB P t = some e) (hk : szB P e = some k) (hx : ev s x = .slice a n m := by exact rfl) (hlo : ev s lo = .int k1 l := by exact rfl) (hhi : ev s hi = .int k2 r := by exact rfl) (hmx : ev s mx = .int k3 q := by exact rfl) (hb : l = (i : Int) ∧ r = (j : Int) ∧ q = (c' : Int) ∧ i ≤ j ∧ j ≤ c' ∧ c' ≤ m := by omega) :
    OpV P ⟨d, .slice t x (some lo) (some hi) (some mx), ty, pos, af, g⟩ s h (.slice (cutA a i c' k) (j - i) (c' - i)) := by
  obtain ⟨rfl, rfl, rfl, h1, h2, h3⟩ := hb; exact V.slice_lhm hx hlo hhi hmx ht hk h1 h2 h3
end
end OpV
end Go.HL
namespace Go.HL
open Go
section
variable {P : Program} {n : Nat} {Q : Exit → Slots → Heap → Prop} {s : Slots} {h : Heap} {k : List Code} {p : Prop} [Decidable p]
theorem HS.cd {c : Operand} {x y : Code} (ht : p → HS P n (x :: k) Q s h) (hf : ¬ p → HS P n (y :: k) Q s h) (hc : ev s c = .bool (decide p) := by exact rfl) : HS P n (.cond c x y :: k) Q s h := HW.cond hc (fun e => ht (of_decide_eq_true e)) (fun e => hf (of_decide_eq_false e))
theorem HS.cdr {c : Operand} {x y : Code} (hf : ¬ p → HS P n (y :: k) Q s h) (ht : p → HS P n (x :: k) Q s h) (hc : ev s c = .bool (decide p) := by exact rfl) : HS P n (.cond c x y :: k) Q s h := HS.cd ht hf hc
variable {ops : Array Oper} {l : List Oper} {K : Slots → Heap → Prop} {d : Nat} {bar : Nat} {S : Bool → Heap → Prop} {fuel : Nat} {listed : Array Bool}
theorem HO.sd (ht : p → HO P n ops l K (upd s d (.bool true)) h) (hf : ¬ p → HO P n ops l K (upd s d (.bool false)) h) : HO P n ops l K (upd s d (.bool (decide p))) h := HO.spl (fun e => ht (of_decide_eq_true e)) (fun e => hf (of_decide_eq_false e))
theorem HQ.sd (ht : p → HQ P n ops l K (upd s d (.bool true)) h) (hf : ¬ p → HQ P n ops l K (upd s d (.bool false)) h) : HQ P n ops l K (upd s d (.bool (decide p))) h := HQ.spl (fun e => ht (of_decide_eq_true e)) (fun e => hf (of_decide_eq_false e))
theorem HT.sd (ht : p → HT P n ops l K (upd s d (.bool true)) h) (hf : ¬ p → HT P n ops l K (upd s d (.bool false)) h) : HT P n ops l K (upd s d (.bool (decide p))) h := HT.spl (fun e => ht (of_decide_eq_true e)) (fun e => hf (of_decide_eq_false e))
theorem HA.sd (ht : p → HA P n ops bar S K fuel listed (upd s d (.bool true)) h) (hf : ¬ p → HA P n ops bar S K fuel listed (upd s d (.bool false)) h) : HA P n ops bar S K fuel listed (upd s d (.bool (decide p))) h := HA.spl (fun e => ht (of_decide_eq_true e)) (fun e => hf (of_decide_eq_false e))
end
namespace OpV
variable {P : Program} {s : Slots} {h : Heap} {d : Option Tmp} {ty : TypeId} {pos : String} {af : Array Edge} {g : Option (Nat × Bool)} {x y c : Operand} {t u : TypeId}
theorem notd {p : Prop} [Decidable p] (hx : ev s x = .bool (decide p) := by exact rfl) : OpV P ⟨d, .unOp .not t x, ty, pos, af, g⟩ s h (.bool (decide (¬ p))) := by
  have := V.not (P := P) (h := h) (d := d) (ty := ty) (pos := pos) (af := af) (g := g) (t := t) hx
  rwa [← decide_not] at this
/-- A whole block. -/
theorem ldb {b : Nat} {e : TypeId} {cs : List Value} (ha : agB P t = some true) (hb : h[b]? = some (.cells cs.toArray e (0, 0))) (hs : szB P t = some cs.length) (hx : ev s x = .pointer (some ⟨b, 0, none⟩) := by exact rfl) : OpV P ⟨d, .load t x, ty, pos, af, g⟩ s h (.agg cs.toArray) := V.load hx (load_agg cs ha hs (cells0 hb))
theorem ldc {b o : Nat} {vs : List Value} (ha : agB P t = some true) (hc : ∀ j v, vs[j]? = some v → cell h b (o + j) = some v) (hs : szB P t = some vs.length) (hx : ev s x = .pointer (some ⟨b, o, none⟩) := by exact rfl) : OpV P ⟨d, .load t x, ty, pos, af, g⟩ s h (.agg vs.toArray) := V.load hx (load_agg vs ha hs hc)
/-- A cell out of several that are known. -/
theorem ldk {b o j : Nat} {cs : List Value} {v : Value} (ha : agB P t = some false) (hc : ∀ j v, cs[j]? = some v → cell h b (o + j) = some v) (hx : ev s x = .pointer (some ⟨b, o + j, none⟩) := by exact rfl) (hv : cs[j]? = some v := by exact rfl) : OpV P ⟨d, .load t x, ty, pos, af, g⟩ s h v := V.load hx (load_one ha (hc j v hv))
theorem ldx {b o : Nat} {e : TypeId} {cs : List Value} {v : Value} (ha : agB P t = some false) (hb : h[b]? = some (.cells cs.toArray e (0, 0))) (hx : ev s x = .pointer (some ⟨b, o, none⟩) := by exact rfl) (hv : cs[o]? = some v := by exact rfl) : OpV P ⟨d, .load t x, ty, pos, af, g⟩ s h v :=
  V.load hx (load_one ha (by rw [cell_of hb]; simpa using hv))
end OpV
end Go.HL

namespace Go.HL
open Go

/-- Something that holds of a heap for the sake of some blocks alone. -/
structure Itm where
  p : Heap → Prop
  F : Nat → Prop
  st : ∀ (G : Nat → Prop) (h h' : Heap), Chg G h h' → (∀ j, F j → ¬ G j) → p h → p h'

/-- A block of cells that is known whole. -/
@[reducible] def boxI (b : Nat) (t : TypeId) (cs : List Value) : Itm := ⟨fun h => h[b]? = some (.cells cs.toArray t (0, 0)), fun j => j = b, fun _ _ _ c d hp => c.block hp (d b rfl)⟩
/-- A slice that may be written and appended to. -/
@[reducible] def capI (k : Nat) (e : TypeId) (x : SV) (xs : List Value) : Itm := ⟨fun h => Cap h k e (sv x) xs, blkC (sv x), fun _ _ _ c d hp => hp.chg c d⟩
/-- A slice that is read. -/
@[reducible] def rowI (k : Nat) (x : SV) (xs : List Value) : Itm := ⟨fun h => Sl h k (sv x) xs, blk (sv x), fun _ _ _ c d hp => Sl.chg c hp d⟩
/-- A map. -/
@[reducible] def mapI {κ : Type} (kv : κ → Value) (r : Nat) (l : List (κ × Value)) : Itm := ⟨fun h => MapT kv h r l, fun j => j = r, fun _ _ _ c d hp => hp.chg c (d r rfl)⟩
/-- Anything else, of a footprint. -/
@[reducible] def anyI (F : Nat → Prop) (p : Heap → Prop) (st : ∀ (G : Nat → Prop) (h h' : Heap), Chg G h h' → (∀ j, F j → ¬ G j) → p h → p h') : Itm := ⟨p, F, st⟩

/-- The items: M may turn and are apart from each other and from R. Of what was there at h0, nothing but D has turned. -/
structure Hp (h0 : Heap) (D : Nat → Prop) (M R : List Itm) (h : Heap) : Prop where
  chg : Chg D h0 h
  m : ∀ i ∈ M, i.p h ∧ ∀ j, i.F j → j < h.size ∧ (D j ∨ h0.size ≤ j)
  r : ∀ i ∈ R, i.p h ∧ ∀ j, i.F j → j < h.size
  mm : M.Pairwise fun a b => ∀ j, a.F j → ¬ b.F j
  mr : ∀ a ∈ M, ∀ b ∈ R, ∀ j, a.F j → ¬ b.F j

/-- What a call made. -/
def Nw (h h' : Heap) (j : Nat) : Prop := h.size ≤ j ∧ j < h'.size
def Old (h : Heap) (j : Nat) : Prop := j < h.size

section
variable {h0 h h' : Heap} {D G : Nat → Prop} {M R : List Itm} {a b c d e f : Itm}
theorem Hp.nil (h : Heap) (D : Nat → Prop) : Hp h D [] [] h := ⟨Chg.refl _ _, by simp, by simp, .nil, by simp⟩
/-- What was there at the start, and is read alone. -/
theorem Hp.old (ok : Hp h0 D [] R h) (it : Itm) (hp : it.p h) (hF : ∀ j, it.F j → j < h.size) : Hp h0 D [] (it :: R) h :=
  ⟨ok.chg, by simp, fun i hi => by
    rcases List.mem_cons.1 hi with rfl | hi
    · exact ⟨hp, hF⟩
    · exact ok.r i hi, .nil, by simp⟩
/-- What was there at the start, and may turn. -/
theorem Hp.obj (ok : Hp h0 D M R h) (it : Itm) (hp : it.p h) (hF : ∀ j, it.F j → j < h.size ∧ D j) (hm : ∀ b ∈ M, ∀ j, it.F j → ¬ b.F j) (hr : ∀ b ∈ R, ∀ j, it.F j → ¬ b.F j) : Hp h0 D (it :: M) R h :=
  ⟨ok.chg, fun i hi => by
    rcases List.mem_cons.1 hi with rfl | hi
    · exact ⟨hp, fun j hj => ⟨(hF j hj).1, .inl (hF j hj).2⟩⟩
    · exact ok.m i hi, ok.r, List.pairwise_cons.2 ⟨hm, ok.mm⟩, fun a ha b hb => by
    rcases List.mem_cons.1 ha with rfl | ha
    · exact hr b hb
    · exact ok.mr a ha b hb⟩
theorem Hp.ext (ok : Hp h0 D M R h) (x : Ext h h') : Hp h0 D M R h' :=
  ⟨ok.chg.trans' x (fun _ _ f => f.elim), fun i hi => ⟨i.st _ _ _ x (fun _ _ f => f) (ok.m i hi).1, fun j hj => ⟨Nat.lt_of_lt_of_le ((ok.m i hi).2 j hj).1 x.size, ((ok.m i hi).2 j hj).2⟩⟩,
    fun i hi => ⟨i.st _ _ _ x (fun _ _ f => f) (ok.r i hi).1, fun j hj => Nat.lt_of_lt_of_le ((ok.r i hi).2 j hj) x.size⟩, ok.mm, ok.mr⟩
/-- A new item that may turn; one that is read alone. -/
theorem Hp.newM (ok : Hp h0 D M R h) (x : Ext h h') (it : Itm) (hp : it.p h') (hF : ∀ j, it.F j → h.size ≤ j ∧ j < h'.size) : Hp h0 D (it :: M) R h' :=
  have o := ok.ext x
  ⟨o.chg, fun i hi => by
    rcases List.mem_cons.1 hi with rfl | hi
    · exact ⟨hp, fun j hj => ⟨(hF j hj).2, .inr (Nat.le_trans ok.chg.size (hF j hj).1)⟩⟩
    · exact o.m i hi, o.r, List.pairwise_cons.2 ⟨fun b hb j hj hb2 => by
      have := ((ok.m b hb).2 j hb2).1
      have := (hF j hj).1
      omega, o.mm⟩, fun a ha b hb j hj hb2 => by
    rcases List.mem_cons.1 ha with rfl | ha
    · have := (ok.r b hb).2 j hb2
      have := (hF j hj).1
      omega
    · exact o.mr a ha b hb j hj hb2⟩
theorem Hp.newR (ok : Hp h0 D M R h) (x : Ext h h') (it : Itm) (hp : it.p h') (hF : ∀ j, it.F j → h.size ≤ j ∧ j < h'.size) : Hp h0 D M (it :: R) h' :=
  have o := ok.ext x
  ⟨o.chg, o.m, fun i hi => by
    rcases List.mem_cons.1 hi with rfl | hi
    · exact ⟨hp, fun j hj => (hF j hj).2⟩
    · exact o.r i hi, o.mm, fun a ha b hb j hj hb2 => by
    rcases List.mem_cons.1 hb with rfl | hb
    · have := ((ok.m a ha).2 j hj).1
      have := (hF j hb2).1
      omega
    · exact o.mr a ha b hb j hj hb2⟩
/-- The first item turns. -/
theorem Hp.upd (ok : Hp h0 D (a :: M) R h) (c : Chg G h h') (hG : ∀ j, G j → a.F j) (it : Itm) (hp : it.p h') (hF : ∀ j, it.F j → a.F j ∨ (h.size ≤ j ∧ j < h'.size)) : Hp h0 D (it :: M) R h' := by
  have hmm := List.pairwise_cons.1 ok.mm
  refine ⟨ok.chg.trans' c (fun j hj g => ?_), fun i hi => ?_, fun i hi => ?_, List.pairwise_cons.2 ⟨fun b hb j hj hb2 => ?_, hmm.2⟩, fun x hx b hb j hj hb2 => ?_⟩
  · rcases ((ok.m a List.mem_cons_self).2 j (hG j g)).2 with h1 | h1
    · exact h1
    · omega
  · rcases List.mem_cons.1 hi with rfl | hi
    · refine ⟨hp, fun j hj => ?_⟩
      rcases hF j hj with h1 | h1
      · have h2 := (ok.m a List.mem_cons_self).2 j h1
        exact ⟨Nat.lt_of_lt_of_le h2.1 c.size, h2.2⟩
      · exact ⟨h1.2, .inr (Nat.le_trans ok.chg.size h1.1)⟩
    · have h1 := ok.m i (List.mem_cons_of_mem _ hi)
      exact ⟨i.st _ _ _ c (fun j hj g => hmm.1 i hi j (hG j g) hj) h1.1, fun j hj => ⟨Nat.lt_of_lt_of_le (h1.2 j hj).1 c.size, (h1.2 j hj).2⟩⟩
  · have h1 := ok.r i hi
    exact ⟨i.st _ _ _ c (fun j hj g => ok.mr a List.mem_cons_self i hi j (hG j g) hj) h1.1, fun j hj => Nat.lt_of_lt_of_le (h1.2 j hj) c.size⟩
  · rcases hF j hj with h1 | h1
    · exact hmm.1 b hb j h1 hb2
    · have := ((ok.m b (List.mem_cons_of_mem _ hb)).2 j hb2).1
      omega
  · rcases List.mem_cons.1 hx with rfl | hx
    · rcases hF j hj with h1 | h1
      · exact ok.mr a List.mem_cons_self b hb j h1 hb2
      · have := (ok.r b hb).2 j hb2
        omega
    · exact ok.mr x (List.mem_cons_of_mem _ hx) b hb j hj hb2
/-- An item that says less, of the same blocks. -/
theorem Hp.re (ok : Hp h0 D (a :: M) R h) (it : Itm) (hp : it.p h) (hF : ∀ j, it.F j → a.F j) : Hp h0 D (it :: M) R h := ok.upd (G := none_) (Chg.refl _ _) (fun _ f => f.elim) it hp (fun j hj => .inl (hF j hj))
theorem Hp.perm {M' : List Itm} (ok : Hp h0 D M R h) (p : M'.Perm M) : Hp h0 D M' R h :=
  ⟨ok.chg, fun i hi => ok.m i (p.mem_iff.1 hi), ok.r, (p.pairwise_iff (fun hxy j h1 h2 => hxy j h2 h1)).2 ok.mm, fun a ha => ok.mr a (p.mem_iff.1 ha)⟩
theorem Hp.tM (ok : Hp h0 D (a :: M) R h) : Hp h0 D M R h :=
  ⟨ok.chg, fun i hi => ok.m i (List.mem_cons_of_mem _ hi), ok.r, (List.pairwise_cons.1 ok.mm).2, fun x hx => ok.mr x (List.mem_cons_of_mem _ hx)⟩
theorem Hp.tR (ok : Hp h0 D M (a :: R) h) : Hp h0 D M R h :=
  ⟨ok.chg, ok.m, fun i hi => ok.r i (List.mem_cons_of_mem _ hi), ok.mm, fun x hx b hb => ok.mr x hx b (List.mem_cons_of_mem _ hb)⟩
theorem Hp.sub {R' : List Itm} (ok : Hp h0 D M R h) (hs : ∀ i ∈ R', i ∈ R) : Hp h0 D M R' h := ⟨ok.chg, ok.m, fun i hi => ok.r i (hs i hi), ok.mm, fun x hx b hb => ok.mr x hx b (hs b hb)⟩
/-- The first items alone. -/
theorem Hp.k0 (ok : Hp h0 D M R h) : Hp h0 D [] R h := ⟨ok.chg, by simp, ok.r, .nil, by simp⟩
theorem Hp.keep {M' : List Itm} (ok : Hp h0 D M R h) (hs : M'.Sublist M) : Hp h0 D M' R h :=
  ⟨ok.chg, fun i hi => ok.m i (hs.subset hi), ok.r, ok.mm.sublist hs, fun x hx => ok.mr x (hs.subset hx)⟩
theorem Hp.k1 (ok : Hp h0 D (a :: M) R h) : Hp h0 D [a] R h := ok.keep (.cons_cons _ (List.nil_sublist _))
theorem Hp.k2 (ok : Hp h0 D (a :: b :: M) R h) : Hp h0 D [a, b] R h := ok.keep (.cons_cons _ (.cons_cons _ (List.nil_sublist _)))
theorem Hp.k3 (ok : Hp h0 D (a :: b :: c :: M) R h) : Hp h0 D [a, b, c] R h := ok.keep (.cons_cons _ (.cons_cons _ (.cons_cons _ (List.nil_sublist _))))
theorem Hp.k4 (ok : Hp h0 D (a :: b :: c :: d :: M) R h) : Hp h0 D [a, b, c, d] R h := ok.keep (.cons_cons _ (.cons_cons _ (.cons_cons _ (.cons_cons _ (List.nil_sublist _)))))
/-- The first item turns no more. -/
theorem Hp.frz (ok : Hp h0 D (a :: M) R h) : Hp h0 D M (a :: R) h :=
  ⟨ok.chg, fun i hi => ok.m i (List.mem_cons_of_mem _ hi), fun i hi => by
    rcases List.mem_cons.1 hi with rfl | hi
    · have := ok.m i List.mem_cons_self
      exact ⟨this.1, fun j hj => (this.2 j hj).1⟩
    · exact ok.r i hi, (List.pairwise_cons.1 ok.mm).2, fun x hx b hb j hj hb2 => by
    rcases List.mem_cons.1 hb with rfl | hb
    · exact (List.pairwise_cons.1 ok.mm).1 x hx j hb2 hj
    · exact ok.mr x (List.mem_cons_of_mem _ hx) b hb j hj hb2⟩
/-- What follows from an item that is read alone. -/
theorem Hp.der (ok : Hp h0 D M R h) {r : Itm} (hr : r ∈ R) (it : Itm) (hp : it.p h) (hF : ∀ j, it.F j → r.F j) : Hp h0 D M (it :: R) h :=
  ⟨ok.chg, ok.m, fun i hi => by
    rcases List.mem_cons.1 hi with rfl | hi
    · exact ⟨hp, fun j hj => (ok.r r hr).2 j (hF j hj)⟩
    · exact ok.r i hi, ok.mm, fun x hx b hb j hj hb2 => by
    rcases List.mem_cons.1 hb with rfl | hb
    · exact ok.mr x hx r hr j hj (hF j hb2)
    · exact ok.mr x hx b hb j hj hb2⟩
/-- An item without blocks. -/
theorem Hp.dE (ok : Hp h0 D M R h) (it : Itm) (hp : it.p h) (hF : ∀ j, ¬ it.F j) : Hp h0 D M (it :: R) h :=
  ⟨ok.chg, ok.m, fun i hi => by
    rcases List.mem_cons.1 hi with rfl | hi
    · exact ⟨hp, fun j hj => absurd hj (hF j)⟩
    · exact ok.r i hi, ok.mm, fun x hx b hb j hj hb2 => by
    rcases List.mem_cons.1 hb with rfl | hb
    · exact hF j hb2
    · exact ok.mr x hx b hb j hj hb2⟩
/-- Of two items that are read alone, one. -/
theorem Hp.or (ok : Hp h0 D M R h) {r r' : Itm} (hr : r ∈ R) (hr' : r' ∈ R) (it : Itm) (hp : it.p h) (hF : ∀ j, it.F j → r.F j ∨ r'.F j) : Hp h0 D M (it :: R) h :=
  ⟨ok.chg, ok.m, fun i hi => by
    rcases List.mem_cons.1 hi with rfl | hi
    · refine ⟨hp, fun j hj => ?_⟩
      rcases hF j hj with h1 | h1
      · exact (ok.r r hr).2 j h1
      · exact (ok.r r' hr').2 j h1
    · exact ok.r i hi, ok.mm, fun x hx b hb j hj hb2 => by
    rcases List.mem_cons.1 hb with rfl | hb
    · rcases hF j hb2 with h1 | h1
      · exact ok.mr x hx r hr j hj h1
      · exact ok.mr x hx r' hr' j hj h1
    · exact ok.mr x hx b hb j hj hb2⟩
/-- A new item that may turn, out of several that did: its blocks are theirs. -/
theorem Hp.fuse (ok : Hp h0 D (a :: b :: M) R h) (it : Itm) (hp : it.p h) (hF : ∀ j, it.F j → a.F j ∨ b.F j) : Hp h0 D (it :: M) R h := by
  have h1 := List.pairwise_cons.1 ok.mm
  have h2 := List.pairwise_cons.1 h1.2
  refine ⟨ok.chg, fun i hi => ?_, ok.r, List.pairwise_cons.2 ⟨fun x hx j hj hb2 => ?_, h2.2⟩, fun x hx y hy j hj hb2 => ?_⟩
  · rcases List.mem_cons.1 hi with rfl | hi
    · refine ⟨hp, fun j hj => ?_⟩
      rcases hF j hj with h3 | h3
      · exact (ok.m a List.mem_cons_self).2 j h3
      · exact (ok.m b (List.mem_cons_of_mem _ List.mem_cons_self)).2 j h3
    · exact ok.m i (List.mem_cons_of_mem _ (List.mem_cons_of_mem _ hi))
  · rcases hF j hj with h3 | h3
    · exact h1.1 x (List.mem_cons_of_mem _ hx) j h3 hb2
    · exact h2.1 x hx j h3 hb2
  · rcases List.mem_cons.1 hx with rfl | hx
    · rcases hF j hj with h3 | h3
      · exact ok.mr a List.mem_cons_self y hy j h3 hb2
      · exact ok.mr b (List.mem_cons_of_mem _ List.mem_cons_self) y hy j h3 hb2
    · exact ok.mr x (List.mem_cons_of_mem _ (List.mem_cons_of_mem _ hx)) y hy j hj hb2

theorem Hp.m0 (ok : Hp h0 D (a :: M) R h) : a.p h := (ok.m a (by simp)).1
theorem Hp.m1 (ok : Hp h0 D (a :: b :: M) R h) : b.p h := (ok.m b (by simp)).1
theorem Hp.m2 (ok : Hp h0 D (a :: b :: c :: M) R h) : c.p h := (ok.m c (by simp)).1
theorem Hp.m3 (ok : Hp h0 D (a :: b :: c :: d :: M) R h) : d.p h := (ok.m d (by simp)).1
theorem Hp.m4 (ok : Hp h0 D (a :: b :: c :: d :: e :: M) R h) : e.p h := (ok.m e (by simp)).1
theorem Hp.m5 (ok : Hp h0 D (a :: b :: c :: d :: e :: f :: M) R h) : f.p h := (ok.m f (by simp)).1
theorem Hp.n1 (ok : Hp h0 D (a :: b :: M) R h) : Hp h0 D (b :: a :: M) R h := ok.perm (.swap _ _ _)
theorem Hp.n2 (ok : Hp h0 D (a :: b :: c :: M) R h) : Hp h0 D (c :: a :: b :: M) R h := ok.perm (.trans (.swap _ _ _) (.cons _ (.swap _ _ _)))
theorem Hp.n3 (ok : Hp h0 D (a :: b :: c :: d :: M) R h) : Hp h0 D (d :: a :: b :: c :: M) R h := ok.perm (.trans (.swap _ _ _) (.cons _ (.trans (.swap _ _ _) (.cons _ (.swap _ _ _)))))
theorem Hp.n4 (ok : Hp h0 D (a :: b :: c :: d :: e :: M) R h) : Hp h0 D (e :: a :: b :: c :: d :: M) R h := ok.perm (.trans (.swap _ _ _) (.cons _ (.trans (.swap _ _ _) (.cons _ (.trans (.swap _ _ _) (.cons _ (.swap _ _ _)))))))
theorem Hp.n5 (ok : Hp h0 D (a :: b :: c :: d :: e :: f :: M) R h) : Hp h0 D (f :: a :: b :: c :: d :: e :: M) R h := ok.perm (.trans (.swap _ _ _) (.cons _ (.trans (.swap _ _ _) (.cons _ (.trans (.swap _ _ _) (.cons _ (.trans (.swap _ _ _) (.cons _ (.swap _ _ _)))))))))
end
section
variable {h0 h : Heap} {D : Nat → Prop} {M R : List Itm} {q0 q1 q2 q3 q4 q5 q6 q7 q8 q9 : Itm}
theorem Hp.r0 (ok : Hp h0 D M (q0 :: R) h) : q0.p h := (ok.r q0 (by simp)).1
theorem Hp.r1 (ok : Hp h0 D M (q0 :: q1 :: R) h) : q1.p h := (ok.r q1 (by simp)).1
theorem Hp.r2 (ok : Hp h0 D M (q0 :: q1 :: q2 :: R) h) : q2.p h := (ok.r q2 (by simp)).1
theorem Hp.r3 (ok : Hp h0 D M (q0 :: q1 :: q2 :: q3 :: R) h) : q3.p h := (ok.r q3 (by simp)).1
theorem Hp.r4 (ok : Hp h0 D M (q0 :: q1 :: q2 :: q3 :: q4 :: R) h) : q4.p h := (ok.r q4 (by simp)).1
theorem Hp.r5 (ok : Hp h0 D M (q0 :: q1 :: q2 :: q3 :: q4 :: q5 :: R) h) : q5.p h := (ok.r q5 (by simp)).1
theorem Hp.r6 (ok : Hp h0 D M (q0 :: q1 :: q2 :: q3 :: q4 :: q5 :: q6 :: R) h) : q6.p h := (ok.r q6 (by simp)).1
theorem Hp.r7 (ok : Hp h0 D M (q0 :: q1 :: q2 :: q3 :: q4 :: q5 :: q6 :: q7 :: R) h) : q7.p h := (ok.r q7 (by simp)).1
theorem Hp.r8 (ok : Hp h0 D M (q0 :: q1 :: q2 :: q3 :: q4 :: q5 :: q6 :: q7 :: q8 :: R) h) : q8.p h := (ok.r q8 (by simp)).1
theorem Hp.r9 (ok : Hp h0 D M (q0 :: q1 :: q2 :: q3 :: q4 :: q5 :: q6 :: q7 :: q8 :: q9 :: R) h) : q9.p h := (ok.r q9 (by simp)).1
theorem Hp.l0 (ok : Hp h0 D M (q0 :: R) h) : ∀ j, q0.F j → j < h.size := (ok.r q0 (by simp)).2
theorem Hp.l1 (ok : Hp h0 D M (q0 :: q1 :: R) h) : ∀ j, q1.F j → j < h.size := (ok.r q1 (by simp)).2
theorem Hp.l2 (ok : Hp h0 D M (q0 :: q1 :: q2 :: R) h) : ∀ j, q2.F j → j < h.size := (ok.r q2 (by simp)).2
theorem Hp.l3 (ok : Hp h0 D M (q0 :: q1 :: q2 :: q3 :: R) h) : ∀ j, q3.F j → j < h.size := (ok.r q3 (by simp)).2
theorem Hp.l4 (ok : Hp h0 D M (q0 :: q1 :: q2 :: q3 :: q4 :: R) h) : ∀ j, q4.F j → j < h.size := (ok.r q4 (by simp)).2
theorem Hp.l5 (ok : Hp h0 D M (q0 :: q1 :: q2 :: q3 :: q4 :: q5 :: R) h) : ∀ j, q5.F j → j < h.size := (ok.r q5 (by simp)).2
theorem Hp.l6 (ok : Hp h0 D M (q0 :: q1 :: q2 :: q3 :: q4 :: q5 :: q6 :: R) h) : ∀ j, q6.F j → j < h.size := (ok.r q6 (by simp)).2
theorem Hp.d0 (ok : Hp h0 D M (q0 :: R) h) (it : Itm) (hp : it.p h) (hF : ∀ j, it.F j → q0.F j := by exact fun _ x => x) : Hp h0 D M (it :: q0 :: R) h := ok.der (r := q0) (by simp) it hp hF
theorem Hp.d1 (ok : Hp h0 D M (q0 :: q1 :: R) h) (it : Itm) (hp : it.p h) (hF : ∀ j, it.F j → q1.F j := by exact fun _ x => x) : Hp h0 D M (it :: q0 :: q1 :: R) h := ok.der (r := q1) (by simp) it hp hF
theorem Hp.d2 (ok : Hp h0 D M (q0 :: q1 :: q2 :: R) h) (it : Itm) (hp : it.p h) (hF : ∀ j, it.F j → q2.F j := by exact fun _ x => x) : Hp h0 D M (it :: q0 :: q1 :: q2 :: R) h := ok.der (r := q2) (by simp) it hp hF
theorem Hp.d3 (ok : Hp h0 D M (q0 :: q1 :: q2 :: q3 :: R) h) (it : Itm) (hp : it.p h) (hF : ∀ j, it.F j → q3.F j := by exact fun _ x => x) : Hp h0 D M (it :: q0 :: q1 :: q2 :: q3 :: R) h := ok.der (r := q3) (by simp) it hp hF
theorem Hp.d4 (ok : Hp h0 D M (q0 :: q1 :: q2 :: q3 :: q4 :: R) h) (it : Itm) (hp : it.p h) (hF : ∀ j, it.F j → q4.F j := by exact fun _ x => x) : Hp h0 D M (it :: q0 :: q1 :: q2 :: q3 :: q4 :: R) h := ok.der (r := q4) (by simp) it hp hF
theorem Hp.d5 (ok : Hp h0 D M (q0 :: q1 :: q2 :: q3 :: q4 :: q5 :: R) h) (it : Itm) (hp : it.p h) (hF : ∀ j, it.F j → q5.F j := by exact fun _ x => x) : Hp h0 D M (it :: q0 :: q1 :: q2 :: q3 :: q4 :: q5 :: R) h := ok.der (r := q5) (by simp) it hp hF
/-- The k-th of those that are read goes to the front. -/
theorem Hp.f1 (ok : Hp h0 D M (q0 :: q1 :: R) h) : Hp h0 D M (q1 :: q0 :: R) h := ok.sub (by simp; grind)
theorem Hp.f2 (ok : Hp h0 D M (q0 :: q1 :: q2 :: R) h) : Hp h0 D M (q2 :: q0 :: q1 :: R) h := ok.sub (by simp; grind)
theorem Hp.f3 (ok : Hp h0 D M (q0 :: q1 :: q2 :: q3 :: R) h) : Hp h0 D M (q3 :: q0 :: q1 :: q2 :: R) h := ok.sub (by simp; grind)
theorem Hp.f4 (ok : Hp h0 D M (q0 :: q1 :: q2 :: q3 :: q4 :: R) h) : Hp h0 D M (q4 :: q0 :: q1 :: q2 :: q3 :: R) h := ok.sub (by simp; grind)
theorem Hp.f5 (ok : Hp h0 D M (q0 :: q1 :: q2 :: q3 :: q4 :: q5 :: R) h) : Hp h0 D M (q5 :: q0 :: q1 :: q2 :: q3 :: q4 :: R) h := ok.sub (by simp; grind)
theorem Hp.e0 (ok : Hp h0 D M R h) : Hp h0 D M [] h := ok.sub (by simp)
theorem Hp.e1 (ok : Hp h0 D M (q0 :: R) h) : Hp h0 D M [q0] h := ok.sub (by simp)
theorem Hp.e2 (ok : Hp h0 D M (q0 :: q1 :: R) h) : Hp h0 D M [q0, q1] h := ok.sub (by simp)
theorem Hp.e3 (ok : Hp h0 D M (q0 :: q1 :: q2 :: R) h) : Hp h0 D M [q0, q1, q2] h := ok.sub (by simp)
theorem Hp.e4 (ok : Hp h0 D M (q0 :: q1 :: q2 :: q3 :: R) h) : Hp h0 D M [q0, q1, q2, q3] h := ok.sub (by simp)
end

section
variable {h0 h : Heap} {D : Nat → Prop} {M R : List Itm} {a b c d e f g i j k : Itm}
theorem Hp.k5 (ok : Hp h0 D (a :: b :: c :: d :: e :: M) R h) : Hp h0 D [a, b, c, d, e] R h := ok.keep (.cons_cons _ (.cons_cons _ (.cons_cons _ (.cons_cons _ (.cons_cons _ (List.nil_sublist _))))))
theorem Hp.k6 (ok : Hp h0 D (a :: b :: c :: d :: e :: f :: M) R h) : Hp h0 D [a, b, c, d, e, f] R h := ok.keep (.cons_cons _ (.cons_cons _ (.cons_cons _ (.cons_cons _ (.cons_cons _ (.cons_cons _ (List.nil_sublist _)))))))
theorem Hp.k7 (ok : Hp h0 D (a :: b :: c :: d :: e :: f :: g :: M) R h) : Hp h0 D [a, b, c, d, e, f, g] R h := ok.keep (.cons_cons _ (.cons_cons _ (.cons_cons _ (.cons_cons _ (.cons_cons _ (.cons_cons _ (.cons_cons _ (List.nil_sublist _))))))))
theorem Hp.k8 (ok : Hp h0 D (a :: b :: c :: d :: e :: f :: g :: i :: M) R h) : Hp h0 D [a, b, c, d, e, f, g, i] R h := ok.keep (.cons_cons _ (.cons_cons _ (.cons_cons _ (.cons_cons _ (.cons_cons _ (.cons_cons _ (.cons_cons _ (.cons_cons _ (List.nil_sublist _)))))))))
theorem Hp.k9 (ok : Hp h0 D (a :: b :: c :: d :: e :: f :: g :: i :: j :: M) R h) : Hp h0 D [a, b, c, d, e, f, g, i, j] R h := ok.keep (.cons_cons _ (.cons_cons _ (.cons_cons _ (.cons_cons _ (.cons_cons _ (.cons_cons _ (.cons_cons _ (.cons_cons _ (.cons_cons _ (List.nil_sublist _))))))))))
theorem Hp.m6 (ok : Hp h0 D (a :: b :: c :: d :: e :: f :: g :: M) R h) : g.p h := (ok.m g (by simp)).1
theorem Hp.n6 (ok : Hp h0 D (a :: b :: c :: d :: e :: f :: g :: M) R h) : Hp h0 D (g :: a :: b :: c :: d :: e :: f :: M) R h := ok.perm (by simpa using (List.perm_middle (l₁ := [a, b, c, d, e, f]) (l₂ := M) (a := g)).symm)
theorem Hp.m7 (ok : Hp h0 D (a :: b :: c :: d :: e :: f :: g :: i :: M) R h) : i.p h := (ok.m i (by simp)).1
theorem Hp.n7 (ok : Hp h0 D (a :: b :: c :: d :: e :: f :: g :: i :: M) R h) : Hp h0 D (i :: a :: b :: c :: d :: e :: f :: g :: M) R h := ok.perm (by simpa using (List.perm_middle (l₁ := [a, b, c, d, e, f, g]) (l₂ := M) (a := i)).symm)
theorem Hp.m8 (ok : Hp h0 D (a :: b :: c :: d :: e :: f :: g :: i :: j :: M) R h) : j.p h := (ok.m j (by simp)).1
theorem Hp.n8 (ok : Hp h0 D (a :: b :: c :: d :: e :: f :: g :: i :: j :: M) R h) : Hp h0 D (j :: a :: b :: c :: d :: e :: f :: g :: i :: M) R h := ok.perm (by simpa using (List.perm_middle (l₁ := [a, b, c, d, e, f, g, i]) (l₂ := M) (a := j)).symm)
theorem Hp.m9 (ok : Hp h0 D (a :: b :: c :: d :: e :: f :: g :: i :: j :: k :: M) R h) : k.p h := (ok.m k (by simp)).1
theorem Hp.n9 (ok : Hp h0 D (a :: b :: c :: d :: e :: f :: g :: i :: j :: k :: M) R h) : Hp h0 D (k :: a :: b :: c :: d :: e :: f :: g :: i :: j :: M) R h := ok.perm (by simpa using (List.perm_middle (l₁ := [a, b, c, d, e, f, g, i, j]) (l₂ := M) (a := k)).symm)
end
theorem oneL {vs : List Value} (h : vs.all (fun v => v.oneCell') = true) : ∀ v ∈ vs, v.oneCell' = true := List.all_eq_true.1 h
/-! ### Operations that make or turn an item -/
section
variable {P : Program} {s : Slots} {h0 h : Heap} {D : Nat → Prop} {M R : List Itm} {d : Option Tmp} {ty : TypeId} {pos : String} {af : Array Edge} {g : Option (Nat × Bool)} {x y c : Operand} {t u : TypeId}
/-- A value that is new in memory, as a class of heaps. -/
theorem OpE.bx {P : Program} {o : Oper} {cs : List Value} (hv : OpE P o s h (.pointer (some ⟨h.size, 0, none⟩)) (h.push (.cells cs.toArray t (0, 0)))) (ok : Hp h0 D M R h) :
    OpA P o s h (fun v h' => ∃ b, v = .pointer (some ⟨b, 0, none⟩) ∧ Hp h0 D (boxI b t cs :: M) R h' ∧ Ext h h') := fun E w at' => by
  obtain ⟨w', at2, hr⟩ := hv E w at'
  exact ⟨_, _, w', ⟨h.size, rfl, ok.newM (Ext.push _ _) _ (push_same _ _) (fun j hj => by simp at hj ⊢; omega), Ext.push _ _⟩, at2, hr⟩
theorem OpE.sx {P : Program} {o : Oper} {k nn : Nat} {cs : List Value} (hv : OpE P o s h (.slice (some ⟨h.size, 0, none⟩) nn nn) (h.push (.cells cs.toArray t (0, 0)))) (hs : cs.length = nn * k) (hn : nn ≤ 9223372036854775807) (ok : Hp h0 D M R h) :
    OpA P o s h (fun v h' => ∃ b, v = .slice (some ⟨b, 0, none⟩) nn nn ∧ Hp h0 D (capI k t (some ⟨b, 0, none⟩, nn, nn) cs :: M) R h' ∧ Ext h h') := fun E w at' => by
  obtain ⟨w', at2, hr⟩ := hv E w at'
  refine ⟨_, _, w', ⟨h.size, rfl, ok.newM (Ext.push _ _) _ ?_ (fun j hj => ?_), Ext.push _ _⟩, at2, hr⟩
  · have := Cap.new (k := k) (e := t) (n := nn) (cs := cs.toArray) (push_same h _) (by simpa using hs) hn
    simpa using this
  · obtain ⟨o, n, c, hv⟩ := hj
    injection hv with h1; injection h1 with h1; injection h1 with h1
    simp; omega
theorem OpA.mk {o : Oper} {Q Q' : Value → Heap → Prop} (hv : OpA P o s h Q) (hq : ∀ v h', Q v h' → Q' v h') : OpA P o s h Q' := fun E w at' =>
  let ⟨v, h', w', q, a, r⟩ := hv E w at'; ⟨v, h', w', hq v h' q, a, r⟩
theorem OpUR.mk {o : Oper} {Q Q' : Heap → Prop} (hv : OpUR P o s h Q) (hq : ∀ h', Q h' → Q' h') : OpUR P o s h Q' := fun E w at' =>
  let ⟨h', w', q, a, r⟩ := hv E w at'; ⟨h', w', hq h' q, a, r⟩
abbrev Bx (h h0 : Heap) (D : Nat → Prop) (t : TypeId) (cs : List Value) (M R : List Itm) (v : Value) (h' : Heap) : Prop := ∃ b, v = .pointer (some ⟨b, 0, none⟩) ∧ Hp h0 D (boxI b t cs :: M) R h' ∧ Ext h h'
theorem allSz_len {k : Nat} : ∀ {xs : List Operand}, V.AllSz s k xs → (xs.flatMap fun x => (ev s x).cells.toList).length = xs.length * k
  | [], _ => by simp
  | x :: xs, h => by
    have h1 := h.1
    have h2 := allSz_len h.2
    simp only [List.flatMap_cons, List.length_append, List.length_cons, Nat.add_mul, Array.length_toList, h1, h2]
    omega
namespace OpA
theorem bxI {k : IntKind} {a : Int} (ok : Hp h0 D M R h) (hx : ev s x = .int k a := by exact rfl) : OpA P ⟨d, .box t x, ty, pos, af, g⟩ s h (Bx h h0 D t [.int k a] M R) := OpE.bx (V.boxI hx) ok
theorem bxB {a : Bool} (ok : Hp h0 D M R h) (hx : ev s x = .bool a := by exact rfl) : OpA P ⟨d, .box t x, ty, pos, af, g⟩ s h (Bx h h0 D t [.bool a] M R) := OpE.bx (V.boxB hx) ok
theorem bxS {a : Option Addr} {n m : Nat} (ok : Hp h0 D M R h) (hx : ev s x = .slice a n m := by exact rfl) : OpA P ⟨d, .box t x, ty, pos, af, g⟩ s h (Bx h h0 D t [.slice a n m] M R) := OpE.bx (V.boxS hx) ok
theorem bxP {a : Option Addr} (ok : Hp h0 D M R h) (hx : ev s x = .pointer a := by exact rfl) : OpA P ⟨d, .box t x, ty, pos, af, g⟩ s h (Bx h h0 D t [.pointer a] M R) := OpE.bx (V.boxP hx) ok
theorem bxT {a : ByteArray} (ok : Hp h0 D M R h) (hx : ev s x = .string a := by exact rfl) : OpA P ⟨d, .box t x, ty, pos, af, g⟩ s h (Bx h h0 D t [.string a] M R) := OpE.bx (V.boxT hx) ok
theorem bxM {a : Option Nat} (ok : Hp h0 D M R h) (hx : ev s x = .map a := by exact rfl) : OpA P ⟨d, .box t x, ty, pos, af, g⟩ s h (Bx h h0 D t [.map a] M R) := OpE.bx (V.box hx rfl) ok
theorem bxA {cs : List Value} (ok : Hp h0 D M R h) (hx : ev s x = .agg cs.toArray := by exact rfl) : OpA P ⟨d, .box t x, ty, pos, af, g⟩ s h (Bx h h0 D t cs M R) := OpE.bx (V.boxA hx) ok
theorem alA {cs : List Value} (hz : zrB P t = some (.agg cs.toArray)) (ok : Hp h0 D M R h) : OpA P ⟨d, .alloc t, ty, pos, af, g⟩ s h (Bx h h0 D t cs M R) := OpE.bx (V.alloc hz rfl) ok
theorem alI {k : IntKind} {a : Int} (hz : zrB P t = some (.int k a)) (ok : Hp h0 D M R h) : OpA P ⟨d, .alloc t, ty, pos, af, g⟩ s h (Bx h h0 D t [.int k a] M R) := OpE.bx (V.alloc hz rfl) ok
theorem alB {a : Bool} (hz : zrB P t = some (.bool a)) (ok : Hp h0 D M R h) : OpA P ⟨d, .alloc t, ty, pos, af, g⟩ s h (Bx h h0 D t [.bool a] M R) := OpE.bx (V.alloc hz rfl) ok
theorem alS {a : Option Addr} {n m : Nat} (hz : zrB P t = some (.slice a n m)) (ok : Hp h0 D M R h) : OpA P ⟨d, .alloc t, ty, pos, af, g⟩ s h (Bx h h0 D t [.slice a n m] M R) := OpE.bx (V.alloc hz rfl) ok
theorem alP {a : Option Addr} (hz : zrB P t = some (.pointer a)) (ok : Hp h0 D M R h) : OpA P ⟨d, .alloc t, ty, pos, af, g⟩ s h (Bx h h0 D t [.pointer a] M R) := OpE.bx (V.alloc hz rfl) ok
theorem alT {a : ByteArray} (hz : zrB P t = some (.string a)) (ok : Hp h0 D M R h) : OpA P ⟨d, .alloc t, ty, pos, af, g⟩ s h (Bx h h0 D t [.string a] M R) := OpE.bx (V.alloc hz rfl) ok
theorem alM {a : Option Nat} (hz : zrB P t = some (.map a)) (ok : Hp h0 D M R h) : OpA P ⟨d, .alloc t, ty, pos, af, g⟩ s h (Bx h h0 D t [.map a] M R) := OpE.bx (V.alloc hz rfl) ok
/-- A slice literal. -/
theorem lit (xs : List Operand) {n k : Nat} {e : TypeId} {z : Value} {l : List (Nat × Operand)} {cs : List Value} (ht : elB P t = some e) (hk : szB P e = some k) (hz : zrB P e = some z) (ok : Hp h0 D M R h) (hx : V.AllSz s k xs) (hcs : (xs.flatMap fun x => (ev s x).cells.toList) = cs := by exact rfl)
    (hl : l = V.idx 0 xs := by exact rfl) (hn : n = xs.length := by exact rfl) (hnk : Nat.ble (n * k) 16777216 = true := by exact rfl) (hn2 : Nat.ble n 16777216 = true := by exact rfl) :
    OpA P ⟨d, .buildSlice t n l.toArray, ty, pos, af, g⟩ s h (fun v h' => ∃ b, v = .slice (some ⟨b, 0, none⟩) n n ∧ Hp h0 D (capI k e (some ⟨b, 0, none⟩, n, n) cs :: M) R h' ∧ Ext h h') := by
  subst hl hn
  refine OpE.sx (V.buildSlice xs ht hk hz rfl rfl hnk hx (by simpa using hcs)) ?_ ?_ ok
  · subst hcs; exact allSz_len hx
  · exact Nat.le_trans (Nat.le_of_ble_eq_true hn2) (by omega)
theorem app {e : TypeId} {k bytes : Nat} {z : Value} {a : Option Addr} {n m : Nat} {nv : Value} {xs news : List Value} (ht : elB P t = some e) (hk : szB P e = some (k + 1)) (hby : byB P e = some (bytes + 1)) (hz : zrB P e = some z) (ok : Hp h0 D (capI (k + 1) e (a, n, m) xs :: M) R h)
    (hn : Sl h (k + 1) nv news) (h1 : ∀ u ∈ news, u.oneCell' = true) (hfit : (xs.length + news.length) * (bytes + 1) ≤ 140737488355328) (hx : ev s x = .slice a n m := by exact rfl) (hy : ev s y = nv := by exact rfl) (hzk : z.cells.size = k + 1 := by exact rfl) :
    OpA P ⟨d, .call ⟨.builtin .append, #[x, y], #[t, t]⟩, ty, pos, af, g⟩ s h (fun v' h' => ∃ a' n' m', v' = .slice a' n' m' ∧ Hp h0 D (capI (k + 1) e (a', n', m') (xs ++ news) :: M) R h' ∧ Appended h (k + 1) e (.slice a n m) (xs ++ news) (.slice a' n' m') h') :=
  OpA.mk (V.append hx hy ht hk hby hz hzk ok.m0 hn h1 hfit) fun v' h' q => by
    obtain ⟨a', n', m', rfl, _⟩ := id q.cap
    exact ⟨a', n', m', rfl, ok.upd q.chg (fun _ x => x) _ q.cap fun j hj => (q.place j hj).imp id fun h => ⟨h, q.cap.lt hj⟩, q⟩
end OpA
namespace OpUR
section
variable {b o : Nat} {e : TypeId} {cs : List Value}
theorem st {v : Value} (ht : szB P t = some 1) (ok : Hp h0 D (boxI b e cs :: M) R h) (hx : ev s x = .pointer (some ⟨b, o, none⟩)) (hy : ev s y = v) (h1 : v.oneCell' = true) (ho : Nat.blt o cs.length = true) :
    OpUR P ⟨d, .store t x y, ty, pos, af, g⟩ s h (fun h' => Hp h0 D (boxI b e (cs.set o v) :: M) R h' ∧ Chg (fun x => x = b) h h') := fun E w at' => by
  have ho' : o < cs.length := by simpa [Nat.blt_eq] using ho
  obtain ⟨w', at2, hr⟩ := V.store (P := P) (s := s) (d := d) (ty := ty) (pos := pos) (af := af) (g := g) hx hy ht h1 ok.m0 (by simpa using ho') (by simp) rfl E w at'
  refine ⟨_, w', ⟨?_, hput_chg _ _ _⟩, at2, hr⟩
  refine ok.upd (hput_chg _ _ _) (fun _ x => x) _ ?_ (fun _ x => .inl x)
  have := hput_same (cs' := cs.toArray.setIfInBounds o v) ok.m0
  simpa using this
theorem stI {k : IntKind} {a : Int} (ht : szB P t = some 1) (ok : Hp h0 D (boxI b e cs :: M) R h) (hx : ev s x = .pointer (some ⟨b, o, none⟩) := by exact rfl) (hy : ev s y = .int k a := by exact rfl) (ho : Nat.blt o cs.length = true := by exact rfl) :
    OpUR P ⟨d, .store t x y, ty, pos, af, g⟩ s h (fun h' => Hp h0 D (boxI b e (cs.set o (.int k a)) :: M) R h' ∧ Chg (fun x => x = b) h h') := st ht ok hx hy rfl ho
theorem stB {a : Bool} (ht : szB P t = some 1) (ok : Hp h0 D (boxI b e cs :: M) R h) (hx : ev s x = .pointer (some ⟨b, o, none⟩) := by exact rfl) (hy : ev s y = .bool a := by exact rfl) (ho : Nat.blt o cs.length = true := by exact rfl) :
    OpUR P ⟨d, .store t x y, ty, pos, af, g⟩ s h (fun h' => Hp h0 D (boxI b e (cs.set o (.bool a)) :: M) R h' ∧ Chg (fun x => x = b) h h') := st ht ok hx hy rfl ho
theorem stS {a : Option Addr} {n m : Nat} (ht : szB P t = some 1) (ok : Hp h0 D (boxI b e cs :: M) R h) (hx : ev s x = .pointer (some ⟨b, o, none⟩) := by exact rfl) (hy : ev s y = .slice a n m := by exact rfl) (ho : Nat.blt o cs.length = true := by exact rfl) :
    OpUR P ⟨d, .store t x y, ty, pos, af, g⟩ s h (fun h' => Hp h0 D (boxI b e (cs.set o (.slice a n m)) :: M) R h' ∧ Chg (fun x => x = b) h h') := st ht ok hx hy rfl ho
theorem stP {a : Option Addr} (ht : szB P t = some 1) (ok : Hp h0 D (boxI b e cs :: M) R h) (hx : ev s x = .pointer (some ⟨b, o, none⟩) := by exact rfl) (hy : ev s y = .pointer a := by exact rfl) (ho : Nat.blt o cs.length = true := by exact rfl) :
    OpUR P ⟨d, .store t x y, ty, pos, af, g⟩ s h (fun h' => Hp h0 D (boxI b e (cs.set o (.pointer a)) :: M) R h' ∧ Chg (fun x => x = b) h h') := st ht ok hx hy rfl ho
theorem stT {a : ByteArray} (ht : szB P t = some 1) (ok : Hp h0 D (boxI b e cs :: M) R h) (hx : ev s x = .pointer (some ⟨b, o, none⟩) := by exact rfl) (hy : ev s y = .string a := by exact rfl) (ho : Nat.blt o cs.length = true := by exact rfl) :
    OpUR P ⟨d, .store t x y, ty, pos, af, g⟩ s h (fun h' => Hp h0 D (boxI b e (cs.set o (.string a)) :: M) R h' ∧ Chg (fun x => x = b) h h') := st ht ok hx hy rfl ho
theorem stM {a : Option Nat} (ht : szB P t = some 1) (ok : Hp h0 D (boxI b e cs :: M) R h) (hx : ev s x = .pointer (some ⟨b, o, none⟩) := by exact rfl) (hy : ev s y = .map a := by exact rfl) (ho : Nat.blt o cs.length = true := by exact rfl) :
    OpUR P ⟨d, .store t x y, ty, pos, af, g⟩ s h (fun h' => Hp h0 D (boxI b e (cs.set o (.map a)) :: M) R h' ∧ Chg (fun x => x = b) h h') := st ht ok hx hy rfl ho
/-- A struct or an array over a part of a block. -/
theorem stA {vs : List Value} (ht : szB P t = some vs.length) (ok : Hp h0 D (boxI b e cs :: M) R h) (h1 : ∀ v ∈ vs, v.oneCell' = true) (hx : ev s x = .pointer (some ⟨b, o, none⟩) := by exact rfl) (hy : ev s y = .agg vs.toArray := by exact rfl) (ho : Nat.ble (o + vs.length) cs.length = true := by exact rfl) :
    OpUR P ⟨d, .store t x y, ty, pos, af, g⟩ s h (fun h' => Hp h0 D (boxI b e (spl cs o vs) :: M) R h' ∧ Chg (fun x => x = b) h h') := fun E w at' => by
  have ho' := Nat.le_of_ble_eq_true ho
  obtain ⟨w', at2, hr⟩ := V.storeA (P := P) (s := s) (d := d) (ty := ty) (pos := pos) (af := af) (g := g) hx hy ht h1 ok.m0 (by simpa using ho') (fzOk_zero _) rfl E w at'
  refine ⟨_, w', ⟨?_, hput_chg _ _ _⟩, at2, hr⟩
  exact ok.upd (hput_chg _ _ _) (fun _ x => x) _ (by simpa using hput_same (cs' := (spl cs o vs).toArray) ok.m0) (fun _ x => .inl x)
/-- Over a whole block. -/
theorem stW {vs : List Value} (ht : szB P t = some vs.length) (ok : Hp h0 D (boxI b e cs :: M) R h) (h1 : ∀ v ∈ vs, v.oneCell' = true) (hl : cs.length = vs.length := by exact rfl) (hx : ev s x = .pointer (some ⟨b, 0, none⟩) := by exact rfl) (hy : ev s y = .agg vs.toArray := by exact rfl) :
    OpUR P ⟨d, .store t x y, ty, pos, af, g⟩ s h (fun h' => Hp h0 D (boxI b e vs :: M) R h' ∧ Chg (fun x => x = b) h h') :=
  OpUR.mk (stA (o := 0) ht ok h1 hx hy (by rw [hl, Nat.zero_add]; exact Nat.ble_self_eq_true _)) fun h' q => by
    have e : spl cs 0 vs = vs := by unfold spl; simp [hl]
    rw [e] at q; exact q
end
/-- A cell of a slice. -/
theorem sx {b o n c k q : Nat} {e : TypeId} {xs : List Value} {v : Value} (ht : szB P t = some 1) (ok : Hp h0 D (capI k e (some ⟨b, o, none⟩, n, c) xs :: M) R h) (hq : q < n * k) (hx : ev s x = .pointer (some ⟨b, o + q, none⟩)) (hy : ev s y = v) (h1 : v.oneCell' = true) :
    OpUR P ⟨d, .store t x y, ty, pos, af, g⟩ s h (fun h' => Hp h0 D (capI k e (some ⟨b, o, none⟩, n, c) (xs.set q v) :: M) R h' ∧ Chg (fun x => x = b) h h') :=
  OpUR.mk (V.storeC hx hy ht h1 ok.m0 hq) fun h' r => ⟨ok.upd r.chg (fun j e => by subst e; exact ⟨o, n, c, rfl⟩) _ r.cap (fun _ x => .inl x), r.chg⟩
section
variable {b o n c k q : Nat} {e : TypeId} {xs : List Value}
theorem sxI {kk : IntKind} {a : Int} (ht : szB P t = some 1) (ok : Hp h0 D (capI k e (some ⟨b, o, none⟩, n, c) xs :: M) R h) (hx : ev s x = .pointer (some ⟨b, o + q, none⟩) := by exact rfl) (hy : ev s y = .int kk a := by exact rfl) (hq : q < n * k := by omega) :
    OpUR P ⟨d, .store t x y, ty, pos, af, g⟩ s h (fun h' => Hp h0 D (capI k e (some ⟨b, o, none⟩, n, c) (xs.set q (.int kk a)) :: M) R h' ∧ Chg (fun x => x = b) h h') := sx ht ok hq hx hy rfl
theorem sxB {a : Bool} (ht : szB P t = some 1) (ok : Hp h0 D (capI k e (some ⟨b, o, none⟩, n, c) xs :: M) R h) (hx : ev s x = .pointer (some ⟨b, o + q, none⟩) := by exact rfl) (hy : ev s y = .bool a := by exact rfl) (hq : q < n * k := by omega) :
    OpUR P ⟨d, .store t x y, ty, pos, af, g⟩ s h (fun h' => Hp h0 D (capI k e (some ⟨b, o, none⟩, n, c) (xs.set q (.bool a)) :: M) R h' ∧ Chg (fun x => x = b) h h') := sx ht ok hq hx hy rfl
theorem sxS {a : Option Addr} {n' m : Nat} (ht : szB P t = some 1) (ok : Hp h0 D (capI k e (some ⟨b, o, none⟩, n, c) xs :: M) R h) (hx : ev s x = .pointer (some ⟨b, o + q, none⟩) := by exact rfl) (hy : ev s y = .slice a n' m := by exact rfl) (hq : q < n * k := by omega) :
    OpUR P ⟨d, .store t x y, ty, pos, af, g⟩ s h (fun h' => Hp h0 D (capI k e (some ⟨b, o, none⟩, n, c) (xs.set q (.slice a n' m)) :: M) R h' ∧ Chg (fun x => x = b) h h') := sx ht ok hq hx hy rfl
end
/-- A cell of an array. -/
theorem sa {α : Type} {f : α → Value} {b q : Nat} {e : TypeId} {l : List α} {v : Value} (a : α) (ht : szB P t = some 1) (ok : Hp h0 D (boxI b e (l.map f) :: M) R h) (hq : q < l.length) (h1 : (f a).oneCell' = true := by exact rfl) (hx : ev s x = .pointer (some ⟨b, 0 + q, none⟩) := by exact rfl) (hy : ev s y = v := by exact rfl) (hv : v = f a := by exact rfl) :
    OpUR P ⟨d, .store t x y, ty, pos, af, g⟩ s h (fun h' => Hp h0 D (boxI b e ((l.set q a).map f) :: M) R h' ∧ Chg (fun x => x = b) h h') :=
  OpUR.mk (st (o := 0 + q) ht ok hx hy (by rw [hv]; exact h1) (by simp [Nat.blt_eq]; exact hq)) fun h' r => by
    have e : (l.map f).set (0 + q) v = (l.set q a).map f := by rw [hv, Nat.zero_add, List.map_set]
    rw [e] at r; exact r
end OpUR
end
/-- What is known of a block's cell; of several. -/
theorem at_box {h : Heap} {b o : Nat} {t : TypeId} {cs : List Value} {v : Value} (hb : h[b]? = some (.cells cs.toArray t (0, 0))) (hv : cs[o]? = some v := by exact rfl) : cell h b o = some v := by
  rw [cell_of hb]; simpa using hv
theorem at_boxa {h : Heap} {b : Nat} {t : TypeId} {cs : List Value} (hb : h[b]? = some (.cells cs.toArray t (0, 0))) : ∀ j v, cs[j]? = some v → cell h b (0 + j) = some v := cells0 hb
theorem at_part {h : Heap} {b o n : Nat} {t : TypeId} {cs : List Value} (hb : h[b]? = some (.cells cs.toArray t (0, 0))) : ∀ j v, ((cs.drop o).take n)[j]? = some v → cell h b (o + j) = some v := fun j v hv => by
  rw [List.getElem?_take] at hv
  split at hv
  · rw [List.getElem?_drop] at hv
    rw [cell_of hb]; simpa using hv
  · cases hv
end Go.HL

namespace Go.HL
open Go

/-- Data of k cells: what the cells read as in a heap, for the sake of the blocks F alone. -/
class Rep (α : Type) where
  k : Nat
  rd : Heap → (Nat → Prop) → List Value → α → Prop
  kpos : 0 < k
  len : ∀ {h F cs a}, rd h F cs a → cs.length = k
  one : ∀ {h F cs a}, rd h F cs a → ∀ u ∈ cs, u.oneCell' = true
  st : ∀ {G h h' F cs a}, Chg G h h' → (∀ j, F j → ¬ G j) → rd h F cs a → rd h' F cs a
  mono : ∀ {h} {F F' : Nat → Prop} {cs a}, (∀ j, F j → F' j) → rd h F cs a → rd h F' cs a
  lt : ∀ {h F cs a}, rd h F cs a → rd h (fun j => F j ∧ j < h.size) cs a
/-- One cell that hangs on no block. -/
@[reducible] def Rep.flat {α : Type} (f : α → Value) (h1 : ∀ a, (f a).oneCell' = true) : Rep α where
  k := 1
  rd _ _ cs a := cs = [f a]
  kpos := by omega
  len := fun h => by rw [h]; rfl
  one := fun h u hu => by rw [h, List.mem_singleton] at hu; subst hu; exact h1 _
  st := fun _ _ h => h
  mono := fun _ h => h
  lt := fun h => h
instance : Rep UInt8 := Rep.flat bv fun _ => rfl
instance : Rep Int := Rep.flat iv fun _ => rfl
instance : Rep Bool := Rep.flat Value.bool fun _ => rfl
instance : Rep ByteArray := Rep.flat Value.string fun _ => rfl
def u64v (x : UInt64) : Value := .int .u64 x.toNat
def u32v (x : UInt32) : Value := .int .u32 x.toNat
instance : Rep UInt64 := Rep.flat u64v fun _ => rfl
instance : Rep UInt32 := Rep.flat u32v fun _ => rfl

variable {α : Type} [Rep α]
/-- A slice: its cells lie in a block of F, what its elements lead to in blocks of E. -/
structure RdL (h : Heap) (F E : Nat → Prop) (x : SV) (l : List α) : Prop where
  n : x.2.1 = l.length
  c : x.2.1 ≤ x.2.2
  m : x.2.2 ≤ 9223372036854775807
  at' : 0 < l.length → ∃ b o, x.1 = some ⟨b, o, none⟩ ∧ F b ∧ ∀ i (hi : i < l.length), ∃ cs, Rep.rd h E cs l[i] ∧ ∀ j v, cs[j]? = some v → cell h b (o + i * Rep.k α + j) = some v

section
variable {h h' : Heap} {F F' E E' G : Nat → Prop} {x : SV} {l : List α}
theorem RdL.st (c : Chg G h h') (hF : ∀ j, F j → ¬ G j) (hE : ∀ j, E j → ¬ G j) (r : RdL h F E x l) : RdL h' F E x l :=
  ⟨r.n, r.c, r.m, fun hp => by
    obtain ⟨b, o, e, hb, hc⟩ := r.at' hp
    refine ⟨b, o, e, hb, fun i hi => ?_⟩
    obtain ⟨cs, h1, h2⟩ := hc i hi
    exact ⟨cs, Rep.st c hE h1, fun j v hj => c.cell (h2 j v hj) (hF b hb)⟩⟩
theorem RdL.ext (c : Ext h h') (r : RdL h F E x l) : RdL h' F E x l := r.st c (fun _ _ f => f) (fun _ _ f => f)
theorem RdL.mono (hF : ∀ j, F j → F' j) (hE : ∀ j, E j → E' j) (r : RdL h F E x l) : RdL h F' E' x l :=
  ⟨r.n, r.c, r.m, fun hp => by
    obtain ⟨b, o, e, hb, hc⟩ := r.at' hp
    refine ⟨b, o, e, hF b hb, fun i hi => ?_⟩
    obtain ⟨cs, h1, h2⟩ := hc i hi
    exact ⟨cs, Rep.mono hE h1, h2⟩⟩
theorem RdL.lt (r : RdL h F E x l) : RdL h (fun j => F j ∧ j < h.size) (fun j => E j ∧ j < h.size) x l :=
  ⟨r.n, r.c, r.m, fun hp => by
    obtain ⟨b, o, e, hb, hc⟩ := r.at' hp
    obtain ⟨cs0, g1, g2⟩ := hc 0 hp
    have g3 := Rep.len g1
    have g4 := Rep.kpos (α := α)
    have hlt : b < h.size := cell_lt (g2 0 (cs0[0]'(by omega)) (by simp))
    refine ⟨b, o, e, ⟨hb, hlt⟩, fun i hi => ?_⟩
    obtain ⟨cs, h1, h2⟩ := hc i hi
    exact ⟨cs, Rep.lt h1, h2⟩⟩
theorem RdL.nil (h : Heap) (F E : Nat → Prop) : RdL h F E (none, 0, 0) ([] : List α) := ⟨rfl, Nat.le_refl _, by simp, fun h => absurd h (by simp)⟩
theorem RdL.pos {a : Option Addr} {n c : Nat} (r : RdL h F E (a, n, c) l) (hp : 0 < l.length) : ∃ b o, a = some ⟨b, o, none⟩ ∧ F b := let ⟨b, o, e, hb, _⟩ := r.at' hp; ⟨b, o, e, hb⟩
theorem RdL.el {b o n c : Nat} (r : RdL h F E (some ⟨b, o, none⟩, n, c) l) {i : Nat} (hi : i < l.length) : ∃ cs, Rep.rd h E cs l[i] ∧ ∀ j v, cs[j]? = some v → cell h b (o + i * Rep.k α + j) = some v := by
  obtain ⟨b', o', e, _, hc⟩ := r.at' (by omega)
  injection e with e; injection e with e1 e2; subst e1 e2
  exact hc i hi
theorem RdL.form (r : RdL h F E x l) : ∃ a c, x = (a, l.length, c) ∧ l.length ≤ c ∧ c ≤ 9223372036854775807 := by
  obtain ⟨a, n, c⟩ := x
  obtain ⟨h1, h2, h3, _⟩ := r
  simp only at h1 h2 h3
  subst h1
  exact ⟨a, c, rfl, h2, h3⟩
end
instance {α : Type} [Rep α] : Rep (List α) where
  k := 1
  rd h F cs l := ∃ x : SV, cs = [sv x] ∧ RdL h F F x l
  kpos := by omega
  len := fun ⟨_, h, _⟩ => by rw [h]; rfl
  one := fun ⟨_, h, _⟩ u hu => by rw [h, List.mem_singleton] at hu; subst hu; rfl
  st := fun c d ⟨x, e, r⟩ => ⟨x, e, r.st c d d⟩
  mono := fun d ⟨x, e, r⟩ => ⟨x, e, r.mono d d⟩
  lt := fun ⟨x, e, r⟩ => ⟨x, e, r.lt⟩

/-- A slice that is read, as an item. -/
@[reducible] def rdI (F E : Nat → Prop) (x : SV) (l : List α) : Itm := ⟨fun h => RdL h F E x l, fun j => F j ∨ E j, fun _ _ _ c d r => r.st c (fun j hj => d j (.inl hj)) (fun j hj => d j (.inr hj))⟩
/-- Cells that are read. -/
@[reducible] def celI (b o : Nat) (cs : List Value) : Itm := ⟨fun h => ∀ j v, cs[j]? = some v → cell h b (o + j) = some v, fun j => j = b, fun _ _ _ c d r j v hj => c.cell (r j v hj) (d b rfl)⟩
/-- Elements' cells: what they read as. -/
@[reducible] def elsI (E : Nat → Prop) (css : List (List Value)) (l : List α) : Itm := ⟨fun h => All2 (Rep.rd h E) css l, E, fun _ _ _ c d r => r.mono fun _ _ q => Rep.st c d q⟩

/-! ### Between readings -/
section
variable {h h' : Heap} {F E G : Nat → Prop} {x : SV}
theorem RdL.u8 {l : List UInt8} {b o n c : Nat} (r : RdL h F E (some ⟨b, o, none⟩, n, c) l) {i : Nat} (hi : i < l.length) : cell h b (o + i) = some (.int .u8 l[i].toNat) := by
  obtain ⟨cs, h1, h2⟩ := r.el hi
  have h3 : cs = [.int .u8 l[i].toNat] := h1
  subst h3
  have := h2 0 _ rfl
  simpa [Rep.k] using this
theorem RdL.i64 {l : List Int} {b o n c : Nat} (r : RdL h F E (some ⟨b, o, none⟩, n, c) l) {i : Nat} (hi : i < l.length) : cell h b (o + i) = some (.int .i64 l[i]) := by
  obtain ⟨cs, h1, h2⟩ := r.el hi
  have h3 : cs = [.int .i64 l[i]] := h1
  subst h3
  have := h2 0 _ rfl
  simpa [Rep.k] using this
theorem RdL.str {l : List ByteArray} {b o n c : Nat} (r : RdL h F E (some ⟨b, o, none⟩, n, c) l) {i : Nat} (hi : i < l.length) : cell h b (o + i) = some (.string l[i]) := by
  obtain ⟨cs, h1, h2⟩ := r.el hi
  have h3 : cs = [.string l[i]] := h1
  subst h3
  have := h2 0 _ rfl
  simpa [Rep.k] using this
/-- A row of slices: the slice at a place. -/
theorem RdL.row {β : Type} [Rep β] {l : List (List β)} {b o n c : Nat} (r : RdL h F E (some ⟨b, o, none⟩, n, c) l) {i : Nat} (hi : i < l.length) : ∃ (a : Option Addr) (c' : Nat), cell h b (o + i) = some (.slice a l[i].length c') ∧ RdL h E E (a, l[i].length, c') l[i] := by
  obtain ⟨cs, ⟨y, rfl, h1⟩, h2⟩ := r.el hi
  obtain ⟨a, c', rfl, _⟩ := h1.form
  have := h2 0 _ rfl
  exact ⟨a, c', by simpa [Rep.k] using this, h1⟩
/-- Slices of one cell an element. -/
theorem RdL.of_sl {α : Type} [Rep α] {f : α → Value} (hk : Rep.k α = 1) (hf : ∀ h E a, Rep.rd h E [f a] a) {l : List α} (r : Sl h 1 (sv x) (l.map f)) : RdL h (blk (sv x)) E x l := by
  obtain ⟨a, n, c⟩ := x
  obtain ⟨a', n', c', hv, h1, h2, h3⟩ := r
  have hv : Value.slice a n c = .slice a' n' c' := hv
  injection hv with e1 e2 e3; subst e1 e2 e3
  have hl : l.length = n := by have := h3.len; simpa using this
  refine ⟨hl.symm, h1, h2, fun hp => ?_⟩
  obtain ⟨b, o, rfl, hc⟩ := h3.pos (by omega)
  exact ⟨b, o, rfl, ⟨o, n, c, rfl, by omega⟩, fun i hi => ⟨[f l[i]], hf _ _ _, fun j v hj => by
    rw [hk]
    have hj0 : j = 0 := by have := (List.getElem?_eq_some_iff.1 hj).1; simpa using this
    subst hj0
    simp at hj
    subst hj
    simpa using hc i _ (map_at hi)⟩⟩
theorem RdL.to_sl {α : Type} [Rep α] {f : α → Value} (hk : Rep.k α = 1) (hf : ∀ h E cs a, Rep.rd h E cs a → cs = [f a]) {l : List α} (r : RdL h F E x l) : Sl h 1 (sv x) (l.map f) := by
  obtain ⟨a, n, c⟩ := x
  have hn : n = l.length := r.n
  refine ⟨a, n, c, rfl, r.c, r.m, ?_, fun hp => ?_⟩
  · simp; omega
  · obtain ⟨b, o, e, _, hc⟩ := r.at' (by omega)
    simp at e
    subst e
    refine ⟨b, o, rfl, fun i v hi => ?_⟩
    have hil : i < l.length := by have := (List.getElem?_eq_some_iff.1 hi).1; simpa using this
    obtain ⟨cs, h1, h2⟩ := hc i hil
    have := hf _ _ _ _ h1
    subst this
    rw [map_at hil] at hi
    injection hi with hi
    subst hi
    have := h2 0 _ rfl
    simpa [hk] using this
theorem RdL.ofBytes {l : List UInt8} (r : Bytes h (sv x) l) : RdL h (blk (sv x)) E x l := RdL.of_sl rfl (fun _ _ _ => rfl) r
theorem RdL.by {l : List UInt8} (r : RdL h F E x l) : Bytes h (sv x) l := RdL.to_sl rfl (fun _ _ _ _ h => h) r
theorem RdL.ofInts {l : List Int} (r : Ints h (sv x) l) : RdL h (blk (sv x)) E x l := RdL.of_sl rfl (fun _ _ _ => rfl) r
theorem RdL.ints {l : List Int} (r : RdL h F E x l) : Ints h (sv x) l := RdL.to_sl rfl (fun _ _ _ _ h => h) r
theorem blk_lt {k : Nat} {v : Value} {xs : List Value} (hk : 0 < k) (r : Sl h k v xs) : ∀ j, blk v j → j < h.size := fun j hj => by
  obtain ⟨o, n, c, rfl, hn⟩ := hj
  have h1 := r.cells
  obtain ⟨b, o', e, hc⟩ := h1.pos hn
  injection e with e; injection e with e1 e2; subst e1 e2
  have h2 : 0 < xs.length := by rw [h1.1]; exact Nat.mul_pos hn hk
  exact cell_lt (hc 0 xs[0] (by simp))
end

theorem flatten_len {k : Nat} : ∀ {css : List (List Value)}, (∀ cs ∈ css, cs.length = k) → css.flatten.length = css.length * k
  | [], _ => by simp
  | cs :: l, h => by
    have h1 := h cs List.mem_cons_self
    have h2 := flatten_len (k := k) (css := l) fun c hc => h c (List.mem_cons_of_mem _ hc)
    simp only [List.flatten_cons, List.length_append, List.length_cons, Nat.add_mul, h1, h2]; omega
theorem flatten_at {k : Nat} : ∀ {css : List (List Value)}, (∀ cs ∈ css, cs.length = k) → ∀ (i j : Nat) (hi : i < css.length), j < k → css.flatten[i * k + j]? = css[i][j]?
  | cs :: l, h, 0, j, _, hj => by
    have h1 := h cs List.mem_cons_self
    simp only [List.flatten_cons, Nat.zero_mul, Nat.zero_add]
    rw [List.getElem?_append_left (by omega)]; rfl
  | cs :: l, h, i + 1, j, hi, hj => by
    have h1 := h cs List.mem_cons_self
    have h2 := flatten_at (k := k) (css := l) (fun c hc => h c (List.mem_cons_of_mem _ hc)) i j (by simpa using hi) hj
    simp only [List.flatten_cons]
    rw [List.getElem?_append_right (by rw [h1, Nat.add_mul]; omega), h1]
    have : (i + 1) * k + j - k = i * k + j := by rw [Nat.add_mul]; omega
    rw [this, h2]; rfl
/-- A slice that was made, with what its elements read as. -/
theorem RdL.of_cap {h : Heap} {E : Nat → Prop} {e : TypeId} {x : SV} {css : List (List Value)} {l : List α} (c : Cap h (Rep.k α) e (sv x) css.flatten) (r : All2 (Rep.rd h E) css l) : RdL h (blkC (sv x)) E x l := by
  obtain ⟨a, n, c'⟩ := x
  have hk := Rep.kpos (α := α)
  have hlen : ∀ cs ∈ css, cs.length = Rep.k α := fun cs hcs => by
    obtain ⟨i, hi, rfl⟩ := List.mem_iff_getElem.1 hcs
    exact Rep.len (r.2 i hi (by have := r.1; omega))
  have hs : Sl h (Rep.k α) (.slice a n c') css.flatten := c.sl
  have hn : css.length = n := by
    have h1 := hs.cells.1
    rw [flatten_len hlen] at h1
    exact Nat.eq_of_mul_eq_mul_right hk h1
  refine ⟨by have := r.1; simp; omega, c.le, c.bd, fun hp => ?_⟩
  have hn0 : 0 < n := by have := r.1; omega
  obtain ⟨b, o, rfl, hc⟩ := hs.cells.pos hn0
  refine ⟨b, o, rfl, ⟨o, n, c', rfl⟩, fun i hi => ⟨css[i]'(by have := r.1; omega), r.2 i _ hi, fun j v hj => ?_⟩⟩
  have h1 : i < css.length := by have := r.1; omega
  have h2 : j < Rep.k α := by
    have h3 := (List.getElem?_eq_some_iff.1 hj).1
    rwa [hlen _ (List.getElem_mem h1)] at h3
  rw [Nat.add_assoc]
  exact hc _ _ (by rw [flatten_at hlen i j h1 h2]; exact hj)
theorem RdL.of_cap1 {f : α → Value} {h : Heap} {E : Nat → Prop} {e : TypeId} {x : SV} {l : List α} (hk : Rep.k α = 1) (hf : ∀ h E a, Rep.rd h E [f a] a) (c : Cap h 1 e (sv x) (l.map f)) : RdL h (blkC (sv x)) E x l :=
  (RdL.of_sl hk hf c.sl).mono (fun _ ⟨o, n, c, e, _⟩ => ⟨o, n, c, e⟩) (fun _ h => h)

/-! ### What calls leave -/
/-- A slice that is new, and all that it leads to. -/
def RetL (h : Heap) (l : List α) (v : Value) (h' : Heap) : Prop := ∃ x : SV, v = sv x ∧ Ext h h' ∧ RdL h' (Nw h h') (Nw h h') x l
section
variable {h0 h h' : Heap} {D : Nat → Prop} {M R : List Itm} {x : SV} {k : Nat} {e : TypeId} {xs : List Value} {l : List α}
theorem Hp.own {a : Option Addr} {n c : Nat} (ok : Hp h0 D M R h) (o : Own h h' k e (.slice a n c) xs) : Hp h0 D (capI k e (a, n, c) xs :: M) R h' := ok.newM o.ext _ o.cap fun j hj => ⟨o.fresh j hj, o.cap.lt hj⟩
theorem Hp.ret (ok : Hp h0 D M R h) (c : Ext h h') (r : RdL h' (Nw h h') (Nw h h') x l) : Hp h0 D M (rdI (Nw h h') (Nw h h') x l :: R) h' := ok.newR c _ r fun _ hj => hj.elim id id
theorem Hp.fresh {a : Itm} (ok : Hp h0 none_ (a :: M) R h) : ∀ j, a.F j → Nw h0 h j := fun j hj =>
  have h1 := (ok.m a (by simp)).2 j hj
  ⟨h1.2.elim (fun f => f.elim) id, h1.1⟩
theorem Hp.toOwn (ok : Hp h0 none_ (capI k e x xs :: M) R h) : Own h0 h k e (sv x) xs := ⟨ok.m0, ok.chg, fun j hj => (ok.fresh j hj).1⟩
/-- What was there is read as before. -/
theorem Hp.arg (ok : Hp h0 D [] R h) {F E : Nat → Prop} (r : RdL h F E x l) : Hp h0 D [] (rdI (fun j => F j ∧ j < h.size) (fun j => E j ∧ j < h.size) x l :: R) h := ok.old _ r.lt fun _ hj => hj.elim (·.2) (·.2)
/-- An element's part. -/
theorem Hp.bytes (ok : Hp h0 D [] R h) {l : List UInt8} (r : Bytes h (sv x) l) : Hp h0 D [] (rdI (blk (sv x)) none_ x l :: R) h := ok.old _ (RdL.ofBytes r) fun j hj => hj.elim (blk_lt (by omega) r j) fun f => f.elim
theorem Hp.frzB (ok : Hp h0 D (capI 1 e x xs :: M) R h) {l : List UInt8} (hx : xs = l.map bv) : Hp h0 D M (rdI (blkC (sv x)) none_ x l :: R) h :=
  (ok.re (rdI (blkC (sv x)) none_ x l) (RdL.of_cap1 rfl (fun _ _ _ => rfl) (by have := ok.m0; rw [hx] at this; exact this)) fun _ hj => hj.elim id fun f => f.elim).frz
theorem Hp.frzI (ok : Hp h0 D (capI 1 e x xs :: M) R h) {l : List Int} (hx : xs = l.map iv) : Hp h0 D M (rdI (blkC (sv x)) none_ x l :: R) h :=
  (ok.re (rdI (blkC (sv x)) none_ x l) (RdL.of_cap1 rfl (fun _ _ _ => rfl) (by have := ok.m0; rw [hx] at this; exact this)) fun _ hj => hj.elim id fun f => f.elim).frz
end
end Go.HL
namespace Go.HL
open Go
section
variable {h0 h h' : Heap} {D : Nat → Prop} {M R : List Itm} {x : SV} {k : Nat} {e : TypeId} {xs ys : List Value}
theorem Own.form3 {v : Value} (o : Own h h' k e v xs) : ∃ a n c, v = .slice a n c := let ⟨a, n, c, e, _⟩ := o.cap; ⟨a, n, c, e⟩
/-- What grows out of an item that is read, by new blocks alone. -/
theorem Hp.grow (ok : Hp h0 D M R h) (c : Ext h h') {r : Itm} (hr : r ∈ R) (it : Itm) (hp : it.p h') (hF : ∀ j, it.F j → r.F j ∨ Nw h h' j) : Hp h0 D M (it :: R) h' :=
  have o := ok.ext c
  ⟨o.chg, o.m, fun i hi => by
    rcases List.mem_cons.1 hi with rfl | hi
    · exact ⟨hp, fun j hj => (hF j hj).elim (fun h1 => (o.r r hr).2 j h1) (·.2)⟩
    · exact o.r i hi, o.mm, fun a ha b hb j hj hb2 => by
    rcases List.mem_cons.1 hb with rfl | hb
    · rcases hF j hb2 with h1 | h1
      · exact o.mr a ha r hr j hj h1
      · have := ((ok.m a ha).2 j hj).1
        have := h1.1
        omega
    · exact o.mr a ha b hb j hj hb2⟩
/-- An item that may turn, made of new blocks that the first item does not take, while that one turned. -/
theorem Hp.newBeside {a a' : Itm} {G : Nat → Prop} (ok : Hp h0 D (a :: M) R h) (c : Chg G h h') (hG : ∀ j, G j → a.F j) (hp : a'.p h') (hF : ∀ j, a'.F j → a.F j ∨ (h.size ≤ j ∧ j < h'.size)) (it : Itm) (hi : it.p h') (hN : ∀ j, it.F j → h.size ≤ j ∧ j < h'.size ∧ ¬ a'.F j) : Hp h0 D (it :: a' :: M) R h' := by
  have o := ok.upd c hG a' hp hF
  refine ⟨o.chg, fun i hm => ?_, o.r, List.pairwise_cons.2 ⟨fun b hb j hj hb2 => ?_, o.mm⟩, fun x hx b hb j hj hb2 => ?_⟩
  · rcases List.mem_cons.1 hm with rfl | hm
    · exact ⟨hi, fun j hj => ⟨(hN j hj).2.1, .inr (Nat.le_trans ok.chg.size (hN j hj).1)⟩⟩
    · exact o.m i hm
  · rcases List.mem_cons.1 hb with rfl | hb
    · exact (hN j hj).2.2 hb2
    · have := ((ok.m b (List.mem_cons_of_mem _ hb)).2 j hb2).1
      have := (hN j hj).1
      omega
  · rcases List.mem_cons.1 hx with rfl | hx
    · have := (ok.r b hb).2 j hb2
      have := (hN j hj).1
      omega
    · exact o.mr x hx b hb j hj hb2
theorem Cap.u8 {l : List UInt8} {b o n c : Nat} (r : Cap h 1 e (.slice (some ⟨b, o, none⟩) n c) (l.map bv)) {i : Nat} (hi : i < l.length) : cell h b (o + i) = some (.int .u8 l[i].toNat) := by
  obtain ⟨b', o', he, hc⟩ := r.sl.cells.pos (by have := r.sl.cells.1; simp at this; omega)
  injection he with he; injection he with e1 e2; subst e1 e2
  exact hc i _ (map_at hi)
theorem u8_succ (x : UInt8) : IntKind.wrap .u8 ((x.toNat : Int) + 1) = ((x + 1).toNat : Int) := by
  have h1 := x.toNat_lt
  by_cases h : x.toNat = 255
  · have : x = 255 := UInt8.toNat_inj.1 (by simpa using h)
    subst this; rfl
  · rw [IntWalk.u8_in _ (by omega), UInt8.toNat_add]
    simp; omega
theorem Hp.nilC (ok : Hp h0 D M R h) : Hp h0 D (capI k e (none, 0, 0) [] :: M) R h :=
  ok.newM (Ext.refl h) _ (Cap.nil _ _ _) fun j ⟨o, n, c, e⟩ => by cases e
theorem Hp.cx (ok : Hp h0 D (capI k e x xs :: M) R h) (q : xs = ys) : Hp h0 D (capI k e x ys :: M) R h := q ▸ ok
theorem Hp.cx1 {a : Itm} (ok : Hp h0 D (a :: capI k e x xs :: M) R h) (q : xs = ys) : Hp h0 D (a :: capI k e x ys :: M) R h := q ▸ ok
theorem Hp.cx2 {a b : Itm} (ok : Hp h0 D (a :: b :: capI k e x xs :: M) R h) (q : xs = ys) : Hp h0 D (a :: b :: capI k e x ys :: M) R h := q ▸ ok
theorem snocB {l : List UInt8} {x : UInt8} : l.map bv ++ [.int .u8 x.toNat] = (l ++ [x]).map bv := by simp [bv]
theorem snocI {l : List Int} {x : Int} : l.map iv ++ [.int .i64 x] = (l ++ [x]).map iv := by simp [iv]
theorem snocF {α : Type} {f : α → List Value} {l : List α} {x : α} : l.flatMap f ++ f x = (l ++ [x]).flatMap f := by simp
theorem bv_all {l : List UInt8} : ∀ u ∈ l.map bv, u.oneCell' = true := fun u hu => by
  obtain ⟨x, _, rfl⟩ := List.mem_map.1 hu; rfl
theorem iv_all {l : List Int} : ∀ u ∈ l.map iv, u.oneCell' = true := fun u hu => by
  obtain ⟨x, _, rfl⟩ := List.mem_map.1 hu; rfl
theorem load_ag {P : Program} {b : Nat} {t e : TypeId} {cs : List Value} (ha : agB P t = some true) (hb : h[b]? = some (.cells cs.toArray e (0, 0))) (hs : szB P t = some cs.length) : LoadIs P h t ⟨b, 0, none⟩ (.agg cs.toArray) := load_agg cs ha hs (cells0 hb)
theorem load_1 {P : Program} {b : Nat} {t e : TypeId} {v : Value} {l : List Value} (ha : agB P t = some false) (hb : h[b]? = some (.cells (v :: l).toArray e (0, 0))) : LoadIs P h t ⟨b, 0, none⟩ v := load_one ha (by rw [cell_of hb]; simp)
end
end Go.HL
namespace Go.HL
open Go
theorem sl_at {α : Type} {f : α → List Value} {h : Heap} {k b o n c : Nat} (hf : ∀ x, (f x).length = k) {l : List α} (r : Sl h k (.slice (some ⟨b, o, none⟩) n c) (l.flatMap f)) {i j : Nat} (hi : i < l.length) {v : Value} (hv : (f l[i])[j]? = some v) : cell h b (o + i * k + j) = some v := by
  have hl := r.cells.1
  rw [flat_len hf] at hl
  have hj : j < k := by have := (List.getElem?_eq_some_iff.1 hv).1; rwa [hf] at this
  have hn : 0 < n := by
    rcases Nat.eq_zero_or_pos n with e | e
    · subst e
      have : 0 < l.length * k := Nat.mul_pos (by omega) (by omega)
      omega
    · exact e
  obtain ⟨b', o', e, hc⟩ := r.cells.pos hn
  injection e with e; injection e with e1 e2; subst e1 e2
  exact cell_at hf hc hi hv
theorem sl_ats {α : Type} {f : α → List Value} {h : Heap} {k b o n c : Nat} (hf : ∀ x, (f x).length = k) {l : List α} (r : Sl h k (.slice (some ⟨b, o, none⟩) n c) (l.flatMap f)) {i : Nat} (hi : i < l.length) : ∀ j v, (f l[i])[j]? = some v → cell h b (o + i * k + j) = some v := fun _ _ hv => sl_at hf r hi hv
theorem Sl.pos {h : Heap} {k : Nat} {a : Option Addr} {n c : Nat} {xs : List Value} (r : Sl h k (.slice a n c) xs) (hn : 0 < n) : ∃ b o, a = some ⟨b, o, none⟩ ∧ blk (.slice a n c) b := by
  obtain ⟨b, o, rfl, _⟩ := r.cells.pos hn
  exact ⟨b, o, rfl, o, n, c, rfl, hn⟩
theorem Cap.pos {h : Heap} {k : Nat} {e : TypeId} {a : Option Addr} {n c : Nat} {xs : List Value} (r : Cap h k e (.slice a n c) xs) (hn : 0 < n) : ∃ b o, a = some ⟨b, o, none⟩ ∧ blkC (.slice a n c) b := by
  obtain ⟨b, o, rfl, _⟩ := r.sl.pos hn
  exact ⟨b, o, rfl, o, n, c, rfl⟩
theorem Sl.sz {α : Type} {f : α → List Value} {h : Heap} {k : Nat} {a : Option Addr} {n c : Nat} {l : List α} (r : Sl h k (.slice a n c) (l.flatMap f)) (hf : ∀ x, (f x).length = k) (hk : 0 < k) : l.length = n ∧ n ≤ c ∧ c ≤ 9223372036854775807 := by
  have hl := r.cells.1
  rw [flat_len hf] at hl
  obtain ⟨a', n', c', hv, h1, h2, _⟩ := r
  injection hv with e1 e2 e3; subst e1 e2 e3
  exact ⟨Nat.eq_of_mul_eq_mul_right hk hl, h1, h2⟩
theorem blk_toC {v : Value} {j : Nat} (h : blk v j) : blkC v j := let ⟨o, n, c, e, _⟩ := h; ⟨o, n, c, e⟩
theorem All2.inv {α β : Type} {R : α → β → Prop} {a : α} {b : β} {l : List α} {m : List β} (h : All2 R (a :: l) (b :: m)) : R a b ∧ All2 R l m :=
  ⟨h.2 0 (by simp) (by simp), by have := h.1; simpa using this, fun i h1 h2 => h.2 (i + 1) (by simpa using h1) (by simpa using h2)⟩
theorem All2.filter {α β : Type} {R : α → β → Prop} {f : α → Bool} {g : β → Bool} (hfg : ∀ a b, R a b → f a = g b) : ∀ {l : List α} {m : List β}, All2 R l m → All2 R (l.filter f) (m.filter g)
  | [], [], _ => All2.nil
  | [], _ :: _, h => by have := h.1; simp at this
  | _ :: _, [], h => by have := h.1; simp at this
  | a :: l, b :: m, h => by
    obtain ⟨h1, h2⟩ := h.inv
    have h3 := All2.filter hfg h2
    rw [List.filter_cons, List.filter_cons, hfg a b h1]
    cases g b
    · simpa using h3
    · simpa using All2.cons h1 h3
theorem All2.take {α β : Type} {R : α → β → Prop} {l : List α} {m : List β} (h : All2 R l m) (k : Nat) : All2 R (l.take k) (m.take k) :=
  ⟨by simp [h.1], fun i h1 h2 => by simp at h1 h2; simp only [List.getElem_take]; exact h.2 i _ _⟩
theorem All2.map {α β γ : Type} {R : α → β → Prop} {R' : γ → β → Prop} {f : α → γ} {l : List α} {m : List β} (h : All2 R l m) (hr : ∀ a b, R a b → R' (f a) b) : All2 R' (l.map f) m :=
  ⟨by simp [h.1], fun i h1 h2 => by simp at h1 ⊢; exact hr _ _ (h.2 i _ _)⟩
end Go.HL
