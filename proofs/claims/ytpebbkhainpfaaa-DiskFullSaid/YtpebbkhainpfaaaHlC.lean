/- The rules of the logic in few words: code as a list of what is still to run. Conditions: those that each rule names. -/
import Derived.Test.YtpebbkhainpfaaaHlIter
import Derived.Test.YtpebbkhainpfaaaHlArr
namespace Go.HL
open Go

/-- What is still to run, one behind the other. -/
def HS (P : Program) (n : Nat) : List Code → (Exit → Slots → Heap → Prop) → Slots → Heap → Prop
  | [], Q, s, h => Q .normal s h
  | c :: k, Q, s, h => HW P n c (thn (HS P n k Q) Q) s h
section code
variable {P : Program} {n : Nat} {Q : Exit → Slots → Heap → Prop} {s : Slots} {h : Heap} {k : List Code}
theorem thn_thn {K K' : Slots → Heap → Prop} {e : Exit} {s : Slots} {h : Heap} (q : thn K (thn K' Q) e s h) : thn K Q e s h := by cases e <;> exact q
theorem HS.seq {a b : Code} (hk : HS P n (a :: b :: k) Q s h) : HS P n (.seq a b :: k) Q s h :=
  HW.seq fun _ hK => HW.mono hk fun e s h q => by cases e <;> first | exact hK _ _ q | exact q
theorem HS.skip (hk : HS P n k Q s h) : HS P n (.skip :: k) Q s h := HW.skip hk
theorem HS.end (hk : Q .normal s h) : HS P n [] Q s h := hk
theorem HS.ret (hq : Q .ret s h) : HS P n (.ret :: k) Q s h := HW.ret hq
theorem HS.exit {id : Nat} (hq : Q (.exit id) s h) : HS P n (.exit id :: k) Q s h := HW.exit hq
theorem HS.cond {c : Operand} {x y : Code} {t : Bool} (ht : t = true → HS P n (x :: k) Q s h) (hf : t = false → HS P n (y :: k) Q s h) (hc : ev s c = .bool t := by exact rfl) : HS P n (.cond c x y :: k) Q s h := HW.cond hc ht hf
theorem HS.condr {c : Operand} {x y : Code} {t : Bool} (hf : t = false → HS P n (y :: k) Q s h) (ht : t = true → HS P n (x :: k) Q s h) (hc : ev s c = .bool t := by exact rfl) : HS P n (.cond c x y :: k) Q s h := HW.cond hc ht hf
theorem HS.ct {c : Operand} {x y : Code} (ht : HS P n (x :: k) Q s h) (hc : ev s c = .bool true := by exact rfl) : HS P n (.cond c x y :: k) Q s h := HW.cond_t hc ht
theorem HS.cf {c : Operand} {x y : Code} (hf : HS P n (y :: k) Q s h) (hc : ev s c = .bool false := by exact rfl) : HS P n (.cond c x y :: k) Q s h := HW.cond_f hc hf
/-- Where ways meet: what holds there. -/
theorem HS.join {c : Code} (J : Slots → Heap → Prop) (hx : HS P n [c] (thn J Q) s h) (hy : ∀ s h, J s h → HS P n k Q s h) : HS P n (c :: k) Q s h :=
  HW.mono hx fun e s h q => by cases e <;> first | exact hy _ _ q | exact q
theorem HS.block {id : Nat} {c : Code} (hk : ∀ K : Slots → Heap → Prop, (∀ s h, HS P n k Q s h → K s h) → HS P n [c] (inBlk id (thn K Q)) s h) : HS P n (.block id c :: k) Q s h :=
  HW.block (HW.mono (hk (HS P n k Q) fun _ _ q => q) fun e s h q => by cases e <;> exact q)
theorem HS.loop {c : Code} (I : Nat → Slots → Heap → Prop) (h0 : ∃ m, I m s h)
    (round : ∀ m s h, I m s h → ∀ J : Slots → Heap → Prop, (∀ m' s' h', I m' s' h' → m' < m → J s' h') → HS P n [c] (thn J Q) s h) : HS P n (.loop c :: k) Q s h :=
  HW.loopm I h0 fun m s h hI J hJ => HW.mono (round m s h hI J hJ) fun e s h q => by cases e <;> exact q
theorem HS.frame {l : List (Nat × Value)} (hs : Has s l) (hc : ∀ τ, HS P n k Q (frm l τ) h) : HS P n k Q s h := by
  have := hc s
  rwa [frm_of hs] at this
theorem HS.r {id : Nat} {l : List Oper} (hk : HO P n l.toArray l (fun s h => HS P n k Q s h) s h) : HS P n (.region id l.toArray false :: k) Q s h := HW.region hk
theorem HS.q {id : Nat} {l : List Oper} (hk : HQ P n l.toArray l (fun s h => HS P n k Q s h) s h) (hm : P.follows .mixedOrders = true) (hB : Region.lexB .any l.toArray = true := by kernel_rfl) : HS P n (.region id l.toArray true :: k) Q s h := HW.quiet hm hB hk
theorem HS.t {id : Nat} {l : List Oper} (q : Nat) (hm : P.follows .mixedOrders = true) (hk : HT P n l.toArray (l.take q) (HO P n l.toArray (l.drop q) (fun s h => HS P n k Q s h)) s h) (hB : Region.lexTailB .any l.toArray q = true := by kernel_rfl) : HS P n (.region id l.toArray true :: k) Q s h := HW.tail q hm hB hk
theorem HS.a {id : Nat} {l : List Oper} (bar : Nat) (S : Bool → Heap → Prop) (hm : P.follows .mixedOrders = true) (hk : HA P n l.toArray bar S (fun s h => HS P n k Q s h) l.length (Array.replicate l.length false) s h) : HS P n (.region id l.toArray true :: k) Q s h := HW.any bar S hm hk
end code
theorem HC.go {P : Program} {f : FuncId} {fn : Func} {c : Code} {args : List Value} {h : Heap} {R : Value → Heap → Prop} (hf : P.funcs[f]? = some fn) (n : Nat) (hc : HS P n [c] (fin P fn R) (lst args) h) (hb : fn.body = some c := by exact rfl)
    (hname : (fn.name == "runtime.NumGoroutine") = false := by kernel_rfl) (hn : fn.ntmps = n := by exact rfl) (hsz : Nat.ble args.length n = true := by exact rfl) : HC P f args.toArray h R :=
  HC.body hf hb hname n hn hsz (HW.mono hc fun e s h q => by cases e <;> exact q)

section ops
variable {P : Program} {n : Nat} {ops : Array Oper} {l : List Oper} {o : Oper} {K : Slots → Heap → Prop} {s : Slots} {h : Heap}
theorem HO.w (d : Nat) {v : Value} (hv : OpV P o s h v) (hk : HO P n ops l K (upd s d v) h) (hw : wants ops o s = true := by exact rfl) (hd : o.dst = some d := by exact rfl) (hn : Nat.blt d n = true := by exact rfl) : HO P n ops (o :: l) K s h := HO.v hv hw d hd hn hk
theorem HO.x (d : Nat) (hk : HO P n ops l K (upd s d undef) h) (hw : wants ops o s = false := by exact rfl) (hd : o.dst = some d := by exact rfl) (hn : Nat.blt d n = true := by exact rfl) : HO P n ops (o :: l) K s h := HO.no hw d hd hn hk
theorem HQ.w (d : Nat) {v : Value} (hv : OpV P o s h v) (hk : HQ P n ops l K (upd s d v) h) (hw : wants ops o s = true := by exact rfl) (hd : o.dst = some d := by exact rfl) (hn : Nat.blt d n = true := by exact rfl) : HQ P n ops (o :: l) K s h := HQ.v hv hw d hd hn hk
theorem HQ.x (d : Nat) (hk : HQ P n ops l K (upd s d undef) h) (hw : wants ops o s = false := by exact rfl) (hd : o.dst = some d := by exact rfl) (hn : Nat.blt d n = true := by exact rfl) : HQ P n ops (o :: l) K s h := HQ.no hw d hd hn hk
theorem HT.w (d : Nat) {v : Value} (hv : OpV P o s h v) (hk : HT P n ops l K (upd s d v) h) (hw : wants ops o s = true := by exact rfl) (hd : o.dst = some d := by exact rfl) (hn : Nat.blt d n = true := by exact rfl) : HT P n ops (o :: l) K s h := HT.v hv hw d hd hn hk
theorem HT.x (d : Nat) (hk : HT P n ops l K (upd s d undef) h) (hw : wants ops o s = false := by exact rfl) (hd : o.dst = some d := by exact rfl) (hn : Nat.blt d n = true := by exact rfl) : HT P n ops (o :: l) K s h := HT.no hw d hd hn hk
/-- A call that turns nothing and answers v. -/
theorem HO.k (d : Nat) {v : Value} {f : FuncId} {args : Array Value} (hv : OpC P o s h f args) (hc : HC P f args h (fun v' h' => v' = v ∧ h' = h)) (hk : HO P n ops l K (upd s d v) h) (hw : wants ops o s = true := by exact rfl) (hd : o.dst = some d := by exact rfl) (hn : Nat.blt d n = true := by exact rfl) : HO P n ops (o :: l) K s h :=
  HO.c hv hw d hd hn hc fun _ _ ⟨e1, e2⟩ => by subst e1 e2; exact hk
theorem HQ.k (d : Nat) {v : Value} {f : FuncId} {args : Array Value} (hv : OpC P o s h f args) (hc : HC P f args h (fun v' h' => v' = v ∧ h' = h)) (hk : HQ P n ops l K (upd s d v) h) (hw : wants ops o s = true := by exact rfl) (hd : o.dst = some d := by exact rfl) (hn : Nat.blt d n = true := by exact rfl) : HQ P n ops (o :: l) K s h := HQ.c hv hw d hd hn hc hk
/-- A call. -/
theorem HO.c' (d : Nat) {f : FuncId} {args : Array Value} {R : Value → Heap → Prop} (hv : OpC P o s h f args) (hc : HC P f args h R) (hk : ∀ v h', R v h' → HO P n ops l K (upd s d v) h') (hw : wants ops o s = true := by exact rfl) (hd : o.dst = some d := by exact rfl) (hn : Nat.blt d n = true := by exact rfl) : HO P n ops (o :: l) K s h := HO.c hv hw d hd hn hc hk
/-- An operation that yields a value and a heap out of a class. -/
theorem HO.a' (d : Nat) {R : Value → Heap → Prop} (hv : OpA P o s h R) (hk : ∀ v h', R v h' → HO P n ops l K (upd s d v) h') (hw : wants ops o s = true := by exact rfl) (hd : o.dst = some d := by exact rfl) (hn : Nat.blt d n = true := by exact rfl) : HO P n ops (o :: l) K s h := HO.a hv hw d hd hn hk
theorem HO.ur' {R : Heap → Prop} (hv : OpUR P o s h R) (hk : ∀ h', R h' → HO P n ops l K s h') (hw : wants ops o s = true := by exact rfl) (hd : o.dst = none := by exact rfl) : HO P n ops (o :: l) K s h := HO.ur hv hw hd hk
end ops

section any
variable {P : Program} {n : Nat} {ops : Array Oper} {o : Oper} {bar : Nat} {S : Bool → Heap → Prop} {K : Slots → Heap → Prop} {fuel : Nat} {listed : Array Bool} {s : Slots} {h : Heap}
theorem HA.e (hk : K s h) (hr : Region.ready .any ops listed = [] := by kernel_rfl) : HA P n ops bar S K fuel listed s h := HA.done hr hk
theorem HA.g (i : Nat) (fl : Bool) (hi : ops[i]? = some o) (d : Nat) {v : Value} (hS : S fl h) (hv : ∀ h', OpV P o s h' v) (hk : HA P n ops bar S K fuel (listed.setIfInBounds i true) (upd s d v) h)
    (hs : Region.noSelect ops = true := by kernel_rfl) (hf : Region.free .any ops listed i = true := by kernel_rfl) (hr : (Region.ready .any ops listed).contains i = true := by kernel_rfl) (hib : Nat.beq i bar = false := by exact rfl)
    (hw : wants ops o s = true := by exact rfl) (hd : o.dst = some d := by exact rfl) (hn : Nat.blt d n = true := by exact rfl) (hfl : listed.getD bar false = fl := by kernel_rfl) : HA P n ops bar S K (fuel + 1) listed s h :=
  HA.p i hi hs hf hr hib hw d hd hn hfl hS hv hk
/-- .. that reads the heap, ahead of the bar. -/
theorem HA.l (i : Nat) (fl : Bool) (hi : ops[i]? = some o) (d : Nat) {v : Value} (hS : S fl h) (hv : ∀ h', S fl h' → OpV P o s h' v) (hk : HA P n ops bar S K fuel (listed.setIfInBounds i true) (upd s d v) h)
    (hs : Region.noSelect ops = true := by kernel_rfl) (hf : Region.free .any ops listed i = true := by kernel_rfl) (hr : (Region.ready .any ops listed).contains i = true := by kernel_rfl) (hib : Nat.beq i bar = false := by exact rfl)
    (hw : wants ops o s = true := by exact rfl) (hd : o.dst = some d := by exact rfl) (hn : Nat.blt d n = true := by exact rfl) (hfl : listed.getD bar false = fl := by kernel_rfl) (hwt : Region.waitsFor .any ops bar i = true := by kernel_rfl) : HA P n ops bar S K (fuel + 1) listed s h :=
  HA.v i hi hs hf hr hib hw d hd hn hfl hS hwt hv hk
theorem HA.lw (i : Nat) (fl : Bool) (hi : ops[i]? = some o) (d : Nat) {v : Value} (hS : S fl h) (hv : ∀ fl h', S fl h' → OpV P o s h' v) (hk : HA P n ops bar S K fuel (listed.setIfInBounds i true) (upd s d v) h)
    (hs : Region.noSelect ops = true := by kernel_rfl) (hf : Region.free .any ops listed i = true := by kernel_rfl) (hr : (Region.ready .any ops listed).contains i = true := by kernel_rfl) (hib : Nat.beq i bar = false := by exact rfl)
    (hw : wants ops o s = true := by exact rfl) (hd : o.dst = some d := by exact rfl) (hn : Nat.blt d n = true := by exact rfl) (hfl : listed.getD bar false = fl := by kernel_rfl) : HA P n ops bar S K (fuel + 1) listed s h :=
  HA.w i hi hs hf hr hib hw d hd hn hfl hS hv hk
theorem HA.x (i : Nat) (fl : Bool) (hi : ops[i]? = some o) (d : Nat) (hS : S fl h) (hk : HA P n ops bar S K fuel (listed.setIfInBounds i true) (upd s d undef) h)
    (hs : Region.noSelect ops = true := by kernel_rfl) (hf : Region.free .any ops listed i = true := by kernel_rfl) (hr : (Region.ready .any ops listed).contains i = true := by kernel_rfl) (hib : Nat.beq i bar = false := by exact rfl)
    (hw : wants ops o s = false := by exact rfl) (hd : o.dst = some d := by exact rfl) (hn : Nat.blt d n = true := by exact rfl) (hfl : listed.getD bar false = fl := by kernel_rfl) : HA P n ops bar S K (fuel + 1) listed s h :=
  HA.no i hi hs hf hr hib hw d hd hn hfl hS hk
theorem HA.o1 (i : Nat) (hk : Up P n ops bar S K fuel listed i s h) (hr : Region.ready .any ops listed = [i] := by kernel_rfl) : HA P n ops bar S K (fuel + 1) listed s h := HA.one i hr hk
theorem HA.o2 (i j : Nat) (hi : Up P n ops bar S K fuel listed i s h) (hj : Up P n ops bar S K fuel listed j s h) (hr : Region.ready .any ops listed = [i, j] := by kernel_rfl) : HA P n ops bar S K (fuel + 1) listed s h := HA.two i j hr hi hj
theorem HA.o3 (i j k : Nat) (hi : Up P n ops bar S K fuel listed i s h) (hj : Up P n ops bar S K fuel listed j s h) (hk : Up P n ops bar S K fuel listed k s h) (hr : Region.ready .any ops listed = [i, j, k] := by kernel_rfl) : HA P n ops bar S K (fuel + 1) listed s h := HA.three i j k hr hi hj hk
variable {i : Nat}
theorem Up.k {v : Value} {f : FuncId} {args : Array Value} (fl : Bool) (hi : ops[i]? = some o) (d : Nat) (hv : OpC P o s h f args) (hc : HC P f args h (fun v' h' => v' = v ∧ h' = h)) (hS : S fl h) (hk : HA P n ops bar S K fuel (listed.setIfInBounds i true) (upd s d v) h)
    (hw : wants ops o s = true := by exact rfl) (hd : o.dst = some d := by exact rfl) (hn : Nat.blt d n = true := by exact rfl) (hfl : (listed.setIfInBounds i true).getD bar false = fl := by kernel_rfl) : Up P n ops bar S K fuel listed i s h :=
  Up.c hi hw d hd hn hv hc hfl fun _ _ ⟨e1, e2⟩ => by subst e1 e2; exact ⟨hS, hk⟩
theorem Up.c' {f : FuncId} {args : Array Value} {R : Value → Heap → Prop} (fl : Bool) (hi : ops[i]? = some o) (d : Nat) (hv : OpC P o s h f args) (hc : HC P f args h R) (hk : ∀ v h', R v h' → S fl h' ∧ HA P n ops bar S K fuel (listed.setIfInBounds i true) (upd s d v) h')
    (hw : wants ops o s = true := by exact rfl) (hd : o.dst = some d := by exact rfl) (hn : Nat.blt d n = true := by exact rfl) (hfl : (listed.setIfInBounds i true).getD bar false = fl := by kernel_rfl) : Up P n ops bar S K fuel listed i s h := Up.c hi hw d hd hn hv hc hfl hk
theorem Up.a' {R : Value → Heap → Prop} (fl : Bool) (hi : ops[i]? = some o) (d : Nat) (hv : OpA P o s h R) (hk : ∀ v h', R v h' → S fl h' ∧ HA P n ops bar S K fuel (listed.setIfInBounds i true) (upd s d v) h')
    (hw : wants ops o s = true := by exact rfl) (hd : o.dst = some d := by exact rfl) (hn : Nat.blt d n = true := by exact rfl) (hfl : (listed.setIfInBounds i true).getD bar false = fl := by kernel_rfl) : Up P n ops bar S K fuel listed i s h := Up.a hi hw d hd hn hv hfl hk
theorem Up.ur' {R : Heap → Prop} (fl : Bool) (hi : ops[i]? = some o) (hv : OpUR P o s h R) (hk : ∀ h', R h' → S fl h' ∧ HA P n ops bar S K fuel (listed.setIfInBounds i true) s h')
    (hw : wants ops o s = true := by exact rfl) (hd : o.dst = none := by exact rfl) (hfl : (listed.setIfInBounds i true).getD bar false = fl := by kernel_rfl) : Up P n ops bar S K fuel listed i s h := Up.ur hi hw hd hv hfl hk
end any

/-! ### Operations, their operands read off the slots -/
namespace OpV
variable {P : Program} {s : Slots} {h : Heap} {d : Option Tmp} {ty : TypeId} {pos : String} {af : Array Edge} {g : Option (Nat × Bool)} {x y c : Operand} {t u : TypeId}
section
variable {k : IntKind} {a b : Int}
theorem mvI (hx : ev s x = .int k a := by exact rfl) : OpV P ⟨d, .move x, ty, pos, af, g⟩ s h (.int k a) := V.mvI hx
theorem asI (hx : ev s x = .int k a := by exact rfl) : OpV P ⟨d, .assign x, ty, pos, af, g⟩ s h (.int k a) := V.asI hx
theorem add (hx : ev s x = .int .i64 a := by exact rfl) (hy : ev s y = .int .i64 b := by exact rfl) (hr : -9223372036854775808 ≤ a + b ∧ a + b ≤ 9223372036854775807 := by omega) : OpV P ⟨d, .binOp .add t x y u, ty, pos, af, g⟩ s h (.int .i64 (a + b)) := V.add hx hy hr
theorem sub (hx : ev s x = .int .i64 a := by exact rfl) (hy : ev s y = .int .i64 b := by exact rfl) (hr : -9223372036854775808 ≤ a - b ∧ a - b ≤ 9223372036854775807 := by omega) : OpV P ⟨d, .binOp .sub t x y u, ty, pos, af, g⟩ s h (.int .i64 (a - b)) := V.sub hx hy hr
theorem mul (hx : ev s x = .int .i64 a := by exact rfl) (hy : ev s y = .int .i64 b := by exact rfl) (hr : -9223372036854775808 ≤ a * b ∧ a * b ≤ 9223372036854775807 := by omega) : OpV P ⟨d, .binOp .mul t x y u, ty, pos, af, g⟩ s h (.int .i64 (a * b)) := V.mul hx hy hr
theorem quo (hx : ev s x = .int .i64 a := by exact rfl) (hy : ev s y = .int .i64 b := by exact rfl) (hr : 0 ≤ a ∧ a ≤ 9223372036854775807 ∧ 1 ≤ b := by omega) : OpV P ⟨d, .binOp .quo t x y u, ty, pos, af, g⟩ s h (.int .i64 (a / b)) := V.quo hx hy hr
theorem rem (hx : ev s x = .int k a := by exact rfl) (hy : ev s y = .int k b := by exact rfl) (hr : 0 ≤ a ∧ 1 ≤ b := by omega) : OpV P ⟨d, .binOp .rem t x y u, ty, pos, af, g⟩ s h (.int k (a % b)) := V.rem hx hy hr
theorem addw (hx : ev s x = .int k a := by exact rfl) (hy : ev s y = .int k b := by exact rfl) : OpV P ⟨d, .binOp .add t x y u, ty, pos, af, g⟩ s h (.int k (k.wrap (a + b))) := V.add_w hx hy
theorem subw (hx : ev s x = .int k a := by exact rfl) (hy : ev s y = .int k b := by exact rfl) : OpV P ⟨d, .binOp .sub t x y u, ty, pos, af, g⟩ s h (.int k (k.wrap (a - b))) := V.sub_w hx hy
theorem mulw (hx : ev s x = .int k a := by exact rfl) (hy : ev s y = .int k b := by exact rfl) : OpV P ⟨d, .binOp .mul t x y u, ty, pos, af, g⟩ s h (.int k (k.wrap (a * b))) := V.mul_w hx hy
theorem lss (hx : ev s x = .int k a := by exact rfl) (hy : ev s y = .int k b := by exact rfl) : OpV P ⟨d, .binOp .lss t x y u, ty, pos, af, g⟩ s h (.bool (decide (a < b))) := V.lss hx hy rfl
theorem leq (hx : ev s x = .int k a := by exact rfl) (hy : ev s y = .int k b := by exact rfl) : OpV P ⟨d, .binOp .leq t x y u, ty, pos, af, g⟩ s h (.bool (decide (a ≤ b))) := V.leq hx hy rfl
theorem gtr (hx : ev s x = .int k a := by exact rfl) (hy : ev s y = .int k b := by exact rfl) : OpV P ⟨d, .binOp .gtr t x y u, ty, pos, af, g⟩ s h (.bool (decide (b < a))) := V.gtr hx hy rfl
theorem geq (hx : ev s x = .int k a := by exact rfl) (hy : ev s y = .int k b := by exact rfl) : OpV P ⟨d, .binOp .geq t x y u, ty, pos, af, g⟩ s h (.bool (decide (b ≤ a))) := V.geq hx hy rfl
theorem eql (hx : ev s x = .int k a := by exact rfl) (hy : ev s y = .int k b := by exact rfl) : OpV P ⟨d, .binOp .eql t x y u, ty, pos, af, g⟩ s h (.bool (decide (a = b))) := V.eql hx hy rfl
theorem neq (hx : ev s x = .int k a := by exact rfl) (hy : ev s y = .int k b := by exact rfl) : OpV P ⟨d, .binOp .neq t x y u, ty, pos, af, g⟩ s h (.bool (decide (a ≠ b))) := V.neq hx hy rfl
/-- Between kinds of integers: the number that comes out is told. -/
theorem cv {k' : IntKind} (b : Int) (hu : inB P u = some k') (ht : inB P t = some k) (hb : k'.wrap a = b) (hx : ev s x = .int k a := by exact rfl) : OpV P ⟨d, .convert t u x, ty, pos, af, g⟩ s h (.int k' b) := V.convE hx hu ht hb
end
theorem mvB {b : Bool} (hx : ev s x = .bool b := by exact rfl) : OpV P ⟨d, .move x, ty, pos, af, g⟩ s h (.bool b) := V.mvB hx
theorem mvS {a : Option Addr} {n m : Nat} (hx : ev s x = .slice a n m := by exact rfl) : OpV P ⟨d, .move x, ty, pos, af, g⟩ s h (.slice a n m) := V.mvS hx
theorem mvP {a : Option Addr} (hx : ev s x = .pointer a := by exact rfl) : OpV P ⟨d, .move x, ty, pos, af, g⟩ s h (.pointer a) := V.mvP hx
theorem mvT {b : ByteArray} (hx : ev s x = .string b := by exact rfl) : OpV P ⟨d, .move x, ty, pos, af, g⟩ s h (.string b) := V.mvT hx
theorem mvM {r : Option Nat} (hx : ev s x = .map r := by exact rfl) : OpV P ⟨d, .move x, ty, pos, af, g⟩ s h (.map r) := V.mvM hx
theorem mvU {cs : Array Value} (hx : ev s x = .tuple cs := by exact rfl) : OpV P ⟨d, .move x, ty, pos, af, g⟩ s h (.tuple cs) := V.mvU hx
theorem mvA {cs : Array Value} (hx : ev s x = .agg cs := by exact rfl) : OpV P ⟨d, .move x, ty, pos, af, g⟩ s h (.agg cs) := V.mvA hx
theorem mvF {a b : Array Value} {ff : _} (hx : ev s x = .func ff a b := by exact rfl) : OpV P ⟨d, .move x, ty, pos, af, g⟩ s h (.func ff a b) := V.mvv hx
theorem asB {b : Bool} (hx : ev s x = .bool b := by exact rfl) : OpV P ⟨d, .assign x, ty, pos, af, g⟩ s h (.bool b) := V.asB hx
theorem asS {a : Option Addr} {n m : Nat} (hx : ev s x = .slice a n m := by exact rfl) : OpV P ⟨d, .assign x, ty, pos, af, g⟩ s h (.slice a n m) := V.asS hx
theorem asP {a : Option Addr} (hx : ev s x = .pointer a := by exact rfl) : OpV P ⟨d, .assign x, ty, pos, af, g⟩ s h (.pointer a) := V.asP hx
theorem asT {b : ByteArray} (hx : ev s x = .string b := by exact rfl) : OpV P ⟨d, .assign x, ty, pos, af, g⟩ s h (.string b) := V.asT hx
theorem asM {r : Option Nat} (hx : ev s x = .map r := by exact rfl) : OpV P ⟨d, .assign x, ty, pos, af, g⟩ s h (.map r) := V.asM hx
theorem asA {cs : Array Value} (hx : ev s x = .agg cs := by exact rfl) : OpV P ⟨d, .assign x, ty, pos, af, g⟩ s h (.agg cs) := V.asA hx
theorem asF {a b : Array Value} {ff : _} (hx : ev s x = .func ff a b := by exact rfl) : OpV P ⟨d, .assign x, ty, pos, af, g⟩ s h (.func ff a b) := V.asv hx
theorem pkt {b : Bool} (hc : ev s c = .bool true := by exact rfl) (hx : ev s x = .bool b := by exact rfl) : OpV P ⟨d, .pick c x y, ty, pos, af, g⟩ s h (.bool b) := V.pick_t hc hx
theorem pkf {b : Bool} (hc : ev s c = .bool false := by exact rfl) (hy : ev s y = .bool b := by exact rfl) : OpV P ⟨d, .pick c x y, ty, pos, af, g⟩ s h (.bool b) := V.pick_f hc hy
theorem not {b : Bool} (hx : ev s x = .bool b := by exact rfl) : OpV P ⟨d, .unOp .not t x, ty, pos, af, g⟩ s h (.bool (!b)) := V.not hx
theorem len {a : Option Addr} {n m : Nat} {e : TypeId} (ht : elB P t = some e) (hx : ev s x = .slice a n m := by exact rfl) : OpV P ⟨d, .call ⟨.builtin .len, #[x], #[t]⟩, ty, pos, af, g⟩ s h (.int .i64 n) := V.len hx ht
theorem cap {a : Option Addr} {n m : Nat} {e : TypeId} (ht : elB P t = some e) (hx : ev s x = .slice a n m := by exact rfl) : OpV P ⟨d, .call ⟨.builtin .cap, #[x], #[t]⟩, ty, pos, af, g⟩ s h (.int .i64 m) := V.cap hx ht
theorem nil {ad : Addr} (hx : ev s x = .pointer (some ad) := by exact rfl) : OpV P ⟨d, .nilCheck x, ty, pos, af, g⟩ s h (.pointer (some ad)) := V.nilCheck hx
theorem fa {b o off k : Nat} {ft : TypeId} {f : Nat} (hf : fdB P t f = some (off, ft, k + 1)) (hx : ev s x = .pointer (some ⟨b, o, none⟩) := by exact rfl) : OpV P ⟨d, .fieldAddr t x f, ty, pos, af, g⟩ s h (.pointer (some ⟨b, o + off, none⟩)) := V.fieldAddr hx hf
theorem fd {cs : Array Value} {f off : Nat} {ft : TypeId} {v : Value} (hf : fdB P t f = some (off, ft, 1)) (ha : agB P ft = some false) (hx : ev s x = .agg cs := by exact rfl) (hv : cs[off]? = some v := by exact rfl) : OpV P ⟨d, .field t x f, ty, pos, af, g⟩ s h v := V.field1 hx hf ha hv
/-- A slice's place q. -/
theorem ix (q : Nat) {b o n m k : Nat} {e : TypeId} {kk : IntKind} {i : Int} (ht : elB P t = some e) (hk : szB P e = some k) (hx : ev s x = .slice (some ⟨b, o, none⟩) n m := by exact rfl) (hy : ev s y = .int kk i := by exact rfl) (hi : i = (q : Int) ∧ q < n := by omega) :
    OpV P ⟨d, .indexAddr t x y, ty, pos, af, g⟩ s h (.pointer (some ⟨b, o + q * k, none⟩)) := by
  have := V.indexAddr (P := P) (h := h) (d := d) (ty := ty) (pos := pos) (af := af) (g := g) hx hy ht hk (by omega)
  have e : i.toNat = q := by omega
  rwa [e] at this
theorem ix1 (q : Nat) {b o n m : Nat} {e : TypeId} {kk : IntKind} {i : Int} (ht : elB P t = some e) (hk : szB P e = some 1) (hx : ev s x = .slice (some ⟨b, o, none⟩) n m := by exact rfl) (hy : ev s y = .int kk i := by exact rfl) (hi : i = (q : Int) ∧ q < n := by omega) :
    OpV P ⟨d, .indexAddr t x y, ty, pos, af, g⟩ s h (.pointer (some ⟨b, o + q, none⟩)) := by
  have := ix (P := P) (h := h) (d := d) (ty := ty) (pos := pos) (af := af) (g := g) q ht hk hx hy hi
  rwa [Nat.mul_one] at this
theorem ixa (q : Nat) {b o n : Nat} {e : TypeId} {kk : IntKind} {i : Int} (ht : arB P t = some (n, e)) (hk : szB P e = some 1) (hx : ev s x = .pointer (some ⟨b, o, none⟩) := by exact rfl) (hy : ev s y = .int kk i := by exact rfl) (hi : i = (q : Int) ∧ q < n := by omega) :
    OpV P ⟨d, .indexAddr t x y, ty, pos, af, g⟩ s h (.pointer (some ⟨b, o + q, none⟩)) := by
  have := V.indexA (P := P) (h := h) (d := d) (ty := ty) (pos := pos) (af := af) (g := g) hx hy ht hk (by omega)
  have e : i.toNat = q := by omega
  rwa [e] at this
/-- A load of a cell. -/
theorem ld {b o : Nat} {v : Value} (ha : agB P t = some false) (hc : cell h b o = some v) (hx : ev s x = .pointer (some ⟨b, o, none⟩) := by exact rfl) : OpV P ⟨d, .load t x, ty, pos, af, g⟩ s h v := V.load hx (load_one ha hc)
/-- A load of several. -/
theorem lda {b o : Nat} (vs : List Value) (ha : agB P t = some true) (hs : szB P t = some vs.length) (hc : ∀ j v, vs[j]? = some v → cell h b (o + j) = some v) (hx : ev s x = .pointer (some ⟨b, o, none⟩) := by exact rfl) : OpV P ⟨d, .load t x, ty, pos, af, g⟩ s h (.agg vs.toArray) := V.load hx (load_agg vs ha hs hc)
theorem ex {vs : Array Value} {i : Nat} {v : Value} (hx : ev s x = .tuple vs := by exact rfl) (hv : vs[i]? = some v := by exact rfl) : OpV P ⟨d, .extract x i, ty, pos, af, g⟩ s h v := V.extract hx hv
theorem pEq {a : Option Addr} {e : TypeId} (ht : ptB P t = some e) (hx : ev s x = .pointer a := by exact rfl) (hy : ev s y = .pointer none := by exact rfl) : OpV P ⟨d, .binOp .eql t x y u, ty, pos, af, g⟩ s h (.bool a.isNone) := V.ptrEqNil hx hy ht
theorem pNe {a : Option Addr} {e : TypeId} (ht : ptB P t = some e) (hx : ev s x = .pointer a := by exact rfl) (hy : ev s y = .pointer none := by exact rfl) : OpV P ⟨d, .binOp .neq t x y u, ty, pos, af, g⟩ s h (.bool (!a.isNone)) := V.ptrNeNil hx hy ht
theorem pEqS {a : Addr} {e : TypeId} (ht : ptB P t = some e) (hx : ev s x = .pointer (some a) := by exact rfl) (hy : ev s y = .pointer none := by exact rfl) : OpV P ⟨d, .binOp .eql t x y u, ty, pos, af, g⟩ s h (.bool false) := V.ptrEqNil hx hy ht
theorem pNeS {a : Addr} {e : TypeId} (ht : ptB P t = some e) (hx : ev s x = .pointer (some a) := by exact rfl) (hy : ev s y = .pointer none := by exact rfl) : OpV P ⟨d, .binOp .neq t x y u, ty, pos, af, g⟩ s h (.bool true) := V.ptrNeNil hx hy ht
theorem pEqN {e : TypeId} (ht : ptB P t = some e) (hx : ev s x = .pointer none := by exact rfl) (hy : ev s y = .pointer none := by exact rfl) : OpV P ⟨d, .binOp .eql t x y u, ty, pos, af, g⟩ s h (.bool true) := V.ptrEqNil hx hy ht
theorem pNeN {e : TypeId} (ht : ptB P t = some e) (hx : ev s x = .pointer none := by exact rfl) (hy : ev s y = .pointer none := by exact rfl) : OpV P ⟨d, .binOp .neq t x y u, ty, pos, af, g⟩ s h (.bool false) := V.ptrNeNil hx hy ht
theorem sEq {a : Option Addr} {n m : Nat} {e : TypeId} (ht : elB P t = some e) (hx : ev s x = .slice a n m := by exact rfl) (hy : ev s y = .slice none 0 0 := by exact rfl) : OpV P ⟨d, .binOp .eql t x y u, ty, pos, af, g⟩ s h (.bool a.isNone) := V.slEqNil hx hy ht
theorem sNe {a : Option Addr} {n m : Nat} {e : TypeId} (ht : elB P t = some e) (hx : ev s x = .slice a n m := by exact rfl) (hy : ev s y = .slice none 0 0 := by exact rfl) : OpV P ⟨d, .binOp .neq t x y u, ty, pos, af, g⟩ s h (.bool (!a.isNone)) := V.slNeNil hx hy ht
theorem bEq {a b : Bool} (ht : boB P t = true) (hx : ev s x = .bool a := by exact rfl) (hy : ev s y = .bool b := by exact rfl) : OpV P ⟨d, .binOp .eql t x y u, ty, pos, af, g⟩ s h (.bool (a == b)) := V.boEql hx hy ht rfl
theorem bNe {a b : Bool} (ht : boB P t = true) (hx : ev s x = .bool a := by exact rfl) (hy : ev s y = .bool b := by exact rfl) : OpV P ⟨d, .binOp .neq t x y u, ty, pos, af, g⟩ s h (.bool (a != b)) := V.boNeq hx hy ht rfl
theorem tEq {a b : ByteArray} (hx : ev s x = .string a := by exact rfl) (hy : ev s y = .string b := by exact rfl) : OpV P ⟨d, .binOp .eql t x y u, ty, pos, af, g⟩ s h (.bool (a.toList == b.toList)) := V.stEql hx hy rfl
theorem tNe {a b : ByteArray} (hx : ev s x = .string a := by exact rfl) (hy : ev s y = .string b := by exact rfl) : OpV P ⟨d, .binOp .neq t x y u, ty, pos, af, g⟩ s h (.bool (!(a.toList == b.toList))) := V.stNeq hx hy rfl
theorem bd {l : List (Nat × Operand)} {ps : List (Nat × Nat)} {z : Value} (cs : Array Value) (hz : zrB P t = some z) (hp : V.plB P t = some ps) (hf : Instr.fill (fun i => ps[i]?) z.cells (l.map fun p => (p.1, ev s p.2)) = some cs) : OpV P ⟨d, .build t l.toArray, ty, pos, af, g⟩ s h (.agg cs) := V.build hz hp hf
section
variable {a : Option Addr} {n m k : Nat} {e : TypeId} {lo hi mx : Operand} {k1 k2 k3 : IntKind} {l r q : Int}
/-- Parts of slices: the bounds are told as numbers that are not below 0. -/
theorem slh (i j : Nat) (ht : elB P t = some e) (hk : szB P e = some k) (hx : ev s x = .slice a n m := by exact rfl) (hlo : ev s lo = .int k1 l := by exact rfl) (hhi : ev s hi = .int k2 r := by exact rfl) (hb : l = (i : Int) ∧ r = (j : Int) ∧ i ≤ j ∧ j ≤ m := by omega) :
    OpV P ⟨d, .slice t x (some lo) (some hi) none, ty, pos, af, g⟩ s h (.slice (cutA a i m k) (j - i) (m - i)) := by
  obtain ⟨rfl, rfl, h1, h2⟩ := hb; exact V.slice_lh hx hlo hhi ht hk h1 h2
theorem sll (i : Nat) (ht : elB P t = some e) (hk : szB P e = some k) (hx : ev s x = .slice a n m := by exact rfl) (hlo : ev s lo = .int k1 l := by exact rfl) (hb : l = (i : Int) ∧ i ≤ n := by omega) :
    OpV P ⟨d, .slice t x (some lo) none none, ty, pos, af, g⟩ s h (.slice (cutA a i m k) (n - i) (m - i)) := by
  obtain ⟨rfl, h1⟩ := hb; exact V.slice_l hx hlo ht hk h1
theorem sl_h (j : Nat) (ht : elB P t = some e) (hk : szB P e = some k) (hx : ev s x = .slice a n m := by exact rfl) (hhi : ev s hi = .int k2 r := by exact rfl) (hb : r = (j : Int) ∧ j ≤ m := by omega) :
    OpV P ⟨d, .slice t x none (some hi) none, ty, pos, af, g⟩ s h (.slice a j m) := by
  obtain ⟨rfl, h1⟩ := hb; exact V.slice_h hx hhi ht hk h1
theorem slhm (j c' : Nat) (ht : elB P t = some e) (hk : szB P e = some k) (hx : ev s x = .slice a n m := by exact rfl) (hhi : ev s hi = .int k2 r := by exact rfl) (hmx : ev s mx = .int k3 q := by exact rfl) (hb : r = (j : Int) ∧ q = (c' : Int) ∧ j ≤ c' ∧ c' ≤ m := by omega) :
    OpV P ⟨d, .slice t x none (some hi) (some mx), ty, pos, af, g⟩ s h (.slice a j c') := by
  obtain ⟨rfl, rfl, h1, h2⟩ := hb; exact V.slice_hm hx hhi hmx ht hk h1 h2
theorem sllhm (i j c' : Nat) (ht : elB P t = some e) (hk : szB P e = some k) (hx : ev s x = .slice a n m := by exact rfl) (hlo : ev s lo = .int k1 l := by exact rfl) (hhi : ev s hi = .int k2 r := by exact rfl) (hmx : ev s mx = .int k3 q := by exact rfl) (hb : l = (i : Int) ∧ r = (j : Int) ∧ q = (c' : Int) ∧ i ≤ j ∧ j ≤ c' ∧ c' ≤ m := by omega) :
    OpV P ⟨d, .slice t x (some lo) (some hi) (some mx), ty, pos, af, g⟩ s h (.slice (cutA a i c' k) (j - i) (c' - i)) := by
  obtain ⟨rfl, rfl, rfl, h1, h2, h3⟩ := hb; exact V.slice_lhm hx hlo hhi hmx ht hk h1 h2 h3
end
end OpV
end Go.HL
namespace Go.HL
open Go
section
variable {P : Program} {n : Nat} {Q : Exit → Slots → Heap → Prop} {s : Slots} {h : Heap} {k : List Code} {p : Prop} [Decidable p]
theorem HS.cd {c : Operand} {x y : Code} (ht : p → HS P n (x :: k) Q s h) (hf : ¬ p → HS P n (y :: k) Q s h) (hc : ev s c = .bool (decide p) := by exact rfl) : HS P n (.cond c x y :: k) Q s h := HW.cond hc (fun e => ht (of_decide_eq_true e)) (fun e => hf (of_decide_eq_false e))
theorem HS.cdr {c : Operand} {x y : Code} (hf : ¬ p → HS P n (y :: k) Q s h) (ht : p → HS P n (x :: k) Q s h) (hc : ev s c = .bool (decide p) := by exact rfl) : HS P n (.cond c x y :: k) Q s h := HS.cd ht hf hc
variable {ops : Array Oper} {l : List Oper} {K : Slots → Heap → Prop} {d : Nat} {bar : Nat} {S : Bool → Heap → Prop} {fuel : Nat} {listed : Array Bool}
theorem HO.sd (ht : p → HO P n ops l K (upd s d (.bool true)) h) (hf : ¬ p → HO P n ops l K (upd s d (.bool false)) h) : HO P n ops l K (upd s d (.bool (decide p))) h := HO.spl (fun e => ht (of_decide_eq_true e)) (fun e => hf (of_decide_eq_false e))
theorem HQ.sd (ht : p → HQ P n ops l K (upd s d (.bool true)) h) (hf : ¬ p → HQ P n ops l K (upd s d (.bool false)) h) : HQ P n ops l K (upd s d (.bool (decide p))) h := HQ.spl (fun e => ht (of_decide_eq_true e)) (fun e => hf (of_decide_eq_false e))
theorem HT.sd (ht : p → HT P n ops l K (upd s d (.bool true)) h) (hf : ¬ p → HT P n ops l K (upd s d (.bool false)) h) : HT P n ops l K (upd s d (.bool (decide p))) h := HT.spl (fun e => ht (of_decide_eq_true e)) (fun e => hf (of_decide_eq_false e))
theorem HA.sd (ht : p → HA P n ops bar S K fuel listed (upd s d (.bool true)) h) (hf : ¬ p → HA P n ops bar S K fuel listed (upd s d (.bool false)) h) : HA P n ops bar S K fuel listed (upd s d (.bool (decide p))) h := HA.spl (fun e => ht (of_decide_eq_true e)) (fun e => hf (of_decide_eq_false e))
end
namespace OpV
variable {P : Program} {s : Slots} {h : Heap} {d : Option Tmp} {ty : TypeId} {pos : String} {af : Array Edge} {g : Option (Nat × Bool)} {x y c : Operand} {t u : TypeId}
theorem notd {p : Prop} [Decidable p] (hx : ev s x = .bool (decide p) := by exact rfl) : OpV P ⟨d, .unOp .not t x, ty, pos, af, g⟩ s h (.bool (decide (¬ p))) := by
  have := V.not (P := P) (h := h) (d := d) (ty := ty) (pos := pos) (af := af) (g := g) (t := t) hx
  rwa [← decide_not] at this
/-- A whole block. -/
theorem ldb {b : Nat} {e : TypeId} {cs : List Value} (ha : agB P t = some true) (hb : h[b]? = some (.cells cs.toArray e (0, 0))) (hs : szB P t = some cs.length) (hx : ev s x = .pointer (some ⟨b, 0, none⟩) := by exact rfl) : OpV P ⟨d, .load t x, ty, pos, af, g⟩ s h (.agg cs.toArray) := V.load hx (load_agg cs ha hs (cells0 hb))
theorem ldc {b o : Nat} {vs : List Value} (ha : agB P t = some true) (hc : ∀ j v, vs[j]? = some v → cell h b (o + j) = some v) (hs : szB P t = some vs.length) (hx : ev s x = .pointer (some ⟨b, o, none⟩) := by exact rfl) : OpV P ⟨d, .load t x, ty, pos, af, g⟩ s h (.agg vs.toArray) := V.load hx (load_agg vs ha hs hc)
/-- A cell out of several that are known. -/
theorem ldk {b o j : Nat} {cs : List Value} {v : Value} (ha : agB P t = some false) (hc : ∀ j v, cs[j]? = some v → cell h b (o + j) = some v) (hx : ev s x = .pointer (some ⟨b, o + j, none⟩) := by exact rfl) (hv : cs[j]? = some v := by exact rfl) : OpV P ⟨d, .load t x, ty, pos, af, g⟩ s h v := V.load hx (load_one ha (hc j v hv))
theorem ldx {b o : Nat} {e : TypeId} {cs : List Value} {v : Value} (ha : agB P t = some false) (hb : h[b]? = some (.cells cs.toArray e (0, 0))) (hx : ev s x = .pointer (some ⟨b, o, none⟩) := by exact rfl) (hv : cs[o]? = some v := by exact rfl) : OpV P ⟨d, .load t x, ty, pos, af, g⟩ s h v :=
  V.load hx (load_one ha (by rw [cell_of hb]; simpa using hv))
end OpV
end Go.HL
