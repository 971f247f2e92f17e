/- The rules of the logic in few words: code as a list of what is still to run. Conditions: those that each rule names. Memory as a list of separate items that may turn, and a list of items that are read alone. Conditions: those that each fact names. What values in memory read as: one relation for each type of plain data. Conditions: those that each fact names. Operations on the bits of numbers that are not below 0, as rules of the logic. Conditions: those that each rule names. More rules: slices of arrays, boxes as slices, rows of slices from what was made. Conditions: those that each rule names. append(b, make([]byte, k)...): as many noughts behind. Conditions: those that each rule names. Structs of integers alone: whether two of them are the same. Conditions: those that each rule names. Closed facts on the types of this translation, written by a program of this claim; each is decided by the kernel. Closed facts on the type api.Head, a struct of integers. Conditions: none. A slice that grows by what its elements lead to, and a slice that is a part of it from its head on. Conditions: those that each fact names. Maps as separate items: made, put into, looked up, deleted from, looped over. Conditions: those that each rule names. Bytes and strings: a slice of bytes that becomes a string, and one that is marked as a constant's. Conditions: those that each rule names. Strings as rows of bytes: their length, their order, maps by them; calls of function values. Conditions: those that each rule names. -/
import Derived.Test.YtndlpekckpdncaaGreatPkC1
import Derived.Lib.MakeNoZero
import Derived.Lib.AppendZerosOnto
import Derived.Laws.StructEq
import Derived.Test.YtndlpekckpdncaaGreatProg
import Derived.Laws.BytesString
import Derived.Laws.Strings
import Derived.Sort.Walk0
set_option maxRecDepth 100000
set_option maxHeartbeats 2000000
set_option linter.all false
namespace Go.HL
open Go
def HS (ro:Option Nat) (P:Program) (n:Nat):List Code→(Exit→Slots→Heap→Prop)→Slots→Heap→Prop
 | [],Q,s,h=>Q .normal s h
 | c::k,Q,s,h=>HW ro P n c (thn (HS ro P n k Q) Q) s h
section code
variable {ro:Option Nat} {P:Program} {n:Nat} {Q:Exit→Slots→Heap→Prop} {s:Slots} {h:Heap} {k:List Code}
theorem HS.seq {a b:Code} (hk:HS ro P n (a::b::k) Q s h):HS ro P n (.seq a b::k) Q s h:=
 HW.seq fun _ hK=>HW.mono hk fun e s h q=>by cases e<;>first | exact hK _ _ q | exact q
theorem HS.skip (hk:HS ro P n k Q s h):HS ro P n (.skip::k) Q s h:=HW.skip hk
theorem HS.end (hk:Q .normal s h):HS ro P n [] Q s h:=hk
theorem HS.ret (hq:Q .ret s h):HS ro P n (.ret::k) Q s h:=HW.ret hq
theorem HS.exit {id:Nat} (hq:Q (.exit id) s h):HS ro P n (.exit id::k) Q s h:=HW.exit hq
theorem HS.cond {c:Operand} {x y:Code} {t:Bool} (ht:t=true→HS ro P n (x::k) Q s h) (hf:t=false→HS ro P n (y::k) Q s h) (hc:ev s c=.bool t:=by exact rfl):HS ro P n (.cond c x y::k) Q s h:=HW.cond hc ht hf
theorem HS.ct {c:Operand} {x y:Code} (ht:HS ro P n (x::k) Q s h) (hc:ev s c=.bool true:=by exact rfl):HS ro P n (.cond c x y::k) Q s h:=HW.cond_t hc ht
theorem HS.cf {c:Operand} {x y:Code} (hf:HS ro P n (y::k) Q s h) (hc:ev s c=.bool false:=by exact rfl):HS ro P n (.cond c x y::k) Q s h:=HW.cond_f hc hf
theorem HS.join {c:Code} (J:Slots→Heap→Prop) (hx:HS ro P n [c] (thn J Q) s h) (hy:∀s h,J s h→HS ro P n k Q s h):HS ro P n (c::k) Q s h:=
 HW.mono hx fun e s h q=>by cases e<;>first | exact hy _ _ q | exact q
theorem HS.block {id:Nat} {c:Code} (hk:∀K:Slots→Heap→Prop,(∀s h,HS ro P n k Q s h→K s h)→HS ro P n [c] (inBlk id (thn K Q)) s h):HS ro P n (.block id c::k) Q s h:=
 HW.block (HW.mono (hk (HS ro P n k Q) fun _ _ q=>q) fun e s h q=>by cases e<;>exact q)
theorem HS.loop {c:Code} (I:Nat→Slots→Heap→Prop) (h0:∃m,I m s h)
  (round:∀m s h,I m s h→∀J:Slots→Heap→Prop,(∀m' s' h',I m' s' h'→m'<m→J s' h')→HS ro P n [c] (thn J Q) s h):HS ro P n (.loop c::k) Q s h:=
 HW.loopm I h0 fun m s h hI J hJ=>HW.mono (round m s h hI J hJ) fun e s h q=>by cases e<;>exact q
theorem HS.frame {l:List (Nat × Value)} (hs:Has s l) (hc:∀τ,HS ro P n k Q (frm l τ) h):HS ro P n k Q s h:=by
 have:=hc s;rwa [frm_of hs] at this
theorem HS.r {id:Nat} {l:List Oper} (hk:HO P n l.toArray l (fun s h=>HS ro P n k Q s h) s h) (hnd:ndr ro l=true:=by exact rfl):HS ro P n (.region id l.toArray false::k) Q s h:=HW.region hk hnd
theorem HS.q {id:Nat} {l:List Oper} (hk:HQ P n l.toArray l (fun s h=>HS ro P n k Q s h) s h) (hm:P.follows .mixedOrders=true) (hB:Region.lexB .any l.toArray=true:=by kernel_rfl) (hnd:ndr ro l=true:=by exact rfl):HS ro P n (.region id l.toArray true::k) Q s h:=HW.quiet hm hB hk hnd
theorem HS.t {id:Nat} {l:List Oper} (q:Nat) (hm:P.follows .mixedOrders=true) (hk:HT P n l.toArray (l.take q) (HO P n l.toArray (l.drop q) (fun s h=>HS ro P n k Q s h)) s h) (hB:Region.lexTailB .any l.toArray q=true:=by kernel_rfl) (hnd:ndr ro l=true:=by exact rfl):HS ro P n (.region id l.toArray true::k) Q s h:=HW.tail q hm hB hk hnd
theorem HS.a {id:Nat} {l:List Oper} (bar:Nat) (S:Bool→Heap→Prop) (hm:P.follows .mixedOrders=true) (hk:HA P n l.toArray bar S (fun s h=>HS ro P n k Q s h) l.length (Array.replicate l.length false) s h) (hnd:ndr ro l=true:=by exact rfl):HS ro P n (.region id l.toArray true::k) Q s h:=HW.any bar S hm hk hnd
end code
theorem HC.go {P:Program} {f:FuncId} {fn:Func} {c:Code} {args:List Value} {h:Heap} {R:Value→Heap→Prop} (hf:P.funcs[f]? = some fn) (n:Nat) (hc:HS none P n [c] (fin P fn R) (lst args) h) (hb:fn.body=some c:=by exact rfl)
  (hname : (fn.name == "runtime.NumGoroutine") = false := by kernel_rfl) (hn : fn.ntmps = n := by exact rfl) (hsz : Nat.ble args.length n = true := by exact rfl) : HC P f args.toArray h R :=
 HC.body hf hb hname n hn hsz (HW.mono hc fun e s h q=>by cases e<;>exact q)
section ops
variable {P:Program} {n:Nat} {ops:Array Oper} {l:List Oper} {o:Oper} {K:Slots→Heap→Prop} {s:Slots} {h:Heap}
theorem HO.w (d:Nat) {v:Value} (hv:OpV P o s h v) (hk:HO P n ops l K (upd s d v) h) (hw:wants ops o s=true:=by exact rfl) (hd:o.dst=some d:=by exact rfl) (hn:Nat.blt d n=true:=by exact rfl):HO P n ops (o::l) K s h:=HO.v hv hw d hd hn hk
theorem HO.x (d:Nat) (hk:HO P n ops l K (upd s d undef) h) (hw:wants ops o s=false:=by exact rfl) (hd:o.dst=some d:=by exact rfl) (hn:Nat.blt d n=true:=by exact rfl):HO P n ops (o::l) K s h:=HO.no hw d hd hn hk
theorem HQ.w (d:Nat) {v:Value} (hv:OpV P o s h v) (hk:HQ P n ops l K (upd s d v) h) (hw:wants ops o s=true:=by exact rfl) (hd:o.dst=some d:=by exact rfl) (hn:Nat.blt d n=true:=by exact rfl):HQ P n ops (o::l) K s h:=HQ.v hv hw d hd hn hk
theorem HQ.x (d:Nat) (hk:HQ P n ops l K (upd s d undef) h) (hw:wants ops o s=false:=by exact rfl) (hd:o.dst=some d:=by exact rfl) (hn:Nat.blt d n=true:=by exact rfl):HQ P n ops (o::l) K s h:=HQ.no hw d hd hn hk
theorem HT.w (d:Nat) {v:Value} (hv:OpV P o s h v) (hk:HT P n ops l K (upd s d v) h) (hw:wants ops o s=true:=by exact rfl) (hd:o.dst=some d:=by exact rfl) (hn:Nat.blt d n=true:=by exact rfl):HT P n ops (o::l) K s h:=HT.v hv hw d hd hn hk
theorem HT.x (d:Nat) (hk:HT P n ops l K (upd s d undef) h) (hw:wants ops o s=false:=by exact rfl) (hd:o.dst=some d:=by exact rfl) (hn:Nat.blt d n=true:=by exact rfl):HT P n ops (o::l) K s h:=HT.no hw d hd hn hk
theorem HO.k (d:Nat) {v:Value} {f:FuncId} {args:Array Value} (hv:OpC P o s h f args) (hc:HC P f args h (fun v' h'=>v'=v∧h'=h)) (hk:HO P n ops l K (upd s d v) h) (hw:wants ops o s=true:=by exact rfl) (hd:o.dst=some d:=by exact rfl) (hn:Nat.blt d n=true:=by exact rfl):HO P n ops (o::l) K s h:=
 HO.c hv hw d hd hn hc fun _ _ ⟨e1,e2⟩=>by subst e1 e2;exact hk
theorem HO.c' (d:Nat) {f:FuncId} {args:Array Value} {R:Value→Heap→Prop} (hv:OpC P o s h f args) (hc:HC P f args h R) (hk:∀v h',R v h'→HO P n ops l K (upd s d v) h') (hw:wants ops o s=true:=by exact rfl) (hd:o.dst=some d:=by exact rfl) (hn:Nat.blt d n=true:=by exact rfl):HO P n ops (o::l) K s h:=HO.c hv hw d hd hn hc hk
theorem HO.a' (d:Nat) {R:Value→Heap→Prop} (hv:OpA P o s h R) (hk:∀v h',R v h'→HO P n ops l K (upd s d v) h') (hw:wants ops o s=true:=by exact rfl) (hd:o.dst=some d:=by exact rfl) (hn:Nat.blt d n=true:=by exact rfl):HO P n ops (o::l) K s h:=HO.a hv hw d hd hn hk
theorem HO.ur' {R:Heap→Prop} (hv:OpUR P o s h R) (hk:∀h',R h'→HO P n ops l K s h') (hw:wants ops o s=true:=by exact rfl) (hd:o.dst=none:=by exact rfl):HO P n ops (o::l) K s h:=HO.ur hv hw hd hk
end ops
section any
variable {P:Program} {n:Nat} {ops:Array Oper} {o:Oper} {bar:Nat} {S:Bool→Heap→Prop} {K:Slots→Heap→Prop} {fuel:Nat} {listed:Array Bool} {s:Slots} {h:Heap}
theorem HA.e (hk:K s h) (hr:Region.ready .any ops listed=[]:=by kernel_rfl):HA P n ops bar S K fuel listed s h:=HA.done hr hk
theorem HA.g (i:Nat) (fl:Bool) (hi:ops[i]? = some o) (d:Nat) {v:Value} (hS:S fl h) (hv:∀h',OpV P o s h' v) (hk:HA P n ops bar S K fuel (listed.setIfInBounds i true) (upd s d v) h)
  (hs:Region.noSelect ops=true:=by kernel_rfl) (hf:Region.free .any ops listed i=true:=by kernel_rfl) (hr:(Region.ready .any ops listed).contains i=true:=by kernel_rfl) (hib:Nat.beq i bar=false:=by exact rfl)
  (hw:wants ops o s=true:=by exact rfl) (hd:o.dst=some d:=by exact rfl) (hn:Nat.blt d n=true:=by exact rfl) (hfl:listed.getD bar false=fl:=by kernel_rfl):HA P n ops bar S K (fuel+1) listed s h:=
 HA.p i hi hs hf hr hib hw d hd hn hfl hS hv hk
theorem HA.l (i:Nat) (fl:Bool) (hi:ops[i]? = some o) (d:Nat) {v:Value} (hS:S fl h) (hv:∀h',S fl h'→OpV P o s h' v) (hk:HA P n ops bar S K fuel (listed.setIfInBounds i true) (upd s d v) h)
  (hs:Region.noSelect ops=true:=by kernel_rfl) (hf:Region.free .any ops listed i=true:=by kernel_rfl) (hr:(Region.ready .any ops listed).contains i=true:=by kernel_rfl) (hib:Nat.beq i bar=false:=by exact rfl)
  (hw:wants ops o s=true:=by exact rfl) (hd:o.dst=some d:=by exact rfl) (hn:Nat.blt d n=true:=by exact rfl) (hfl:listed.getD bar false=fl:=by kernel_rfl) (hwt:Region.waitsFor .any ops bar i=true:=by kernel_rfl):HA P n ops bar S K (fuel+1) listed s h:=
 HA.v i hi hs hf hr hib hw d hd hn hfl hS hwt hv hk
theorem HA.lw (i:Nat) (fl:Bool) (hi:ops[i]? = some o) (d:Nat) {v:Value} (hS:S fl h) (hv:∀fl h',S fl h'→OpV P o s h' v) (hk:HA P n ops bar S K fuel (listed.setIfInBounds i true) (upd s d v) h)
  (hs:Region.noSelect ops=true:=by kernel_rfl) (hf:Region.free .any ops listed i=true:=by kernel_rfl) (hr:(Region.ready .any ops listed).contains i=true:=by kernel_rfl) (hib:Nat.beq i bar=false:=by exact rfl)
  (hw:wants ops o s=true:=by exact rfl) (hd:o.dst=some d:=by exact rfl) (hn:Nat.blt d n=true:=by exact rfl) (hfl:listed.getD bar false=fl:=by kernel_rfl):HA P n ops bar S K (fuel+1) listed s h:=
 HA.w i hi hs hf hr hib hw d hd hn hfl hS hv hk
theorem HA.x (i:Nat) (fl:Bool) (hi:ops[i]? = some o) (d:Nat) (hS:S fl h) (hk:HA P n ops bar S K fuel (listed.setIfInBounds i true) (upd s d undef) h)
  (hs:Region.noSelect ops=true:=by kernel_rfl) (hf:Region.free .any ops listed i=true:=by kernel_rfl) (hr:(Region.ready .any ops listed).contains i=true:=by kernel_rfl) (hib:Nat.beq i bar=false:=by exact rfl)
  (hw:wants ops o s=false:=by exact rfl) (hd:o.dst=some d:=by exact rfl) (hn:Nat.blt d n=true:=by exact rfl) (hfl:listed.getD bar false=fl:=by kernel_rfl):HA P n ops bar S K (fuel+1) listed s h:=
 HA.no i hi hs hf hr hib hw d hd hn hfl hS hk
theorem HA.o1 (i:Nat) (hk:Up P n ops bar S K fuel listed i s h) (hr:Region.ready .any ops listed=[i]:=by kernel_rfl):HA P n ops bar S K (fuel+1) listed s h:=HA.one i hr hk
variable {i:Nat}
theorem Up.k {v:Value} {f:FuncId} {args:Array Value} (fl:Bool) (hi:ops[i]? = some o) (d:Nat) (hv:OpC P o s h f args) (hc:HC P f args h (fun v' h'=>v'=v∧h'=h)) (hS:S fl h) (hk:HA P n ops bar S K fuel (listed.setIfInBounds i true) (upd s d v) h)
  (hw:wants ops o s=true:=by exact rfl) (hd:o.dst=some d:=by exact rfl) (hn:Nat.blt d n=true:=by exact rfl) (hfl:(listed.setIfInBounds i true).getD bar false=fl:=by kernel_rfl):Up P n ops bar S K fuel listed i s h:=
 Up.c hi hw d hd hn hv hc hfl fun _ _ ⟨e1,e2⟩=>by subst e1 e2;exact ⟨hS,hk⟩
theorem Up.c' {f:FuncId} {args:Array Value} {R:Value→Heap→Prop} (fl:Bool) (hi:ops[i]? = some o) (d:Nat) (hv:OpC P o s h f args) (hc:HC P f args h R) (hk:∀v h',R v h'→S fl h'∧HA P n ops bar S K fuel (listed.setIfInBounds i true) (upd s d v) h')
  (hw:wants ops o s=true:=by exact rfl) (hd:o.dst=some d:=by exact rfl) (hn:Nat.blt d n=true:=by exact rfl) (hfl:(listed.setIfInBounds i true).getD bar false=fl:=by kernel_rfl):Up P n ops bar S K fuel listed i s h:=Up.c hi hw d hd hn hv hc hfl hk
theorem Up.a' {R:Value→Heap→Prop} (fl:Bool) (hi:ops[i]? = some o) (d:Nat) (hv:OpA P o s h R) (hk:∀v h',R v h'→S fl h'∧HA P n ops bar S K fuel (listed.setIfInBounds i true) (upd s d v) h')
  (hw:wants ops o s=true:=by exact rfl) (hd:o.dst=some d:=by exact rfl) (hn:Nat.blt d n=true:=by exact rfl) (hfl:(listed.setIfInBounds i true).getD bar false=fl:=by kernel_rfl):Up P n ops bar S K fuel listed i s h:=Up.a hi hw d hd hn hv hfl hk
theorem Up.ur' {R:Heap→Prop} (fl:Bool) (hi:ops[i]? = some o) (hv:OpUR P o s h R) (hk:∀h',R h'→S fl h'∧HA P n ops bar S K fuel (listed.setIfInBounds i true) s h')
  (hw:wants ops o s=true:=by exact rfl) (hd:o.dst=none:=by exact rfl) (hfl:(listed.setIfInBounds i true).getD bar false=fl:=by kernel_rfl):Up P n ops bar S K fuel listed i s h:=Up.ur hi hw hd hv hfl hk
end any
namespace OpV
variable {P:Program} {s:Slots} {h:Heap} {d:Option Tmp} {ty:TypeId} {pos:String} {af:Array Edge} {g:Option (Nat × Bool)} {x y c:Operand} {t u:TypeId}
section
variable {k:IntKind} {a b:Int}
theorem mvI (hx:ev s x=.int k a:=by exact rfl):OpV P ⟨d,.move x,ty,pos,af,g⟩ s h (.int k a):=V.mvI hx
theorem asI (hx:ev s x=.int k a:=by exact rfl):OpV P ⟨d,.assign x,ty,pos,af,g⟩ s h (.int k a):=V.asI hx
theorem add (hx:ev s x=.int .i64 a:=by exact rfl) (hy:ev s y=.int .i64 b:=by exact rfl) (hr : -9223372036854775808≤a+b∧a+b≤9223372036854775807:=by omega):OpV P ⟨d,.binOp .add t x y u,ty,pos,af,g⟩ s h (.int .i64 (a+b)):=V.add hx hy hr
theorem sub (hx:ev s x=.int .i64 a:=by exact rfl) (hy:ev s y=.int .i64 b:=by exact rfl) (hr : -9223372036854775808≤a-b∧a-b≤9223372036854775807:=by omega):OpV P ⟨d,.binOp .sub t x y u,ty,pos,af,g⟩ s h (.int .i64 (a-b)):=V.sub hx hy hr
theorem mul (hx:ev s x=.int .i64 a:=by exact rfl) (hy:ev s y=.int .i64 b:=by exact rfl) (hr : -9223372036854775808≤a*b∧a*b≤9223372036854775807:=by omega):OpV P ⟨d,.binOp .mul t x y u,ty,pos,af,g⟩ s h (.int .i64 (a*b)):=V.mul hx hy hr
theorem quo (hx:ev s x=.int .i64 a:=by exact rfl) (hy:ev s y=.int .i64 b:=by exact rfl) (hr:0≤a∧a≤9223372036854775807∧1≤b:=by omega):OpV P ⟨d,.binOp .quo t x y u,ty,pos,af,g⟩ s h (.int .i64 (a / b)):=V.quo hx hy hr
theorem rem (hx:ev s x=.int k a:=by exact rfl) (hy:ev s y=.int k b:=by exact rfl) (hr:0≤a∧1≤b:=by omega):OpV P ⟨d,.binOp .rem t x y u,ty,pos,af,g⟩ s h (.int k (a%b)):=V.rem hx hy hr
theorem lss (hx:ev s x=.int k a:=by exact rfl) (hy:ev s y=.int k b:=by exact rfl):OpV P ⟨d,.binOp .lss t x y u,ty,pos,af,g⟩ s h (.bool (decide (a<b))):=V.lss hx hy rfl
theorem leq (hx:ev s x=.int k a:=by exact rfl) (hy:ev s y=.int k b:=by exact rfl):OpV P ⟨d,.binOp .leq t x y u,ty,pos,af,g⟩ s h (.bool (decide (a≤b))):=V.leq hx hy rfl
theorem gtr (hx:ev s x=.int k a:=by exact rfl) (hy:ev s y=.int k b:=by exact rfl):OpV P ⟨d,.binOp .gtr t x y u,ty,pos,af,g⟩ s h (.bool (decide (b<a))):=V.gtr hx hy rfl
theorem geq (hx:ev s x=.int k a:=by exact rfl) (hy:ev s y=.int k b:=by exact rfl):OpV P ⟨d,.binOp .geq t x y u,ty,pos,af,g⟩ s h (.bool (decide (b≤a))):=V.geq hx hy rfl
theorem eql (hx:ev s x=.int k a:=by exact rfl) (hy:ev s y=.int k b:=by exact rfl):OpV P ⟨d,.binOp .eql t x y u,ty,pos,af,g⟩ s h (.bool (decide (a=b))):=V.eql hx hy rfl
theorem neq (hx:ev s x=.int k a:=by exact rfl) (hy:ev s y=.int k b:=by exact rfl):OpV P ⟨d,.binOp .neq t x y u,ty,pos,af,g⟩ s h (.bool (decide (a≠b))):=V.neq hx hy rfl
end
theorem mvB {b:Bool} (hx:ev s x=.bool b:=by exact rfl):OpV P ⟨d,.move x,ty,pos,af,g⟩ s h (.bool b):=V.mvB hx
theorem mvS {a:Option Addr} {n m:Nat} (hx:ev s x=.slice a n m:=by exact rfl):OpV P ⟨d,.move x,ty,pos,af,g⟩ s h (.slice a n m):=V.mvS hx
theorem mvP {a:Option Addr} (hx:ev s x=.pointer a:=by exact rfl):OpV P ⟨d,.move x,ty,pos,af,g⟩ s h (.pointer a):=V.mvP hx
theorem mvT {b:ByteArray} (hx:ev s x=.string b:=by exact rfl):OpV P ⟨d,.move x,ty,pos,af,g⟩ s h (.string b):=V.mvT hx
theorem mvM {r:Option Nat} (hx:ev s x=.map r:=by exact rfl):OpV P ⟨d,.move x,ty,pos,af,g⟩ s h (.map r):=V.mvM hx
theorem mvU {cs:Array Value} (hx:ev s x=.tuple cs:=by exact rfl):OpV P ⟨d,.move x,ty,pos,af,g⟩ s h (.tuple cs):=V.mvU hx
theorem mvF {a b:Array Value} {ff:_} (hx:ev s x=.func ff a b:=by exact rfl):OpV P ⟨d,.move x,ty,pos,af,g⟩ s h (.func ff a b):=V.mvv hx
theorem asB {b:Bool} (hx:ev s x=.bool b:=by exact rfl):OpV P ⟨d,.assign x,ty,pos,af,g⟩ s h (.bool b):=V.asB hx
theorem asS {a:Option Addr} {n m:Nat} (hx:ev s x=.slice a n m:=by exact rfl):OpV P ⟨d,.assign x,ty,pos,af,g⟩ s h (.slice a n m):=V.asS hx
theorem asP {a:Option Addr} (hx:ev s x=.pointer a:=by exact rfl):OpV P ⟨d,.assign x,ty,pos,af,g⟩ s h (.pointer a):=V.asP hx
theorem asT {b:ByteArray} (hx:ev s x=.string b:=by exact rfl):OpV P ⟨d,.assign x,ty,pos,af,g⟩ s h (.string b):=V.asT hx
theorem asM {r:Option Nat} (hx:ev s x=.map r:=by exact rfl):OpV P ⟨d,.assign x,ty,pos,af,g⟩ s h (.map r):=V.asM hx
theorem asF {a b:Array Value} {ff:_} (hx:ev s x=.func ff a b:=by exact rfl):OpV P ⟨d,.assign x,ty,pos,af,g⟩ s h (.func ff a b):=V.asv hx
theorem pkt {b:Bool} (hc:ev s c=.bool true:=by exact rfl) (hx:ev s x=.bool b:=by exact rfl):OpV P ⟨d,.pick c x y,ty,pos,af,g⟩ s h (.bool b):=V.pick_t hc hx
theorem pkf {b:Bool} (hc:ev s c=.bool false:=by exact rfl) (hy:ev s y=.bool b:=by exact rfl):OpV P ⟨d,.pick c x y,ty,pos,af,g⟩ s h (.bool b):=V.pick_f hc hy
theorem not {b:Bool} (hx:ev s x=.bool b:=by exact rfl):OpV P ⟨d,.unOp .not t x,ty,pos,af,g⟩ s h (.bool (!b)):=V.not hx
theorem len {a:Option Addr} {n m:Nat} {e:TypeId} (ht:elB P t=some e) (hx:ev s x=.slice a n m:=by exact rfl):OpV P ⟨d,.call ⟨.builtin .len,#[x],#[t]⟩,ty,pos,af,g⟩ s h (.int .i64 n):=V.len hx ht
theorem nil {ad:Addr} (hx:ev s x=.pointer (some ad):=by exact rfl):OpV P ⟨d,.nilCheck x,ty,pos,af,g⟩ s h (.pointer (some ad)):=V.nilCheck hx
theorem fa {b o off k:Nat} {ft:TypeId} {f:Nat} (hf:fdB P t f=some (off,ft,k+1)) (hx:ev s x=.pointer (some ⟨b,o,none⟩):=by exact rfl):OpV P ⟨d,.fieldAddr t x f,ty,pos,af,g⟩ s h (.pointer (some ⟨b,o+off,none⟩)):=V.fieldAddr hx hf
theorem fd {cs:Array Value} {f off:Nat} {ft:TypeId} {v:Value} (hf:fdB P t f=some (off,ft,1)) (ha:agB P ft=some false) (hx:ev s x=.agg cs:=by exact rfl) (hv:cs[off]? = some v:=by exact rfl):OpV P ⟨d,.field t x f,ty,pos,af,g⟩ s h v:=V.field1 hx hf ha hv
theorem ix (q:Nat) {b o n m k:Nat} {e:TypeId} {kk:IntKind} {i:Int} (ht:elB P t=some e) (hk:szB P e=some k) (hx:ev s x=.slice (some ⟨b,o,none⟩) n m:=by exact rfl) (hy:ev s y=.int kk i:=by exact rfl) (hi:i=(q:Int)∧q<n:=by omega) :
  OpV P ⟨d,.indexAddr t x y,ty,pos,af,g⟩ s h (.pointer (some ⟨b,o+q*k,none⟩)):=by
 have:=V.indexAddr (P:=P) (h:=h) (d:=d) (ty:=ty) (pos:=pos) (af:=af) (g:=g) hx hy ht hk (by omega);have e:i.toNat=q:=by omega
 rwa [e] at this
theorem ix1 (q:Nat) {b o n m:Nat} {e:TypeId} {kk:IntKind} {i:Int} (ht:elB P t=some e) (hk:szB P e=some 1) (hx:ev s x=.slice (some ⟨b,o,none⟩) n m:=by exact rfl) (hy:ev s y=.int kk i:=by exact rfl) (hi:i=(q:Int)∧q<n:=by omega) :
  OpV P ⟨d,.indexAddr t x y,ty,pos,af,g⟩ s h (.pointer (some ⟨b,o+q,none⟩)):=by
 have:=ix (P:=P) (h:=h) (d:=d) (ty:=ty) (pos:=pos) (af:=af) (g:=g) q ht hk hx hy hi;rwa [Nat.mul_one] at this
theorem ixa (q:Nat) {b o n:Nat} {e:TypeId} {kk:IntKind} {i:Int} (ht:arB P t=some (n,e)) (hk:szB P e=some 1) (hx:ev s x=.pointer (some ⟨b,o,none⟩):=by exact rfl) (hy:ev s y=.int kk i:=by exact rfl) (hi:i=(q:Int)∧q<n:=by omega) :
  OpV P ⟨d,.indexAddr t x y,ty,pos,af,g⟩ s h (.pointer (some ⟨b,o+q,none⟩)):=by
 have:=V.indexA (P:=P) (h:=h) (d:=d) (ty:=ty) (pos:=pos) (af:=af) (g:=g) hx hy ht hk (by omega);have e:i.toNat=q:=by omega
 rwa [e] at this
theorem ld {b o:Nat} {v:Value} (ha:agB P t=some false) (hc:cell h b o=some v) (hx:ev s x=.pointer (some ⟨b,o,none⟩):=by exact rfl):OpV P ⟨d,.load t x,ty,pos,af,g⟩ s h v:=V.load hx (load_one ha hc)
theorem ex {vs:Array Value} {i:Nat} {v:Value} (hx:ev s x=.tuple vs:=by exact rfl) (hv:vs[i]? = some v:=by exact rfl):OpV P ⟨d,.extract x i,ty,pos,af,g⟩ s h v:=V.extract hx hv
theorem pEq {a:Option Addr} {e:TypeId} (ht:ptB P t=some e) (hx:ev s x=.pointer a:=by exact rfl) (hy:ev s y=.pointer none:=by exact rfl):OpV P ⟨d,.binOp .eql t x y u,ty,pos,af,g⟩ s h (.bool a.isNone):=V.ptrEqNil hx hy ht
theorem pNe {a:Option Addr} {e:TypeId} (ht:ptB P t=some e) (hx:ev s x=.pointer a:=by exact rfl) (hy:ev s y=.pointer none:=by exact rfl):OpV P ⟨d,.binOp .neq t x y u,ty,pos,af,g⟩ s h (.bool (!a.isNone)):=V.ptrNeNil hx hy ht
theorem pEqS {a:Addr} {e:TypeId} (ht:ptB P t=some e) (hx:ev s x=.pointer (some a):=by exact rfl) (hy:ev s y=.pointer none:=by exact rfl):OpV P ⟨d,.binOp .eql t x y u,ty,pos,af,g⟩ s h (.bool false):=V.ptrEqNil hx hy ht
theorem pNeS {a:Addr} {e:TypeId} (ht:ptB P t=some e) (hx:ev s x=.pointer (some a):=by exact rfl) (hy:ev s y=.pointer none:=by exact rfl):OpV P ⟨d,.binOp .neq t x y u,ty,pos,af,g⟩ s h (.bool true):=V.ptrNeNil hx hy ht
theorem pEqN {e:TypeId} (ht:ptB P t=some e) (hx:ev s x=.pointer none:=by exact rfl) (hy:ev s y=.pointer none:=by exact rfl):OpV P ⟨d,.binOp .eql t x y u,ty,pos,af,g⟩ s h (.bool true):=V.ptrEqNil hx hy ht
theorem sEq {a:Option Addr} {n m:Nat} {e:TypeId} (ht:elB P t=some e) (hx:ev s x=.slice a n m:=by exact rfl) (hy:ev s y=.slice none 0 0:=by exact rfl):OpV P ⟨d,.binOp .eql t x y u,ty,pos,af,g⟩ s h (.bool a.isNone):=V.slEqNil hx hy ht
theorem bNe {a b:Bool} (ht:boB P t=true) (hx:ev s x=.bool a:=by exact rfl) (hy:ev s y=.bool b:=by exact rfl):OpV P ⟨d,.binOp .neq t x y u,ty,pos,af,g⟩ s h (.bool (a != b)):=V.boNeq hx hy ht rfl
theorem tEq {a b:ByteArray} (hx:ev s x=.string a:=by exact rfl) (hy:ev s y=.string b:=by exact rfl):OpV P ⟨d,.binOp .eql t x y u,ty,pos,af,g⟩ s h (.bool (a.toList == b.toList)):=V.stEql hx hy rfl
theorem bd {l:List (Nat × Operand)} {ps:List (Nat × Nat)} {z:Value} (cs:Array Value) (hz:zrB P t=some z) (hp:V.plB P t=some ps) (hf:Instr.fill (fun i=>ps[i]?) z.cells (l.map fun p=>(p.1,ev s p.2))=some cs):OpV P ⟨d,.build t l.toArray,ty,pos,af,g⟩ s h (.agg cs):=V.build hz hp hf
section
variable {a:Option Addr} {n m k:Nat} {e:TypeId} {lo hi mx:Operand} {k1 k2 k3:IntKind} {l r q:Int}
theorem slh (i j:Nat) (ht:elB P t=some e) (hk:szB P e=some k) (hx:ev s x=.slice a n m:=by exact rfl) (hlo:ev s lo=.int k1 l:=by exact rfl) (hhi:ev s hi=.int k2 r:=by exact rfl) (hb:l=(i:Int)∧r=(j:Int)∧i≤j∧j≤m:=by omega) :
  OpV P ⟨d,.slice t x (some lo) (some hi) none,ty,pos,af,g⟩ s h (.slice (cutA a i m k) (j-i) (m-i)):=by
 obtain ⟨rfl,rfl,h1,h2⟩:=hb;exact V.slice_lh hx hlo hhi ht hk h1 h2
theorem sll (i:Nat) (ht:elB P t=some e) (hk:szB P e=some k) (hx:ev s x=.slice a n m:=by exact rfl) (hlo:ev s lo=.int k1 l:=by exact rfl) (hb:l=(i:Int)∧i≤n:=by omega) :
  OpV P ⟨d,.slice t x (some lo) none none,ty,pos,af,g⟩ s h (.slice (cutA a i m k) (n-i) (m-i)):=by
 obtain ⟨rfl,h1⟩:=hb;exact V.slice_l hx hlo ht hk h1
theorem sl_h (j:Nat) (ht:elB P t=some e) (hk:szB P e=some k) (hx:ev s x=.slice a n m:=by exact rfl) (hhi:ev s hi=.int k2 r:=by exact rfl) (hb:r=(j:Int)∧j≤m:=by omega) :
  OpV P ⟨d,.slice t x none (some hi) none,ty,pos,af,g⟩ s h (.slice a j m):=by
 obtain ⟨rfl,h1⟩:=hb;exact V.slice_h hx hhi ht hk h1
theorem slhm (j c':Nat) (ht:elB P t=some e) (hk:szB P e=some k) (hx:ev s x=.slice a n m:=by exact rfl) (hhi:ev s hi=.int k2 r:=by exact rfl) (hmx:ev s mx=.int k3 q:=by exact rfl) (hb:r=(j:Int)∧q=(c':Int)∧j≤c'∧c'≤m:=by omega) :
  OpV P ⟨d,.slice t x none (some hi) (some mx),ty,pos,af,g⟩ s h (.slice a j c'):=by
 obtain ⟨rfl,rfl,h1,h2⟩:=hb;exact V.slice_hm hx hhi hmx ht hk h1 h2
theorem sllhm (i j c':Nat) (ht:elB P t=some e) (hk:szB P e=some k) (hx:ev s x=.slice a n m:=by exact rfl) (hlo:ev s lo=.int k1 l:=by exact rfl) (hhi:ev s hi=.int k2 r:=by exact rfl) (hmx:ev s mx=.int k3 q:=by exact rfl) (hb:l=(i:Int)∧r=(j:Int)∧q=(c':Int)∧i≤j∧j≤c'∧c'≤m:=by omega) :
  OpV P ⟨d,.slice t x (some lo) (some hi) (some mx),ty,pos,af,g⟩ s h (.slice (cutA a i c' k) (j-i) (c'-i)):=by
 obtain ⟨rfl,rfl,rfl,h1,h2,h3⟩:=hb;exact V.slice_lhm hx hlo hhi hmx ht hk h1 h2 h3
end
end OpV
open Go
section
variable {P:Program} {n:Nat} {Q:Exit→Slots→Heap→Prop} {s:Slots} {h:Heap} {k:List Code} {p:Prop} [Decidable p]
theorem HS.cd {ro:Option Nat} {c:Operand} {x y:Code} (ht:p→HS ro P n (x::k) Q s h) (hf:¬p→HS ro P n (y::k) Q s h) (hc:ev s c=.bool (decide p):=by exact rfl):HS ro P n (.cond c x y::k) Q s h:=HW.cond hc (fun e=>ht (of_decide_eq_true e)) (fun e=>hf (of_decide_eq_false e))
theorem HS.cdr {ro:Option Nat} {c:Operand} {x y:Code} (hf:¬p→HS ro P n (y::k) Q s h) (ht:p→HS ro P n (x::k) Q s h) (hc:ev s c=.bool (decide p):=by exact rfl):HS ro P n (.cond c x y::k) Q s h:=HS.cd ht hf hc
variable {ops:Array Oper} {l:List Oper} {K:Slots→Heap→Prop} {d:Nat} {bar:Nat} {S:Bool→Heap→Prop} {fuel:Nat} {listed:Array Bool}
theorem HO.sd (ht:p→HO P n ops l K (upd s d (.bool true)) h) (hf:¬p→HO P n ops l K (upd s d (.bool false)) h):HO P n ops l K (upd s d (.bool (decide p))) h:=HO.spl (fun e=>ht (of_decide_eq_true e)) (fun e=>hf (of_decide_eq_false e))
theorem HQ.sd (ht:p→HQ P n ops l K (upd s d (.bool true)) h) (hf:¬p→HQ P n ops l K (upd s d (.bool false)) h):HQ P n ops l K (upd s d (.bool (decide p))) h:=HQ.spl (fun e=>ht (of_decide_eq_true e)) (fun e=>hf (of_decide_eq_false e))
theorem HA.sd (ht:p→HA P n ops bar S K fuel listed (upd s d (.bool true)) h) (hf:¬p→HA P n ops bar S K fuel listed (upd s d (.bool false)) h):HA P n ops bar S K fuel listed (upd s d (.bool (decide p))) h:=HA.spl (fun e=>ht (of_decide_eq_true e)) (fun e=>hf (of_decide_eq_false e))
end
namespace OpV
variable {P:Program} {s:Slots} {h:Heap} {d:Option Tmp} {ty:TypeId} {pos:String} {af:Array Edge} {g:Option (Nat × Bool)} {x y c:Operand} {t u:TypeId}
theorem notd {p:Prop} [Decidable p] (hx:ev s x=.bool (decide p):=by exact rfl):OpV P ⟨d,.unOp .not t x,ty,pos,af,g⟩ s h (.bool (decide (¬p))):=by
 have:=V.not (P:=P) (h:=h) (d:=d) (ty:=ty) (pos:=pos) (af:=af) (g:=g) (t:=t) hx;rwa [←decide_not] at this
theorem ldb {b:Nat} {e:TypeId} {cs:List Value} (ha:agB P t=some true) (hb:h[b]? = some (.cells cs.toArray e (0,0))) (hs:szB P t=some cs.length) (hx:ev s x=.pointer (some ⟨b,0,none⟩):=by exact rfl):OpV P ⟨d,.load t x,ty,pos,af,g⟩ s h (.agg cs.toArray):=V.load hx (load_agg cs ha hs (cells0 hb))
theorem ldc {b o:Nat} {vs:List Value} (ha:agB P t=some true) (hc:∀j v,vs[j]? = some v→cell h b (o+j)=some v) (hs:szB P t=some vs.length) (hx:ev s x=.pointer (some ⟨b,o,none⟩):=by exact rfl):OpV P ⟨d,.load t x,ty,pos,af,g⟩ s h (.agg vs.toArray):=V.load hx (load_agg vs ha hs hc)
theorem ldx {b o:Nat} {e:TypeId} {cs:List Value} {v:Value} (ha:agB P t=some false) (hb:h[b]? = some (.cells cs.toArray e (0,0))) (hx:ev s x=.pointer (some ⟨b,o,none⟩):=by exact rfl) (hv:cs[o]? = some v:=by exact rfl):OpV P ⟨d,.load t x,ty,pos,af,g⟩ s h v:=
 V.load hx (load_one ha (by rw [cell_of hb];simpa using hv))
end OpV
section
variable {P:Program} {n d:Nat} {ops:Array Oper} {l:List Oper} {s:Slots} {h:Heap} {op:Op} {ty:TypeId} {pos:String} {af:Array Edge} {g:Option (Nat × Bool)} {v:Value}
theorem HO.z {K:Slots→Heap→Prop} (hv:OpV P ⟨some d,op,ty,pos,af,g⟩ s h v) (hk:HO P n ops l K (upd s d v) h) (hw:wants ops ⟨some d,op,ty,pos,af,g⟩ s=true:=by exact rfl) (hn:Nat.blt d n=true:=by exact rfl):HO P n ops (⟨some d,op,ty,pos,af,g⟩::l) K s h:=HO.w d hv hk hw rfl hn
theorem HO.y {K:Slots→Heap→Prop} (hk:HO P n ops l K (upd s d undef) h) (hw:wants ops ⟨some d,op,ty,pos,af,g⟩ s=false:=by exact rfl) (hn:Nat.blt d n=true:=by exact rfl):HO P n ops (⟨some d,op,ty,pos,af,g⟩::l) K s h:=HO.x d hk hw rfl hn
theorem HQ.z {K:Slots→Heap→Prop} (hv:OpV P ⟨some d,op,ty,pos,af,g⟩ s h v) (hk:HQ P n ops l K (upd s d v) h) (hw:wants ops ⟨some d,op,ty,pos,af,g⟩ s=true:=by exact rfl) (hn:Nat.blt d n=true:=by exact rfl):HQ P n ops (⟨some d,op,ty,pos,af,g⟩::l) K s h:=HQ.w d hv hk hw rfl hn
theorem HQ.y {K:Slots→Heap→Prop} (hk:HQ P n ops l K (upd s d undef) h) (hw:wants ops ⟨some d,op,ty,pos,af,g⟩ s=false:=by exact rfl) (hn:Nat.blt d n=true:=by exact rfl):HQ P n ops (⟨some d,op,ty,pos,af,g⟩::l) K s h:=HQ.x d hk hw rfl hn
theorem HT.z {K:Slots→Heap→Prop} (hv:OpV P ⟨some d,op,ty,pos,af,g⟩ s h v) (hk:HT P n ops l K (upd s d v) h) (hw:wants ops ⟨some d,op,ty,pos,af,g⟩ s=true:=by exact rfl) (hn:Nat.blt d n=true:=by exact rfl):HT P n ops (⟨some d,op,ty,pos,af,g⟩::l) K s h:=HT.w d hv hk hw rfl hn
theorem HT.y {K:Slots→Heap→Prop} (hk:HT P n ops l K (upd s d undef) h) (hw:wants ops ⟨some d,op,ty,pos,af,g⟩ s=false:=by exact rfl) (hn:Nat.blt d n=true:=by exact rfl):HT P n ops (⟨some d,op,ty,pos,af,g⟩::l) K s h:=HT.x d hk hw rfl hn
end
theorem HS.s {ro:Option Nat} {P:Program} {n id:Nat} {l:List Oper} {b:Code} {k:List Code} {Q:Exit→Slots→Heap→Prop} {s:Slots} {h:Heap} (hk:HO P n l.toArray l (fun s h=>HS ro P n (b::k) Q s h) s h) (hnd:ndr ro l=true:=by exact rfl):HS ro P n (.seq (.region id l.toArray false) b::k) Q s h:=.seq (.r hk hnd)
open Go
structure Itm where
 p:Heap→Prop
 F:Nat→Prop
 st:∀(G:Nat→Prop) (h h':Heap),Chg G h h'→(∀j,F j→¬G j)→p h→p h'
@[reducible] def boxI (b:Nat) (t:TypeId) (cs:List Value):Itm:=⟨fun h=>h[b]? = some (.cells cs.toArray t (0,0)),fun j=>j=b,fun _ _ _ c d hp=>c.block hp (d b rfl)⟩
@[reducible] def capI (k:Nat) (e:TypeId) (x:SV) (xs:List Value):Itm:=⟨fun h=>Cap h k e (sv x) xs,blkC (sv x),fun _ _ _ c d hp=>hp.chg c d⟩
@[reducible] def rowI (k:Nat) (x:SV) (xs:List Value):Itm:=⟨fun h=>Sl h k (sv x) xs,blk (sv x),fun _ _ _ c d hp=>Sl.chg c hp d⟩
@[reducible] def mapI {κ:Type} (kv:κ→Value) (r:Nat) (l:List (κ × Value)):Itm:=⟨fun h=>MapT kv h r l,fun j=>j=r,fun _ _ _ c d hp=>hp.chg c (d r rfl)⟩
@[reducible] def anyI (F:Nat→Prop) (p:Heap→Prop) (st:∀(G:Nat→Prop) (h h':Heap),Chg G h h'→(∀j,F j→¬G j)→p h→p h'):Itm:=⟨p,F,st⟩
structure Hp (h0:Heap) (D:Nat→Prop) (M R:List Itm) (h:Heap):Prop where
 chg:Chg D h0 h
 m:∀i∈M,i.p h∧∀j,i.F j→j<h.size∧(D j∨h0.size≤j)
 r:∀i∈R,i.p h∧∀j,i.F j→j<h.size
 mm:M.Pairwise fun a b=>∀j,a.F j→¬b.F j
 mr:∀a∈M,∀b∈R,∀j,a.F j→¬b.F j
def Nw (h h':Heap) (j:Nat):Prop:=h.size≤j∧j<h'.size
section
variable {h0 h h':Heap} {D G:Nat→Prop} {M R:List Itm} {a b c d e f:Itm}
theorem Hp.nil (h:Heap) (D:Nat→Prop):Hp h D [] [] h:=⟨Chg.refl _ _,by simp,by simp,.nil,by simp⟩
theorem Hp.old (ok:Hp h0 D [] R h) (it:Itm) (hp:it.p h) (hF:∀j,it.F j→j<h.size):Hp h0 D [] (it::R) h:=
 ⟨ok.chg,by simp,fun i hi=>by
  rcases List.mem_cons.1 hi with rfl | hi
  ·exact ⟨hp,hF⟩
  ·exact ok.r i hi,.nil,by simp⟩
theorem Hp.obj (ok:Hp h0 D M R h) (it:Itm) (hp:it.p h) (hF:∀j,it.F j→j<h.size∧D j) (hm:∀b∈M,∀j,it.F j→¬b.F j) (hr:∀b∈R,∀j,it.F j→¬b.F j):Hp h0 D (it::M) R h:=
 ⟨ok.chg,fun i hi=>by
  rcases List.mem_cons.1 hi with rfl | hi
  ·exact ⟨hp,fun j hj=>⟨(hF j hj).1,.inl (hF j hj).2⟩⟩
  ·exact ok.m i hi,ok.r,List.pairwise_cons.2 ⟨hm,ok.mm⟩,fun a ha b hb=>by
  rcases List.mem_cons.1 ha with rfl | ha
  ·exact hr b hb
  ·exact ok.mr a ha b hb⟩
theorem Hp.ext (ok:Hp h0 D M R h) (x:Ext h h'):Hp h0 D M R h':=
 ⟨ok.chg.trans' x (fun _ _ f=>f.elim),fun i hi=>⟨i.st _ _ _ x (fun _ _ f=>f) (ok.m i hi).1,fun j hj=>⟨Nat.lt_of_lt_of_le ((ok.m i hi).2 j hj).1 x.size,((ok.m i hi).2 j hj).2⟩⟩,
  fun i hi=>⟨i.st _ _ _ x (fun _ _ f=>f) (ok.r i hi).1,fun j hj=>Nat.lt_of_lt_of_le ((ok.r i hi).2 j hj) x.size⟩,ok.mm,ok.mr⟩
theorem Hp.newM (ok:Hp h0 D M R h) (x:Ext h h') (it:Itm) (hp:it.p h') (hF:∀j,it.F j→h.size≤j∧j<h'.size):Hp h0 D (it::M) R h':=
 have o:=ok.ext x
 ⟨o.chg,fun i hi=>by
  rcases List.mem_cons.1 hi with rfl | hi
  ·exact ⟨hp,fun j hj=>⟨(hF j hj).2,.inr (Nat.le_trans ok.chg.size (hF j hj).1)⟩⟩
  ·exact o.m i hi,o.r,List.pairwise_cons.2 ⟨fun b hb j hj hb2=>by
   have:=((ok.m b hb).2 j hb2).1;have:=(hF j hj).1;omega,o.mm⟩,fun a ha b hb j hj hb2=>by
  rcases List.mem_cons.1 ha with rfl | ha
  ·have:=(ok.r b hb).2 j hb2;have:=(hF j hj).1;omega
  ·exact o.mr a ha b hb j hj hb2⟩
theorem Hp.newR (ok:Hp h0 D M R h) (x:Ext h h') (it:Itm) (hp:it.p h') (hF:∀j,it.F j→h.size≤j∧j<h'.size):Hp h0 D M (it::R) h':=
 have o:=ok.ext x
 ⟨o.chg,o.m,fun i hi=>by
  rcases List.mem_cons.1 hi with rfl | hi
  ·exact ⟨hp,fun j hj=>(hF j hj).2⟩
  ·exact o.r i hi,o.mm,fun a ha b hb j hj hb2=>by
  rcases List.mem_cons.1 hb with rfl | hb
  ·have:=((ok.m a ha).2 j hj).1;have:=(hF j hb2).1;omega
  ·exact o.mr a ha b hb j hj hb2⟩
theorem Hp.upd (ok:Hp h0 D (a::M) R h) (c:Chg G h h') (hG:∀j,G j→a.F j) (it:Itm) (hp:it.p h') (hF:∀j,it.F j→a.F j∨(h.size≤j∧j<h'.size)):Hp h0 D (it::M) R h':=by
 have hmm:=List.pairwise_cons.1 ok.mm;refine ⟨ok.chg.trans' c (fun j hj g=>?_),fun i hi=>?_,fun i hi=>?_,List.pairwise_cons.2 ⟨fun b hb j hj hb2=>?_,hmm.2⟩,fun x hx b hb j hj hb2=>?_⟩
 ·rcases ((ok.m a List.mem_cons_self).2 j (hG j g)).2 with h1 | h1
  ·exact h1
  ·omega
 ·rcases List.mem_cons.1 hi with rfl | hi
  ·refine ⟨hp,fun j hj=>?_⟩;rcases hF j hj with h1 | h1
   ·have h2:=(ok.m a List.mem_cons_self).2 j h1;exact ⟨Nat.lt_of_lt_of_le h2.1 c.size,h2.2⟩
   ·exact ⟨h1.2,.inr (Nat.le_trans ok.chg.size h1.1)⟩
  ·have h1:=ok.m i (List.mem_cons_of_mem _ hi);exact ⟨i.st _ _ _ c (fun j hj g=>hmm.1 i hi j (hG j g) hj) h1.1,fun j hj=>⟨Nat.lt_of_lt_of_le (h1.2 j hj).1 c.size,(h1.2 j hj).2⟩⟩
 ·have h1:=ok.r i hi;exact ⟨i.st _ _ _ c (fun j hj g=>ok.mr a List.mem_cons_self i hi j (hG j g) hj) h1.1,fun j hj=>Nat.lt_of_lt_of_le (h1.2 j hj) c.size⟩
 ·rcases hF j hj with h1 | h1
  ·exact hmm.1 b hb j h1 hb2
  ·have:=((ok.m b (List.mem_cons_of_mem _ hb)).2 j hb2).1;omega
 ·rcases List.mem_cons.1 hx with rfl | hx
  ·rcases hF j hj with h1 | h1
   ·exact ok.mr a List.mem_cons_self b hb j h1 hb2
   ·have:=(ok.r b hb).2 j hb2;omega
  ·exact ok.mr x (List.mem_cons_of_mem _ hx) b hb j hj hb2
theorem Hp.re (ok:Hp h0 D (a::M) R h) (it:Itm) (hp:it.p h) (hF:∀j,it.F j→a.F j):Hp h0 D (it::M) R h:=ok.upd (G:=none_) (Chg.refl _ _) (fun _ f=>f.elim) it hp (fun j hj=>.inl (hF j hj))
theorem Hp.perm {M':List Itm} (ok:Hp h0 D M R h) (p:M'.Perm M):Hp h0 D M' R h:=
 ⟨ok.chg,fun i hi=>ok.m i (p.mem_iff.1 hi),ok.r,(p.pairwise_iff (fun hxy j h1 h2=>hxy j h2 h1)).2 ok.mm,fun a ha=>ok.mr a (p.mem_iff.1 ha)⟩
theorem Hp.tM (ok:Hp h0 D (a::M) R h):Hp h0 D M R h:=
 ⟨ok.chg,fun i hi=>ok.m i (List.mem_cons_of_mem _ hi),ok.r,(List.pairwise_cons.1 ok.mm).2,fun x hx=>ok.mr x (List.mem_cons_of_mem _ hx)⟩
theorem Hp.tR (ok:Hp h0 D M (a::R) h):Hp h0 D M R h:=
 ⟨ok.chg,ok.m,fun i hi=>ok.r i (List.mem_cons_of_mem _ hi),ok.mm,fun x hx b hb=>ok.mr x hx b (List.mem_cons_of_mem _ hb)⟩
theorem Hp.sub {R':List Itm} (ok:Hp h0 D M R h) (hs:∀i∈R',i∈R):Hp h0 D M R' h:=⟨ok.chg,ok.m,fun i hi=>ok.r i (hs i hi),ok.mm,fun x hx b hb=>ok.mr x hx b (hs b hb)⟩
theorem Hp.k0 (ok:Hp h0 D M R h):Hp h0 D [] R h:=⟨ok.chg,by simp,ok.r,.nil,by simp⟩
theorem Hp.keep {M':List Itm} (ok:Hp h0 D M R h) (hs:M'.Sublist M):Hp h0 D M' R h:=
 ⟨ok.chg,fun i hi=>ok.m i (hs.subset hi),ok.r,ok.mm.sublist hs,fun x hx=>ok.mr x (hs.subset hx)⟩
theorem Hp.k1 (ok:Hp h0 D (a::M) R h):Hp h0 D [a] R h:=ok.keep (.cons_cons _ (List.nil_sublist _))
theorem Hp.k2 (ok:Hp h0 D (a::b::M) R h):Hp h0 D [a,b] R h:=ok.keep (.cons_cons _ (.cons_cons _ (List.nil_sublist _)))
theorem Hp.k3 (ok:Hp h0 D (a::b::c::M) R h):Hp h0 D [a,b,c] R h:=ok.keep (.cons_cons _ (.cons_cons _ (.cons_cons _ (List.nil_sublist _))))
theorem Hp.k4 (ok:Hp h0 D (a::b::c::d::M) R h):Hp h0 D [a,b,c,d] R h:=ok.keep (.cons_cons _ (.cons_cons _ (.cons_cons _ (.cons_cons _ (List.nil_sublist _)))))
theorem Hp.frz (ok:Hp h0 D (a::M) R h):Hp h0 D M (a::R) h:=
 ⟨ok.chg,fun i hi=>ok.m i (List.mem_cons_of_mem _ hi),fun i hi=>by
  rcases List.mem_cons.1 hi with rfl | hi
  ·have:=ok.m i List.mem_cons_self;exact ⟨this.1,fun j hj=>(this.2 j hj).1⟩
  ·exact ok.r i hi,(List.pairwise_cons.1 ok.mm).2,fun x hx b hb j hj hb2=>by
  rcases List.mem_cons.1 hb with rfl | hb
  ·exact (List.pairwise_cons.1 ok.mm).1 x hx j hb2 hj
  ·exact ok.mr x (List.mem_cons_of_mem _ hx) b hb j hj hb2⟩
theorem Hp.der (ok:Hp h0 D M R h) {r:Itm} (hr:r∈R) (it:Itm) (hp:it.p h) (hF:∀j,it.F j→r.F j):Hp h0 D M (it::R) h:=
 ⟨ok.chg,ok.m,fun i hi=>by
  rcases List.mem_cons.1 hi with rfl | hi
  ·exact ⟨hp,fun j hj=>(ok.r r hr).2 j (hF j hj)⟩
  ·exact ok.r i hi,ok.mm,fun x hx b hb j hj hb2=>by
  rcases List.mem_cons.1 hb with rfl | hb
  ·exact ok.mr x hx r hr j hj (hF j hb2)
  ·exact ok.mr x hx b hb j hj hb2⟩
theorem Hp.dE (ok:Hp h0 D M R h) (it:Itm) (hp:it.p h) (hF:∀j,¬it.F j):Hp h0 D M (it::R) h:=
 ⟨ok.chg,ok.m,fun i hi=>by
  rcases List.mem_cons.1 hi with rfl | hi
  ·exact ⟨hp,fun j hj=>absurd hj (hF j)⟩
  ·exact ok.r i hi,ok.mm,fun x hx b hb j hj hb2=>by
  rcases List.mem_cons.1 hb with rfl | hb
  ·exact hF j hb2
  ·exact ok.mr x hx b hb j hj hb2⟩
theorem Hp.or (ok:Hp h0 D M R h) {r r':Itm} (hr:r∈R) (hr':r'∈R) (it:Itm) (hp:it.p h) (hF:∀j,it.F j→r.F j∨r'.F j):Hp h0 D M (it::R) h:=
 ⟨ok.chg,ok.m,fun i hi=>by
  rcases List.mem_cons.1 hi with rfl | hi
  ·refine ⟨hp,fun j hj=>?_⟩;rcases hF j hj with h1 | h1
   ·exact (ok.r r hr).2 j h1
   ·exact (ok.r r' hr').2 j h1
  ·exact ok.r i hi,ok.mm,fun x hx b hb j hj hb2=>by
  rcases List.mem_cons.1 hb with rfl | hb
  ·rcases hF j hb2 with h1 | h1
   ·exact ok.mr x hx r hr j hj h1
   ·exact ok.mr x hx r' hr' j hj h1
  ·exact ok.mr x hx b hb j hj hb2⟩
theorem Hp.m0 (ok:Hp h0 D (a::M) R h):a.p h:=(ok.m a (by simp)).1
theorem Hp.m1 (ok:Hp h0 D (a::b::M) R h):b.p h:=(ok.m b (by simp)).1
theorem Hp.m2 (ok:Hp h0 D (a::b::c::M) R h):c.p h:=(ok.m c (by simp)).1
theorem Hp.m3 (ok:Hp h0 D (a::b::c::d::M) R h):d.p h:=(ok.m d (by simp)).1
theorem Hp.m4 (ok:Hp h0 D (a::b::c::d::e::M) R h):e.p h:=(ok.m e (by simp)).1
theorem Hp.m5 (ok:Hp h0 D (a::b::c::d::e::f::M) R h):f.p h:=(ok.m f (by simp)).1
theorem Hp.n1 (ok:Hp h0 D (a::b::M) R h):Hp h0 D (b::a::M) R h:=ok.perm (.swap _ _ _)
theorem Hp.n2 (ok:Hp h0 D (a::b::c::M) R h):Hp h0 D (c::a::b::M) R h:=ok.perm (.trans (.swap _ _ _) (.cons _ (.swap _ _ _)))
theorem Hp.n3 (ok:Hp h0 D (a::b::c::d::M) R h):Hp h0 D (d::a::b::c::M) R h:=ok.perm (.trans (.swap _ _ _) (.cons _ (.trans (.swap _ _ _) (.cons _ (.swap _ _ _)))))
theorem Hp.n4 (ok:Hp h0 D (a::b::c::d::e::M) R h):Hp h0 D (e::a::b::c::d::M) R h:=ok.perm (.trans (.swap _ _ _) (.cons _ (.trans (.swap _ _ _) (.cons _ (.trans (.swap _ _ _) (.cons _ (.swap _ _ _)))))))
theorem Hp.n5 (ok:Hp h0 D (a::b::c::d::e::f::M) R h):Hp h0 D (f::a::b::c::d::e::M) R h:=ok.perm (.trans (.swap _ _ _) (.cons _ (.trans (.swap _ _ _) (.cons _ (.trans (.swap _ _ _) (.cons _ (.trans (.swap _ _ _) (.cons _ (.swap _ _ _)))))))))
end
section
variable {h0 h:Heap} {D:Nat→Prop} {M R:List Itm} {q0 q1 q2 q3 q4 q5 q6 q7 q8 q9:Itm}
theorem Hp.r0 (ok:Hp h0 D M (q0::R) h):q0.p h:=(ok.r q0 (by simp)).1
theorem Hp.r1 (ok:Hp h0 D M (q0::q1::R) h):q1.p h:=(ok.r q1 (by simp)).1
theorem Hp.r2 (ok:Hp h0 D M (q0::q1::q2::R) h):q2.p h:=(ok.r q2 (by simp)).1
theorem Hp.r3 (ok:Hp h0 D M (q0::q1::q2::q3::R) h):q3.p h:=(ok.r q3 (by simp)).1
theorem Hp.d0 (ok:Hp h0 D M (q0::R) h) (it:Itm) (hp:it.p h) (hF:∀j,it.F j→q0.F j:=by exact fun _ x=>x):Hp h0 D M (it::q0::R) h:=ok.der (r:=q0) (by simp) it hp hF
theorem Hp.d1 (ok:Hp h0 D M (q0::q1::R) h) (it:Itm) (hp:it.p h) (hF:∀j,it.F j→q1.F j:=by exact fun _ x=>x):Hp h0 D M (it::q0::q1::R) h:=ok.der (r:=q1) (by simp) it hp hF
theorem Hp.f1 (ok:Hp h0 D M (q0::q1::R) h):Hp h0 D M (q1::q0::R) h:=ok.sub (by simp;grind)
theorem Hp.f2 (ok:Hp h0 D M (q0::q1::q2::R) h):Hp h0 D M (q2::q0::q1::R) h:=ok.sub (by simp;grind)
theorem Hp.f3 (ok:Hp h0 D M (q0::q1::q2::q3::R) h):Hp h0 D M (q3::q0::q1::q2::R) h:=ok.sub (by simp;grind)
theorem Hp.e0 (ok:Hp h0 D M R h):Hp h0 D M [] h:=ok.sub (by simp)
theorem Hp.e1 (ok:Hp h0 D M (q0::R) h):Hp h0 D M [q0] h:=ok.sub (by simp)
theorem Hp.e2 (ok:Hp h0 D M (q0::q1::R) h):Hp h0 D M [q0,q1] h:=ok.sub (by simp)
theorem Hp.e3 (ok:Hp h0 D M (q0::q1::q2::R) h):Hp h0 D M [q0,q1,q2] h:=ok.sub (by simp)
end
section
variable {h0 h:Heap} {D:Nat→Prop} {M R:List Itm} {a b c d e f g i j k:Itm}
theorem Hp.k5 (ok:Hp h0 D (a::b::c::d::e::M) R h):Hp h0 D [a,b,c,d,e] R h:=ok.keep (.cons_cons _ (.cons_cons _ (.cons_cons _ (.cons_cons _ (.cons_cons _ (List.nil_sublist _))))))
theorem Hp.k6 (ok:Hp h0 D (a::b::c::d::e::f::M) R h):Hp h0 D [a,b,c,d,e,f] R h:=ok.keep (.cons_cons _ (.cons_cons _ (.cons_cons _ (.cons_cons _ (.cons_cons _ (.cons_cons _ (List.nil_sublist _)))))))
theorem Hp.k7 (ok:Hp h0 D (a::b::c::d::e::f::g::M) R h):Hp h0 D [a,b,c,d,e,f,g] R h:=ok.keep (.cons_cons _ (.cons_cons _ (.cons_cons _ (.cons_cons _ (.cons_cons _ (.cons_cons _ (.cons_cons _ (List.nil_sublist _))))))))
theorem Hp.k9 (ok:Hp h0 D (a::b::c::d::e::f::g::i::j::M) R h):Hp h0 D [a,b,c,d,e,f,g,i,j] R h:=ok.keep (.cons_cons _ (.cons_cons _ (.cons_cons _ (.cons_cons _ (.cons_cons _ (.cons_cons _ (.cons_cons _ (.cons_cons _ (.cons_cons _ (List.nil_sublist _))))))))))
theorem Hp.m6 (ok:Hp h0 D (a::b::c::d::e::f::g::M) R h):g.p h:=(ok.m g (by simp)).1
theorem Hp.n6 (ok:Hp h0 D (a::b::c::d::e::f::g::M) R h):Hp h0 D (g::a::b::c::d::e::f::M) R h:=ok.perm (by simpa using (List.perm_middle (l₁:=[a,b,c,d,e,f]) (l₂:=M) (a:=g)).symm)
theorem Hp.m7 (ok:Hp h0 D (a::b::c::d::e::f::g::i::M) R h):i.p h:=(ok.m i (by simp)).1
theorem Hp.n7 (ok:Hp h0 D (a::b::c::d::e::f::g::i::M) R h):Hp h0 D (i::a::b::c::d::e::f::g::M) R h:=ok.perm (by simpa using (List.perm_middle (l₁:=[a,b,c,d,e,f,g]) (l₂:=M) (a:=i)).symm)
theorem Hp.m8 (ok:Hp h0 D (a::b::c::d::e::f::g::i::j::M) R h):j.p h:=(ok.m j (by simp)).1
theorem Hp.n8 (ok:Hp h0 D (a::b::c::d::e::f::g::i::j::M) R h):Hp h0 D (j::a::b::c::d::e::f::g::i::M) R h:=ok.perm (by simpa using (List.perm_middle (l₁:=[a,b,c,d,e,f,g,i]) (l₂:=M) (a:=j)).symm)
theorem Hp.n9 (ok:Hp h0 D (a::b::c::d::e::f::g::i::j::k::M) R h):Hp h0 D (k::a::b::c::d::e::f::g::i::j::M) R h:=ok.perm (by simpa using (List.perm_middle (l₁:=[a,b,c,d,e,f,g,i,j]) (l₂:=M) (a:=k)).symm)
end
theorem oneL {vs:List Value} (h:vs.all (fun v=>v.oneCell')=true):∀v∈vs,v.oneCell'=true:=List.all_eq_true.1 h
section
variable {P:Program} {s:Slots} {h0 h:Heap} {D:Nat→Prop} {M R:List Itm} {d:Option Tmp} {ty:TypeId} {pos:String} {af:Array Edge} {g:Option (Nat × Bool)} {x y c:Operand} {t u:TypeId}
theorem OpE.bx {P:Program} {o:Oper} {cs:List Value} (hv:OpE P o s h (.pointer (some ⟨h.size,0,none⟩)) (h.push (.cells cs.toArray t (0,0)))) (ok:Hp h0 D M R h) :
  OpA P o s h (fun v h'=>∃b,v=.pointer (some ⟨b,0,none⟩)∧Hp h0 D (boxI b t cs::M) R h'∧Ext h h'):=fun E w at'=>by
 obtain ⟨w',at2,hr⟩:=hv E w at';exact ⟨_,_,w',⟨h.size,rfl,ok.newM (Ext.push _ _) _ (push_same _ _) (fun j hj=>by simp at hj⊢;omega),Ext.push _ _⟩,at2,hr⟩
theorem OpE.sx {P:Program} {o:Oper} {k nn:Nat} {cs:List Value} (hv:OpE P o s h (.slice (some ⟨h.size,0,none⟩) nn nn) (h.push (.cells cs.toArray t (0,0)))) (hs:cs.length=nn*k) (hn:nn≤9223372036854775807) (ok:Hp h0 D M R h) :
  OpA P o s h (fun v h'=>∃b,v=.slice (some ⟨b,0,none⟩) nn nn∧Hp h0 D (capI k t (some ⟨b,0,none⟩,nn,nn) cs::M) R h'∧Ext h h'):=fun E w at'=>by
 obtain ⟨w',at2,hr⟩:=hv E w at';refine ⟨_,_,w',⟨h.size,rfl,ok.newM (Ext.push _ _) _ ?_ (fun j hj=>?_),Ext.push _ _⟩,at2,hr⟩
 ·have:=Cap.new (k:=k) (e:=t) (n:=nn) (cs:=cs.toArray) (push_same h _) (by simpa using hs) hn;simpa using this
 ·obtain ⟨o,n,c,hv⟩:=hj;injection hv with h1;injection h1 with h1;injection h1 with h1;simp;omega
theorem OpA.mk {o:Oper} {Q Q':Value→Heap→Prop} (hv:OpA P o s h Q) (hq:∀v h',Q v h'→Q' v h'):OpA P o s h Q':=fun E w at'=>
 let ⟨v,h',w',q,a,r⟩:=hv E w at';⟨v,h',w',hq v h' q,a,r⟩
theorem OpUR.mk {o:Oper} {Q Q':Heap→Prop} (hv:OpUR P o s h Q) (hq:∀h',Q h'→Q' h'):OpUR P o s h Q':=fun E w at'=>
 let ⟨h',w',q,a,r⟩:=hv E w at';⟨h',w',hq h' q,a,r⟩
abbrev Bx (h h0:Heap) (D:Nat→Prop) (t:TypeId) (cs:List Value) (M R:List Itm) (v:Value) (h':Heap):Prop:=∃b,v=.pointer (some ⟨b,0,none⟩)∧Hp h0 D (boxI b t cs::M) R h'∧Ext h h'
theorem allSz_len {k:Nat} : ∀ {xs:List Operand},V.AllSz s k xs→(xs.flatMap fun x=>(ev s x).cells.toList).length=xs.length*k
 | [],_=>by simp
 | x::xs,h=>by
  have h1:=h.1;have h2:=allSz_len h.2;simp only [List.flatMap_cons,List.length_append,List.length_cons,Nat.add_mul,Array.length_toList,h1,h2];omega
namespace OpA
theorem bxI {k:IntKind} {a:Int} (ok:Hp h0 D M R h) (hx:ev s x=.int k a:=by exact rfl):OpA P ⟨d,.box t x,ty,pos,af,g⟩ s h (Bx h h0 D t [.int k a] M R):=OpE.bx (V.boxI hx) ok
theorem bxS {a:Option Addr} {n m:Nat} (ok:Hp h0 D M R h) (hx:ev s x=.slice a n m:=by exact rfl):OpA P ⟨d,.box t x,ty,pos,af,g⟩ s h (Bx h h0 D t [.slice a n m] M R):=OpE.bx (V.boxS hx) ok
theorem bxP {a:Option Addr} (ok:Hp h0 D M R h) (hx:ev s x=.pointer a:=by exact rfl):OpA P ⟨d,.box t x,ty,pos,af,g⟩ s h (Bx h h0 D t [.pointer a] M R):=OpE.bx (V.boxP hx) ok
theorem bxA {cs:List Value} (ok:Hp h0 D M R h) (hx:ev s x=.agg cs.toArray:=by exact rfl):OpA P ⟨d,.box t x,ty,pos,af,g⟩ s h (Bx h h0 D t cs M R):=OpE.bx (V.boxA hx) ok
theorem alA {cs:List Value} (hz:zrB P t=some (.agg cs.toArray)) (ok:Hp h0 D M R h):OpA P ⟨d,.alloc t,ty,pos,af,g⟩ s h (Bx h h0 D t cs M R):=OpE.bx (V.alloc hz rfl) ok
theorem alI {k:IntKind} {a:Int} (hz:zrB P t=some (.int k a)) (ok:Hp h0 D M R h):OpA P ⟨d,.alloc t,ty,pos,af,g⟩ s h (Bx h h0 D t [.int k a] M R):=OpE.bx (V.alloc hz rfl) ok
theorem alS {a:Option Addr} {n m:Nat} (hz:zrB P t=some (.slice a n m)) (ok:Hp h0 D M R h):OpA P ⟨d,.alloc t,ty,pos,af,g⟩ s h (Bx h h0 D t [.slice a n m] M R):=OpE.bx (V.alloc hz rfl) ok
theorem alM {a:Option Nat} (hz:zrB P t=some (.map a)) (ok:Hp h0 D M R h):OpA P ⟨d,.alloc t,ty,pos,af,g⟩ s h (Bx h h0 D t [.map a] M R):=OpE.bx (V.alloc hz rfl) ok
theorem lit (xs:List Operand) {n k:Nat} {e:TypeId} {z:Value} {l:List (Nat × Operand)} {cs:List Value} (ht:elB P t=some e) (hk:szB P e=some k) (hz:zrB P e=some z) (ok:Hp h0 D M R h) (hx:V.AllSz s k xs) (hcs:(xs.flatMap fun x=>(ev s x).cells.toList)=cs:=by exact rfl)
  (hl:l=V.idx 0 xs:=by exact rfl) (hn:n=xs.length:=by exact rfl) (hnk:Nat.ble (n*k) 16777216=true:=by exact rfl) (hn2:Nat.ble n 16777216=true:=by exact rfl) :
  OpA P ⟨d,.buildSlice t n l.toArray,ty,pos,af,g⟩ s h (fun v h'=>∃b,v=.slice (some ⟨b,0,none⟩) n n∧Hp h0 D (capI k e (some ⟨b,0,none⟩,n,n) cs::M) R h'∧Ext h h'):=by
 subst hl hn;refine OpE.sx (V.buildSlice xs ht hk hz rfl rfl hnk hx (by simpa using hcs)) ?_ ?_ ok
 ·subst hcs;exact allSz_len hx
 ·exact Nat.le_trans (Nat.le_of_ble_eq_true hn2) (by omega)
theorem app {e:TypeId} {k bytes:Nat} {z:Value} {a:Option Addr} {n m:Nat} {nv:Value} {xs news:List Value} (ht:elB P t=some e) (hk:szB P e=some (k+1)) (hby:byB P e=some (bytes+1)) (hz:zrB P e=some z) (ok:Hp h0 D (capI (k+1) e (a,n,m) xs::M) R h)
  (hn:Sl h (k+1) nv news) (h1:∀u∈news,u.oneCell'=true) (hfit:(xs.length+news.length)*(bytes+1)≤140737488355328) (hx:ev s x=.slice a n m:=by exact rfl) (hy:ev s y=nv:=by exact rfl) (hzk:z.cells.size=k+1:=by exact rfl) :
  OpA P ⟨d,.call ⟨.builtin .append,#[x,y],#[t,t]⟩,ty,pos,af,g⟩ s h (fun v' h'=>∃a' n' m',v'=.slice a' n' m'∧Hp h0 D (capI (k+1) e (a',n',m') (xs++news)::M) R h'∧Appended h (k+1) e (.slice a n m) (xs++news) (.slice a' n' m') h'):=
 OpA.mk (V.append hx hy ht hk hby hz hzk ok.m0 hn h1 hfit) fun v' h' q=>by
  obtain ⟨a',n',m',rfl,_⟩:=id q.cap;exact ⟨a',n',m',rfl,ok.upd q.chg (fun _ x=>x) _ q.cap fun j hj=>(q.place j hj).imp id fun h=>⟨h,q.cap.lt hj⟩,q⟩
end OpA
namespace OpUR
section
variable {b o:Nat} {e:TypeId} {cs:List Value}
theorem st {v:Value} (ht:szB P t=some 1) (ok:Hp h0 D (boxI b e cs::M) R h) (hx:ev s x=.pointer (some ⟨b,o,none⟩)) (hy:ev s y=v) (h1:v.oneCell'=true) (ho:Nat.blt o cs.length=true) :
  OpUR P ⟨d,.store t x y,ty,pos,af,g⟩ s h (fun h'=>Hp h0 D (boxI b e (cs.set o v)::M) R h'∧Chg (fun x=>x=b) h h'):=fun E w at'=>by
 have ho':o<cs.length:=by simpa [Nat.blt_eq] using ho
 obtain ⟨w',at2,hr⟩:=V.store (P:=P) (s:=s) (d:=d) (ty:=ty) (pos:=pos) (af:=af) (g:=g) hx hy ht h1 ok.m0 (by simpa using ho') (by simp) rfl E w at';refine ⟨_,w',⟨?_,hput_chg _ _ _⟩,at2,hr⟩;refine ok.upd (hput_chg _ _ _) (fun _ x=>x) _ ?_ (fun _ x=>.inl x);have:=hput_same (cs':=cs.toArray.setIfInBounds o v) ok.m0;simpa using this
theorem stI {k:IntKind} {a:Int} (ht:szB P t=some 1) (ok:Hp h0 D (boxI b e cs::M) R h) (hx:ev s x=.pointer (some ⟨b,o,none⟩):=by exact rfl) (hy:ev s y=.int k a:=by exact rfl) (ho:Nat.blt o cs.length=true:=by exact rfl) :
  OpUR P ⟨d,.store t x y,ty,pos,af,g⟩ s h (fun h'=>Hp h0 D (boxI b e (cs.set o (.int k a))::M) R h'∧Chg (fun x=>x=b) h h'):=st ht ok hx hy rfl ho
theorem stB {a:Bool} (ht:szB P t=some 1) (ok:Hp h0 D (boxI b e cs::M) R h) (hx:ev s x=.pointer (some ⟨b,o,none⟩):=by exact rfl) (hy:ev s y=.bool a:=by exact rfl) (ho:Nat.blt o cs.length=true:=by exact rfl) :
  OpUR P ⟨d,.store t x y,ty,pos,af,g⟩ s h (fun h'=>Hp h0 D (boxI b e (cs.set o (.bool a))::M) R h'∧Chg (fun x=>x=b) h h'):=st ht ok hx hy rfl ho
theorem stS {a:Option Addr} {n m:Nat} (ht:szB P t=some 1) (ok:Hp h0 D (boxI b e cs::M) R h) (hx:ev s x=.pointer (some ⟨b,o,none⟩):=by exact rfl) (hy:ev s y=.slice a n m:=by exact rfl) (ho:Nat.blt o cs.length=true:=by exact rfl) :
  OpUR P ⟨d,.store t x y,ty,pos,af,g⟩ s h (fun h'=>Hp h0 D (boxI b e (cs.set o (.slice a n m))::M) R h'∧Chg (fun x=>x=b) h h'):=st ht ok hx hy rfl ho
theorem stM {a:Option Nat} (ht:szB P t=some 1) (ok:Hp h0 D (boxI b e cs::M) R h) (hx:ev s x=.pointer (some ⟨b,o,none⟩):=by exact rfl) (hy:ev s y=.map a:=by exact rfl) (ho:Nat.blt o cs.length=true:=by exact rfl) :
  OpUR P ⟨d,.store t x y,ty,pos,af,g⟩ s h (fun h'=>Hp h0 D (boxI b e (cs.set o (.map a))::M) R h'∧Chg (fun x=>x=b) h h'):=st ht ok hx hy rfl ho
theorem stA {vs:List Value} (ht:szB P t=some vs.length) (ok:Hp h0 D (boxI b e cs::M) R h) (h1:∀v∈vs,v.oneCell'=true) (hx:ev s x=.pointer (some ⟨b,o,none⟩):=by exact rfl) (hy:ev s y=.agg vs.toArray:=by exact rfl) (ho:Nat.ble (o+vs.length) cs.length=true:=by exact rfl) :
  OpUR P ⟨d,.store t x y,ty,pos,af,g⟩ s h (fun h'=>Hp h0 D (boxI b e (spl cs o vs)::M) R h'∧Chg (fun x=>x=b) h h'):=fun E w at'=>by
 have ho':=Nat.le_of_ble_eq_true ho;obtain ⟨w',at2,hr⟩:=V.storeA (P:=P) (s:=s) (d:=d) (ty:=ty) (pos:=pos) (af:=af) (g:=g) hx hy ht h1 ok.m0 (by simpa using ho') (fzOk_zero _) rfl E w at';refine ⟨_,w',⟨?_,hput_chg _ _ _⟩,at2,hr⟩;exact ok.upd (hput_chg _ _ _) (fun _ x=>x) _ (by simpa using hput_same (cs':=(spl cs o vs).toArray) ok.m0) (fun _ x=>.inl x)
theorem stW {vs:List Value} (ht:szB P t=some vs.length) (ok:Hp h0 D (boxI b e cs::M) R h) (h1:∀v∈vs,v.oneCell'=true) (hl:cs.length=vs.length:=by exact rfl) (hx:ev s x=.pointer (some ⟨b,0,none⟩):=by exact rfl) (hy:ev s y=.agg vs.toArray:=by exact rfl) :
  OpUR P ⟨d,.store t x y,ty,pos,af,g⟩ s h (fun h'=>Hp h0 D (boxI b e vs::M) R h'∧Chg (fun x=>x=b) h h'):=
 OpUR.mk (stA (o:=0) ht ok h1 hx hy (by rw [hl,Nat.zero_add];exact Nat.ble_self_eq_true _)) fun h' q=>by
  have e:spl cs 0 vs=vs:=by unfold spl;simp [hl]
  rw [e] at q;exact q
end
theorem sx {b o n c k q:Nat} {e:TypeId} {xs:List Value} {v:Value} (ht:szB P t=some 1) (ok:Hp h0 D (capI k e (some ⟨b,o,none⟩,n,c) xs::M) R h) (hq:q<n*k) (hx:ev s x=.pointer (some ⟨b,o+q,none⟩)) (hy:ev s y=v) (h1:v.oneCell'=true) :
  OpUR P ⟨d,.store t x y,ty,pos,af,g⟩ s h (fun h'=>Hp h0 D (capI k e (some ⟨b,o,none⟩,n,c) (xs.set q v)::M) R h'∧Chg (fun x=>x=b) h h'):=
 OpUR.mk (V.storeC hx hy ht h1 ok.m0 hq) fun h' r=>⟨ok.upd r.chg (fun j e=>by subst e;exact ⟨o,n,c,rfl⟩) _ r.cap (fun _ x=>.inl x),r.chg⟩
section
variable {b o n c k q:Nat} {e:TypeId} {xs:List Value}
theorem sxI {kk:IntKind} {a:Int} (ht:szB P t=some 1) (ok:Hp h0 D (capI k e (some ⟨b,o,none⟩,n,c) xs::M) R h) (hx:ev s x=.pointer (some ⟨b,o+q,none⟩):=by exact rfl) (hy:ev s y=.int kk a:=by exact rfl) (hq:q<n*k:=by omega) :
  OpUR P ⟨d,.store t x y,ty,pos,af,g⟩ s h (fun h'=>Hp h0 D (capI k e (some ⟨b,o,none⟩,n,c) (xs.set q (.int kk a))::M) R h'∧Chg (fun x=>x=b) h h'):=sx ht ok hq hx hy rfl
end
theorem sa {α:Type} {f:α→Value} {b q:Nat} {e:TypeId} {l:List α} {v:Value} (a:α) (ht:szB P t=some 1) (ok:Hp h0 D (boxI b e (l.map f)::M) R h) (hq:q<l.length) (h1:(f a).oneCell'=true:=by exact rfl) (hx:ev s x=.pointer (some ⟨b,0+q,none⟩):=by exact rfl) (hy:ev s y=v:=by exact rfl) (hv:v=f a:=by exact rfl) :
  OpUR P ⟨d,.store t x y,ty,pos,af,g⟩ s h (fun h'=>Hp h0 D (boxI b e ((l.set q a).map f)::M) R h'∧Chg (fun x=>x=b) h h'):=
 OpUR.mk (st (o:=0+q) ht ok hx hy (by rw [hv];exact h1) (by simp [Nat.blt_eq];exact hq)) fun h' r=>by
  have e:(l.map f).set (0+q) v=(l.set q a).map f:=by rw [hv,Nat.zero_add,List.map_set]
  rw [e] at r;exact r
end OpUR
end
theorem at_box {h:Heap} {b o:Nat} {t:TypeId} {cs:List Value} {v:Value} (hb:h[b]? = some (.cells cs.toArray t (0,0))) (hv:cs[o]? = some v:=by exact rfl):cell h b o=some v:=by
 rw [cell_of hb];simpa using hv
open Go
class Rep (α:Type) where
 k:Nat
 rd:Heap→(Nat→Prop)→List Value→α→Prop
 kpos:0<k
 len:∀ {h F cs a},rd h F cs a→cs.length=k
 one:∀ {h F cs a},rd h F cs a→∀u∈cs,u.oneCell'=true
 st:∀ {G h h' F cs a},Chg G h h'→(∀j,F j→¬G j)→rd h F cs a→rd h' F cs a
 mono:∀ {h} {F F':Nat→Prop} {cs a},(∀j,F j→F' j)→rd h F cs a→rd h F' cs a
 lt:∀ {h F cs a},rd h F cs a→rd h (fun j=>F j∧j<h.size) cs a
@[reducible] def Rep.flat {α:Type} (f:α→Value) (h1:∀a,(f a).oneCell'=true):Rep α where
 k:=1
 rd _ _ cs a:=cs=[f a]
 kpos:=by omega
 len:=fun h=>by rw [h];rfl
 one:=fun h u hu=>by rw [h,List.mem_singleton] at hu;subst hu;exact h1 _
 st:=fun _ _ h=>h
 mono:=fun _ h=>h
 lt:=fun h=>h
instance:Rep UInt8:=Rep.flat bv fun _=>rfl
instance:Rep Int:=Rep.flat iv fun _=>rfl
variable {α:Type} [Rep α]
structure RdL (h:Heap) (F E:Nat→Prop) (x:SV) (l:List α):Prop where
 n:x.2.1=l.length
 c:x.2.1≤x.2.2
 m:x.2.2≤9223372036854775807
 at':0<l.length→∃b o,x.1=some ⟨b,o,none⟩∧F b∧∀i (hi:i<l.length),∃cs,Rep.rd h E cs l[i]∧∀j v,cs[j]? = some v→cell h b (o+i*Rep.k α+j)=some v
section
variable {h h':Heap} {F F' E E' G:Nat→Prop} {x:SV} {l:List α}
theorem RdL.st (c:Chg G h h') (hF:∀j,F j→¬G j) (hE:∀j,E j→¬G j) (r:RdL h F E x l):RdL h' F E x l:=
 ⟨r.n,r.c,r.m,fun hp=>by
  obtain ⟨b,o,e,hb,hc⟩:=r.at' hp;refine ⟨b,o,e,hb,fun i hi=>?_⟩;obtain ⟨cs,h1,h2⟩:=hc i hi;exact ⟨cs,Rep.st c hE h1,fun j v hj=>c.cell (h2 j v hj) (hF b hb)⟩⟩
theorem RdL.mono (hF:∀j,F j→F' j) (hE:∀j,E j→E' j) (r:RdL h F E x l):RdL h F' E' x l:=
 ⟨r.n,r.c,r.m,fun hp=>by
  obtain ⟨b,o,e,hb,hc⟩:=r.at' hp;refine ⟨b,o,e,hF b hb,fun i hi=>?_⟩;obtain ⟨cs,h1,h2⟩:=hc i hi;exact ⟨cs,Rep.mono hE h1,h2⟩⟩
theorem RdL.lt (r:RdL h F E x l):RdL h (fun j=>F j∧j<h.size) (fun j=>E j∧j<h.size) x l:=
 ⟨r.n,r.c,r.m,fun hp=>by
  obtain ⟨b,o,e,hb,hc⟩:=r.at' hp;obtain ⟨cs0,g1,g2⟩:=hc 0 hp;have g3:=Rep.len g1;have g4:=Rep.kpos (α:=α);have hlt:b<h.size:=cell_lt (g2 0 (cs0[0]'(by omega)) (by simp));refine ⟨b,o,e,⟨hb,hlt⟩,fun i hi=>?_⟩;obtain ⟨cs,h1,h2⟩:=hc i hi;exact ⟨cs,Rep.lt h1,h2⟩⟩
theorem RdL.nil (h:Heap) (F E:Nat→Prop):RdL h F E (none,0,0) ([]:List α):=⟨rfl,Nat.le_refl _,by simp,fun h=>absurd h (by simp)⟩
theorem RdL.pos {a:Option Addr} {n c:Nat} (r:RdL h F E (a,n,c) l) (hp:0<l.length):∃b o,a=some ⟨b,o,none⟩∧F b:=let ⟨b,o,e,hb,_⟩:=r.at' hp;⟨b,o,e,hb⟩
theorem RdL.el {b o n c:Nat} (r:RdL h F E (some ⟨b,o,none⟩,n,c) l) {i:Nat} (hi:i<l.length):∃cs,Rep.rd h E cs l[i]∧∀j v,cs[j]? = some v→cell h b (o+i*Rep.k α+j)=some v:=by
 obtain ⟨b',o',e,_,hc⟩:=r.at' (by omega);injection e with e;injection e with e1 e2;subst e1 e2;exact hc i hi
theorem RdL.form (r:RdL h F E x l):∃a c,x=(a,l.length,c)∧l.length≤c∧c≤9223372036854775807:=by
 obtain ⟨a,n,c⟩:=x;obtain ⟨h1,h2,h3,_⟩:=r;simp only at h1 h2 h3;subst h1;exact ⟨a,c,rfl,h2,h3⟩
end
instance {α:Type} [Rep α]:Rep (List α) where
 k:=1
 rd h F cs l:=∃x:SV,cs=[sv x]∧RdL h F F x l
 kpos:=by omega
 len:=fun ⟨_,h,_⟩=>by rw [h];rfl
 one:=fun ⟨_,h,_⟩ u hu=>by rw [h,List.mem_singleton] at hu;subst hu;rfl
 st:=fun c d ⟨x,e,r⟩=>⟨x,e,r.st c d d⟩
 mono:=fun d ⟨x,e,r⟩=>⟨x,e,r.mono d d⟩
 lt:=fun ⟨x,e,r⟩=>⟨x,e,r.lt⟩
@[reducible] def rdI (F E:Nat→Prop) (x:SV) (l:List α):Itm:=⟨fun h=>RdL h F E x l,fun j=>F j∨E j,fun _ _ _ c d r=>r.st c (fun j hj=>d j (.inl hj)) (fun j hj=>d j (.inr hj))⟩
section
variable {h h':Heap} {F E G:Nat→Prop} {x:SV}
theorem RdL.u8 {l:List UInt8} {b o n c:Nat} (r:RdL h F E (some ⟨b,o,none⟩,n,c) l) {i:Nat} (hi:i<l.length):cell h b (o+i)=some (.int .u8 l[i].toNat):=by
 obtain ⟨cs,h1,h2⟩:=r.el hi;have h3:cs=[.int .u8 l[i].toNat]:=h1;subst h3;have:=h2 0 _ rfl;simpa [Rep.k] using this
theorem RdL.i64 {l:List Int} {b o n c:Nat} (r:RdL h F E (some ⟨b,o,none⟩,n,c) l) {i:Nat} (hi:i<l.length):cell h b (o+i)=some (.int .i64 l[i]):=by
 obtain ⟨cs,h1,h2⟩:=r.el hi;have h3:cs=[.int .i64 l[i]]:=h1;subst h3;have:=h2 0 _ rfl;simpa [Rep.k] using this
theorem RdL.row {β:Type} [Rep β] {l:List (List β)} {b o n c:Nat} (r:RdL h F E (some ⟨b,o,none⟩,n,c) l) {i:Nat} (hi:i<l.length):∃(a:Option Addr) (c':Nat),cell h b (o+i)=some (.slice a l[i].length c')∧RdL h E E (a,l[i].length,c') l[i]:=by
 obtain ⟨cs,⟨y,rfl,h1⟩,h2⟩:=r.el hi;obtain ⟨a,c',rfl,_⟩:=h1.form;have:=h2 0 _ rfl;exact ⟨a,c',by simpa [Rep.k] using this,h1⟩
theorem RdL.of_sl {α:Type} [Rep α] {f:α→Value} (hk:Rep.k α=1) (hf:∀h E a,Rep.rd h E [f a] a) {l:List α} (r:Sl h 1 (sv x) (l.map f)):RdL h (blk (sv x)) E x l:=by
 obtain ⟨a,n,c⟩:=x;obtain ⟨a',n',c',hv,h1,h2,h3⟩:=r;have hv:Value.slice a n c=.slice a' n' c':=hv;injection hv with e1 e2 e3;subst e1 e2 e3;have hl:l.length=n:=by have:=h3.len;simpa using this
 refine ⟨hl.symm,h1,h2,fun hp=>?_⟩;obtain ⟨b,o,rfl,hc⟩:=h3.pos (by omega);exact ⟨b,o,rfl,⟨o,n,c,rfl,by omega⟩,fun i hi=>⟨[f l[i]],hf _ _ _,fun j v hj=>by
  rw [hk];have hj0:j=0:=by have:=(List.getElem?_eq_some_iff.1 hj).1;simpa using this
  subst hj0;simp at hj;subst hj;simpa using hc i _ (map_at hi)⟩⟩
theorem RdL.to_sl {α:Type} [Rep α] {f:α→Value} (hk:Rep.k α=1) (hf:∀h E cs a,Rep.rd h E cs a→cs=[f a]) {l:List α} (r:RdL h F E x l):Sl h 1 (sv x) (l.map f):=by
 obtain ⟨a,n,c⟩:=x;have hn:n=l.length:=r.n;refine ⟨a,n,c,rfl,r.c,r.m,?_,fun hp=>?_⟩
 ·simp;omega
 ·obtain ⟨b,o,e,_,hc⟩:=r.at' (by omega);simp at e;subst e;refine ⟨b,o,rfl,fun i v hi=>?_⟩;have hil:i<l.length:=by have:=(List.getElem?_eq_some_iff.1 hi).1;simpa using this
  obtain ⟨cs,h1,h2⟩:=hc i hil;have:=hf _ _ _ _ h1;subst this;rw [map_at hil] at hi;injection hi with hi;subst hi;have:=h2 0 _ rfl;simpa [hk] using this
theorem RdL.by {l:List UInt8} (r:RdL h F E x l):Bytes h (sv x) l:=RdL.to_sl rfl (fun _ _ _ _ h=>h) r
theorem RdL.ofInts {l:List Int} (r:Ints h (sv x) l):RdL h (blk (sv x)) E x l:=RdL.of_sl rfl (fun _ _ _=>rfl) r
theorem RdL.ints {l:List Int} (r:RdL h F E x l):Ints h (sv x) l:=RdL.to_sl rfl (fun _ _ _ _ h=>h) r
theorem blk_lt {k:Nat} {v:Value} {xs:List Value} (hk:0<k) (r:Sl h k v xs):∀j,blk v j→j<h.size:=fun j hj=>by
 obtain ⟨o,n,c,rfl,hn⟩:=hj;have h1:=r.cells;obtain ⟨b,o',e,hc⟩:=h1.pos hn;injection e with e;injection e with e1 e2;subst e1 e2;have h2:0<xs.length:=by rw [h1.1];exact Nat.mul_pos hn hk
 exact cell_lt (hc 0 xs[0] (by simp))
end
theorem flatten_len {k:Nat} : ∀ {css:List (List Value)},(∀cs∈css,cs.length=k)→css.flatten.length=css.length*k
 | [],_=>by simp
 | cs::l,h=>by
  have h1:=h cs List.mem_cons_self;have h2:=flatten_len (k:=k) (css:=l) fun c hc=>h c (List.mem_cons_of_mem _ hc);simp only [List.flatten_cons,List.length_append,List.length_cons,Nat.add_mul,h1,h2];omega
theorem flatten_at {k:Nat} : ∀ {css:List (List Value)},(∀cs∈css,cs.length=k)→∀(i j:Nat) (hi:i<css.length),j<k→css.flatten[i*k+j]? = css[i][j]?
 | cs::l,h,0,j,_,hj=>by
  have h1:=h cs List.mem_cons_self;simp only [List.flatten_cons,Nat.zero_mul,Nat.zero_add];rw [List.getElem?_append_left (by omega)];rfl
 | cs::l,h,i+1,j,hi,hj=>by
  have h1:=h cs List.mem_cons_self;have h2:=flatten_at (k:=k) (css:=l) (fun c hc=>h c (List.mem_cons_of_mem _ hc)) i j (by simpa using hi) hj;simp only [List.flatten_cons];rw [List.getElem?_append_right (by rw [h1,Nat.add_mul];omega),h1];have:(i+1)*k+j-k=i*k+j:=by rw [Nat.add_mul];omega
  rw [this,h2];rfl
theorem RdL.of_cap {h:Heap} {E:Nat→Prop} {e:TypeId} {x:SV} {css:List (List Value)} {l:List α} (c:Cap h (Rep.k α) e (sv x) css.flatten) (r:All2 (Rep.rd h E) css l):RdL h (blkC (sv x)) E x l:=by
 obtain ⟨a,n,c'⟩:=x;have hk:=Rep.kpos (α:=α);have hlen:∀cs∈css,cs.length=Rep.k α:=fun cs hcs=>by
  obtain ⟨i,hi,rfl⟩:=List.mem_iff_getElem.1 hcs;exact Rep.len (r.2 i hi (by have:=r.1;omega))
 have hs:Sl h (Rep.k α) (.slice a n c') css.flatten:=c.sl;have hn:css.length=n:=by
  have h1:=hs.cells.1;rw [flatten_len hlen] at h1;exact Nat.eq_of_mul_eq_mul_right hk h1
 refine ⟨by have:=r.1;simp;omega,c.le,c.bd,fun hp=>?_⟩;have hn0:0<n:=by have:=r.1;omega
 obtain ⟨b,o,rfl,hc⟩:=hs.cells.pos hn0;refine ⟨b,o,rfl,⟨o,n,c',rfl⟩,fun i hi=>⟨css[i]'(by have:=r.1;omega),r.2 i _ hi,fun j v hj=>?_⟩⟩;have h1:i<css.length:=by have:=r.1;omega
 have h2:j<Rep.k α:=by
  have h3:=(List.getElem?_eq_some_iff.1 hj).1;rwa [hlen _ (List.getElem_mem h1)] at h3
 rw [Nat.add_assoc];exact hc _ _ (by rw [flatten_at hlen i j h1 h2];exact hj)
theorem RdL.of_cap1 {f:α→Value} {h:Heap} {E:Nat→Prop} {e:TypeId} {x:SV} {l:List α} (hk:Rep.k α=1) (hf:∀h E a,Rep.rd h E [f a] a) (c:Cap h 1 e (sv x) (l.map f)):RdL h (blkC (sv x)) E x l:=
 (RdL.of_sl hk hf c.sl).mono (fun _ ⟨o,n,c,e,_⟩=>⟨o,n,c,e⟩) (fun _ h=>h)
section
variable {h0 h h':Heap} {D:Nat→Prop} {M R:List Itm} {x:SV} {k:Nat} {e:TypeId} {xs:List Value} {l:List α}
theorem Hp.own {a:Option Addr} {n c:Nat} (ok:Hp h0 D M R h) (o:Own h h' k e (.slice a n c) xs):Hp h0 D (capI k e (a,n,c) xs::M) R h':=ok.newM o.ext _ o.cap fun j hj=>⟨o.fresh j hj,o.cap.lt hj⟩
theorem Hp.ret (ok:Hp h0 D M R h) (c:Ext h h') (r:RdL h' (Nw h h') (Nw h h') x l):Hp h0 D M (rdI (Nw h h') (Nw h h') x l::R) h':=ok.newR c _ r fun _ hj=>hj.elim id id
theorem Hp.fresh {a:Itm} (ok:Hp h0 none_ (a::M) R h):∀j,a.F j→Nw h0 h j:=fun j hj=>
 have h1:=(ok.m a (by simp)).2 j hj
 ⟨h1.2.elim (fun f=>f.elim) id,h1.1⟩
theorem Hp.toOwn (ok:Hp h0 none_ (capI k e x xs::M) R h):Own h0 h k e (sv x) xs:=⟨ok.m0,ok.chg,fun j hj=>(ok.fresh j hj).1⟩
theorem Hp.arg (ok:Hp h0 D [] R h) {F E:Nat→Prop} (r:RdL h F E x l):Hp h0 D [] (rdI (fun j=>F j∧j<h.size) (fun j=>E j∧j<h.size) x l::R) h:=ok.old _ r.lt fun _ hj=>hj.elim (·.2) (·.2)
theorem Hp.frzB (ok:Hp h0 D (capI 1 e x xs::M) R h) {l:List UInt8} (hx:xs=l.map bv):Hp h0 D M (rdI (blkC (sv x)) none_ x l::R) h:=
 (ok.re (rdI (blkC (sv x)) none_ x l) (RdL.of_cap1 rfl (fun _ _ _=>rfl) (by have:=ok.m0;rw [hx] at this;exact this)) fun _ hj=>hj.elim id fun f=>f.elim).frz
theorem Hp.frzI (ok:Hp h0 D (capI 1 e x xs::M) R h) {l:List Int} (hx:xs=l.map iv):Hp h0 D M (rdI (blkC (sv x)) none_ x l::R) h:=
 (ok.re (rdI (blkC (sv x)) none_ x l) (RdL.of_cap1 rfl (fun _ _ _=>rfl) (by have:=ok.m0;rw [hx] at this;exact this)) fun _ hj=>hj.elim id fun f=>f.elim).frz
end
open Go
section
variable {h0 h h':Heap} {D:Nat→Prop} {M R:List Itm} {x:SV} {k:Nat} {e:TypeId} {xs ys:List Value}
theorem Own.form3 {v:Value} (o:Own h h' k e v xs):∃a n c,v=.slice a n c:=let ⟨a,n,c,e,_⟩:=o.cap;⟨a,n,c,e⟩
theorem Hp.nilC (ok:Hp h0 D M R h):Hp h0 D (capI k e (none,0,0) []::M) R h:=
 ok.newM (Ext.refl h) _ (Cap.nil _ _ _) fun j ⟨o,n,c,e⟩=>by cases e
theorem Hp.cx (ok:Hp h0 D (capI k e x xs::M) R h) (q:xs=ys):Hp h0 D (capI k e x ys::M) R h:=q▸ok
theorem snocI {l:List Int} {x:Int} : l.map iv++[.int .i64 x]=(l++[x]).map iv:=by simp [iv]
theorem bv_all {l:List UInt8} : ∀u∈l.map bv,u.oneCell'=true:=fun u hu=>by
 obtain ⟨x,_,rfl⟩:=List.mem_map.1 hu;rfl
theorem load_ag {P:Program} {b:Nat} {t e:TypeId} {cs:List Value} (ha:agB P t=some true) (hb:h[b]? = some (.cells cs.toArray e (0,0))) (hs:szB P t=some cs.length):LoadIs P h t ⟨b,0,none⟩ (.agg cs.toArray):=load_agg cs ha hs (cells0 hb)
theorem load_1 {P:Program} {b:Nat} {t e:TypeId} {v:Value} {l:List Value} (ha:agB P t=some false) (hb:h[b]? = some (.cells (v::l).toArray e (0,0))):LoadIs P h t ⟨b,0,none⟩ v:=load_one ha (by rw [cell_of hb];simp)
end
open Go
theorem sl_at {α:Type} {f:α→List Value} {h:Heap} {k b o n c:Nat} (hf:∀x,(f x).length=k) {l:List α} (r:Sl h k (.slice (some ⟨b,o,none⟩) n c) (l.flatMap f)) {i j:Nat} (hi:i<l.length) {v:Value} (hv:(f l[i])[j]? = some v):cell h b (o+i*k+j)=some v:=by
 have hl:=r.cells.1;rw [flat_len hf] at hl;have hj:j<k:=by have:=(List.getElem?_eq_some_iff.1 hv).1;rwa [hf] at this
 have hn:0<n:=by
  rcases Nat.eq_zero_or_pos n with e | e
  ·subst e;have:0<l.length*k:=Nat.mul_pos (by omega) (by omega);omega
  ·exact e
 obtain ⟨b',o',e,hc⟩:=r.cells.pos hn;injection e with e;injection e with e1 e2;subst e1 e2;exact cell_at hf hc hi hv
theorem Sl.pos {h:Heap} {k:Nat} {a:Option Addr} {n c:Nat} {xs:List Value} (r:Sl h k (.slice a n c) xs) (hn:0<n):∃b o,a=some ⟨b,o,none⟩∧blk (.slice a n c) b:=by
 obtain ⟨b,o,rfl,_⟩:=r.cells.pos hn;exact ⟨b,o,rfl,o,n,c,rfl,hn⟩
theorem Cap.pos {h:Heap} {k:Nat} {e:TypeId} {a:Option Addr} {n c:Nat} {xs:List Value} (r:Cap h k e (.slice a n c) xs) (hn:0<n):∃b o,a=some ⟨b,o,none⟩∧blkC (.slice a n c) b:=by
 obtain ⟨b,o,rfl,_⟩:=r.sl.pos hn;exact ⟨b,o,rfl,o,n,c,rfl⟩
theorem Sl.sz {α:Type} {f:α→List Value} {h:Heap} {k:Nat} {a:Option Addr} {n c:Nat} {l:List α} (r:Sl h k (.slice a n c) (l.flatMap f)) (hf:∀x,(f x).length=k) (hk:0<k):l.length=n∧n≤c∧c≤9223372036854775807:=by
 have hl:=r.cells.1;rw [flat_len hf] at hl;obtain ⟨a',n',c',hv,h1,h2,_⟩:=r;injection hv with e1 e2 e3;subst e1 e2 e3;exact ⟨Nat.eq_of_mul_eq_mul_right hk hl,h1,h2⟩
theorem blk_toC {v:Value} {j:Nat} (h:blk v j):blkC v j:=let ⟨o,n,c,e,_⟩:=h;⟨o,n,c,e⟩
theorem wrap_nat {k:IntKind} (hk:k.signed=false) (n:Nat):k.wrap (n:Int)=((n%2 ^ k.bits:Nat):Int):=by
 unfold IntKind.wrap;simp [hk]
theorem wrap_lt {k:IntKind} (hk:k.signed=false) {n:Nat} (h:n<2 ^ k.bits):k.wrap (n:Int)=(n:Int):=by
 rw [wrap_nat hk,Nat.mod_eq_of_lt h]
theorem bv_nat (w n:Nat):BitVec.ofInt w (n:Int)=BitVec.ofNat w n:=by simp
theorem byte_lt (x:UInt8):x.toNat<256:=x.toNat_lt
namespace OpV
variable {P:Program} {s:Slots} {h:Heap} {d:Option Tmp} {ty:TypeId} {pos:String} {af:Array Edge} {g:Option (Nat × Bool)} {x y c:Operand} {t u:TypeId} {k:IntKind} {a b:Nat}
section
variable {M:Nat}
theorem bxor (hM:M=2 ^ k.bits) (hk:k.signed=false) (hx:ev s x=.int k (a:Nat):=by exact rfl) (hy:ev s y=.int k (b:Nat):=by exact rfl) (ha:a<M:=by first | omega | exact Nat.lt_trans (byte_lt _) (by decide)) (hb:b<M:=by first | omega | exact Nat.lt_trans (byte_lt _) (by decide)) :
  OpV P ⟨d,.binOp .xor t x y u,ty,pos,af,g⟩ s h (.int k ((a ^^^ b:Nat):Int)):=fun w _=>by
 subst hM;have h1:a ^^^ b<2 ^ k.bits:=Nat.xor_lt_two_pow ha hb;have h2:(BitVec.ofNat k.bits a ^^^ BitVec.ofNat k.bits b).toNat=a ^^^ b:=by simp [Nat.mod_eq_of_lt ha,Nat.mod_eq_of_lt hb]
 simp only [execOp,hx,hy,binOp,Op.intBits,bv_nat,h2,wrap_lt hk h1];simp [V.eqG]
theorem band (hM:M=2 ^ k.bits) (hk:k.signed=false) (hx:ev s x=.int k (a:Nat):=by exact rfl) (hy:ev s y=.int k (b:Nat):=by exact rfl) (ha:a<M:=by first | omega | exact Nat.lt_trans (byte_lt _) (by decide)) (hb:b<M:=by first | omega | exact Nat.lt_trans (byte_lt _) (by decide)) :
  OpV P ⟨d,.binOp .and t x y u,ty,pos,af,g⟩ s h (.int k ((a &&& b:Nat):Int)):=fun w _=>by
 subst hM;have h1:a &&& b<2 ^ k.bits:=Nat.and_lt_two_pow a hb;have h2:(BitVec.ofNat k.bits a &&& BitVec.ofNat k.bits b).toNat=a &&& b:=by simp [Nat.mod_eq_of_lt ha,Nat.mod_eq_of_lt hb]
 simp only [execOp,hx,hy,binOp,Op.intBits,bv_nat,h2,wrap_lt hk h1];simp [V.eqG]
theorem bor (hM:M=2 ^ k.bits) (hk:k.signed=false) (hx:ev s x=.int k (a:Nat):=by exact rfl) (hy:ev s y=.int k (b:Nat):=by exact rfl) (ha:a<M:=by first | omega | exact Nat.lt_trans (byte_lt _) (by decide)) (hb:b<M:=by first | omega | exact Nat.lt_trans (byte_lt _) (by decide)) :
  OpV P ⟨d,.binOp .or t x y u,ty,pos,af,g⟩ s h (.int k ((a ||| b:Nat):Int)):=fun w _=>by
 subst hM;have h1:a ||| b<2 ^ k.bits:=Nat.or_lt_two_pow ha hb
 have h2:(BitVec.ofNat k.bits a ||| BitVec.ofNat k.bits b).toNat=a ||| b:=by simp [Nat.mod_eq_of_lt ha,Nat.mod_eq_of_lt hb]
 simp only [execOp,hx,hy,binOp,Op.intBits,bv_nat,h2,wrap_lt hk h1];simp [V.eqG]
theorem bandI {z1 z2:Int} (a b:Nat) (hx:ev s x=.int .i64 z1:=by exact rfl) (hy:ev s y=.int .i64 z2:=by exact rfl) (hab:z1=a∧z2=b∧a<9223372036854775808∧b<9223372036854775808:=by omega) :
  OpV P ⟨d,.binOp .and t x y u,ty,pos,af,g⟩ s h (.int .i64 ((a &&& b:Nat):Int)):=fun w _=>by
 obtain ⟨rfl,rfl,ha,hb⟩:=hab;have h1:a &&& b<2 ^ 63:=Nat.and_lt_two_pow a hb;have h2:(BitVec.ofNat 64 a &&& BitVec.ofNat 64 b).toNat=a &&& b:=by simp [Nat.mod_eq_of_lt (show a<2 ^ 64 by omega),Nat.mod_eq_of_lt (show b<2 ^ 64 by omega)]
 have h3:IntKind.i64.wrap ((a &&& b:Nat):Int)=((a &&& b:Nat):Int):=IntWalk.i64_in _ (by omega);have h4:(BitVec.ofInt IntKind.i64.bits (a:Int) &&& BitVec.ofInt IntKind.i64.bits (b:Int)).toNat=a &&& b:=by rw [bv_nat,bv_nat];exact h2
 simp only [execOp,hx,hy,binOp,Op.intBits,h4,h3];simp [V.eqG]
theorem addn (hM:M=2 ^ k.bits) (hk:k.signed=false) (hx:ev s x=.int k (a:Nat):=by exact rfl) (hy:ev s y=.int k (b:Nat):=by exact rfl) :
  OpV P ⟨d,.binOp .add t x y u,ty,pos,af,g⟩ s h (.int k (((a+b)%M:Nat):Int)):=by
 subst hM;have:=V.add_w (P:=P) (h:=h) (d:=d) (ty:=ty) (pos:=pos) (af:=af) (g:=g) (t:=t) (u:=u) hx hy;rwa [←Int.natCast_add,wrap_nat hk] at this
theorem muln (hM:M=2 ^ k.bits) (hk:k.signed=false) (hx:ev s x=.int k (a:Nat):=by exact rfl) (hy:ev s y=.int k (b:Nat):=by exact rfl) :
  OpV P ⟨d,.binOp .mul t x y u,ty,pos,af,g⟩ s h (.int k (((a*b)%M:Nat):Int)):=by
 subst hM;have:=V.mul_w (P:=P) (h:=h) (d:=d) (ty:=ty) (pos:=pos) (af:=af) (g:=g) (t:=t) (u:=u) hx hy;rwa [←Int.natCast_mul,wrap_nat hk] at this
theorem shrn {ky:IntKind} (hM:M=2 ^ k.bits) (hx:ev s x=.int k (a:Nat):=by exact rfl) (hy:ev s y=.int ky (b:Nat):=by exact rfl) (ha:a<M:=by omega) :
  OpV P ⟨d,.binOp .shr t x y u,ty,pos,af,g⟩ s h (.int k ((a / 2 ^ b:Nat):Int)):=fun w _=>by
 subst hM;have h0:¬((b:Int)<0):=by omega
 have h1:(a:Int).fdiv (2 ^ min b k.bits)=((a / 2 ^ b:Nat):Int):=by
  have e:((2:Int) ^ min b k.bits)=((2 ^ min b k.bits:Nat):Int):=by simp
  rw [e,←Int.ofNat_fdiv];congr 1;by_cases hb:b≤k.bits
  ·rw [Nat.min_eq_left hb]
  ·rw [Nat.min_eq_right (by omega),Nat.div_eq_of_lt ha,Nat.div_eq_of_lt (Nat.lt_of_lt_of_le ha (Nat.pow_le_pow_right (by omega) (by omega)))]
 simp [execOp,hx,hy,V.eqG,binOp,Op.shift,h0,h1]
theorem shln {ky:IntKind} (hM:M=2 ^ k.bits) (hk:k.signed=false) (hx:ev s x=.int k (a:Nat):=by exact rfl) (hy:ev s y=.int ky (b:Nat):=by exact rfl) (hb:b≤k.bits:=by decide) :
  OpV P ⟨d,.binOp .shl t x y u,ty,pos,af,g⟩ s h (.int k ((a*2 ^ b%M:Nat):Int)):=fun w _=>by
 subst hM;have h0:¬((b:Int)<0):=by omega
 have h1:k.wrap ((a:Int)*2 ^ min b k.bits)=((a*2 ^ b%2 ^ k.bits:Nat):Int):=by
  rw [Nat.min_eq_left hb];have e:(a:Int)*2 ^ b=((a*2 ^ b:Nat):Int):=by simp
  rw [e,wrap_nat hk]
 simp [execOp,hx,hy,V.eqG,binOp,Op.shift,h0];simpa using h1
theorem remn (hx:ev s x=.int k (a:Nat):=by exact rfl) (hy:ev s y=.int k (b:Nat):=by exact rfl) (hb:1≤b:=by omega) :
  OpV P ⟨d,.binOp .rem t x y u,ty,pos,af,g⟩ s h (.int k ((a%b:Nat):Int)):=V.rem hx hy (by omega)
theorem cpl (hM:M=2 ^ k.bits) (hk:k.signed=false) (hx:ev s x=.int k (a:Nat):=by exact rfl) (ha:a<M:=by omega) :
  OpV P ⟨d,.unOp .xor t x,ty,pos,af,g⟩ s h (.int k ((M-1-a:Nat):Int)):=fun w _=>by
 subst hM;have h1:(BitVec.ofInt k.bits k.max ^^^ BitVec.ofInt k.bits (a:Int)).toNat=2 ^ k.bits-1-a:=by
  have e1:k.max=((2 ^ k.bits-1:Nat):Int):=by
   unfold IntKind.max;rw [Int.ofNat_sub (Nat.two_pow_pos _)];simp [hk]
  rw [e1,bv_nat,bv_nat];have e2:BitVec.ofNat k.bits (2 ^ k.bits-1)=BitVec.allOnes k.bits:=by
   apply BitVec.eq_of_toNat_eq;simp
  rw [e2,BitVec.allOnes_xor];simp [Nat.mod_eq_of_lt ha]
 have h2:2 ^ k.bits-1-a<2 ^ k.bits:=by have:=Nat.two_pow_pos k.bits;omega
 simp only [execOp,hx,Op.unary,hk,Op.intBits,Bool.false_eq_true,if_false];rw [h1,wrap_lt hk h2];rfl
end
theorem cvm {k':IntKind} {M:Nat} (hu:inB P u=some k') (ht:inB P t=some k) (hM:M=2 ^ k'.bits) (hk:k'.signed=false) (hx:ev s x=.int k (a:Nat):=by exact rfl) :
  OpV P ⟨d,.convert t u x,ty,pos,af,g⟩ s h (.int k' ((a%M:Nat):Int)):=by
 subst hM;exact V.convE hx hu ht (wrap_nat hk a)
theorem cvs {k':IntKind} {M:Nat} (hu:inB P u=some k') (ht:inB P t=some k) (hM:M=2 ^ k'.bits) (hk:k'.signed=false) (hx:ev s x=.int k (a:Nat):=by exact rfl) (ha:a<M:=by first | omega | exact Nat.lt_trans (byte_lt _) (by decide)) :
  OpV P ⟨d,.convert t u x,ty,pos,af,g⟩ s h (.int k' (a:Int)):=by
 subst hM;exact V.convE hx hu ht (wrap_lt hk ha)
theorem cvi (hu:inB P u=some .i64) (ht:inB P t=some k) (hx:ev s x=.int k (a:Nat):=by exact rfl) (ha:a<9223372036854775808:=by first | omega | exact Nat.lt_trans (byte_lt _) (by decide)) :
  OpV P ⟨d,.convert t u x,ty,pos,af,g⟩ s h (.int .i64 (a:Int)):=V.convE hx hu ht (IntWalk.i64_in _ (by omega))
theorem cvz {z:Int} (hu:inB P u=some .u64) (ht:inB P t=some .i64) (hx:ev s x=.int .i64 z:=by exact rfl) :
  OpV P ⟨d,.convert t u x,ty,pos,af,g⟩ s h (.int .u64 (((z%18446744073709551616).toNat:Nat):Int)):=V.convE hx hu ht (by
 have h0:(0:Int)≤z%18446744073709551616:=Int.emod_nonneg _ (by omega);rw [Int.toNat_of_nonneg h0];rfl)
theorem min2 {a b:Int} (hx:ev s x=.int .i64 a:=by exact rfl) (hy:ev s y=.int .i64 b:=by exact rfl):OpV P ⟨d,.call ⟨.builtin .min,#[x,y],#[t,u]⟩,ty,pos,af,g⟩ s h (.int .i64 (min a b)):=fun w _=>by
 have:min a b=if b<a then b else a:=by
  by_cases h:b<a
  ·rw [if_pos h];omega
  ·rw [if_neg h];omega
 rw [this];simp [execOp,resolve,invoke,builtin,hx,hy,Builtin.min_,Builtin.min2]
theorem max2 {a b:Int} (hx:ev s x=.int .i64 a:=by exact rfl) (hy:ev s y=.int .i64 b:=by exact rfl):OpV P ⟨d,.call ⟨.builtin .max,#[x,y],#[t,u]⟩,ty,pos,af,g⟩ s h (.int .i64 (max a b)):=fun w _=>by
 have:max a b=if b > a then b else a:=by
  by_cases h:b > a
  ·rw [if_pos h];omega
  ·rw [if_neg h];omega
 rw [this];simp [execOp,resolve,invoke,builtin,hx,hy,Builtin.max_,Builtin.max2]
end OpV
open Go
theorem OpA.mnz {P:Program} {s:Slots} {h0 h:Heap} {D:Nat→Prop} {M R:List Itm} {d:Option Tmp} {ty:TypeId} {pos:String} {af:Array Edge} {g:Option (Nat × Bool)} {x:Operand} {t e:TypeId} {ts ps:Array TypeId} {f:FuncId} {fn:Func} {z:Int} (n:Nat)
  (hf : P.funcs[f]? = some fn) (hb : fn.body = none) (hnm : ¬ fn.name = "runtime.NumGoroutine") (h1 : Extern.findNext fn = none) (h2 : Extern.find fn = some (Extern.BytealgMakeNoZero.makeNoZero ps #[t])) (ht : elB P t = some e) (ok : Hp h0 D M R h)
  (hx:ev s x=.int .i64 z:=by exact rfl) (hz:z=(n:Int)∧n≤140737488355328:=by omega) :
  OpA P ⟨d,.call ⟨.value (.func f),#[x],ts⟩,ty,pos,af,g⟩ s h (fun v h'=>∃b c cs,v=.slice (some ⟨b,0,none⟩) n c∧n≤c∧Hp h0 D (capI 1 e (some ⟨b,0,none⟩,n,c) cs::M) R h'∧Ext h h'):=fun E w at'=>by
 obtain ⟨rfl,hn⟩:=hz;obtain ⟨cs,hr,hc,hm⟩:=Lib.run_makeNoZero (P:=P) w ps t e (elB_iff ht) n (by omega);have hcm:=hm (by simp only [maxLen];omega);simp only [maxLen] at hcm;refine ⟨_,_,_,⟨h.size,cs.size,cs.toList.take n,rfl,hc,ok.newM (Ext.push _ (.cells cs e (0,0))) _ ?_ (fun j hj=>?_),Ext.push _ _⟩,(at'.drew.drew).alloc (.cells cs e (0,0)),?_⟩
 ·exact ⟨_,n,cs.size,rfl,hc,hcm,by simp [hc],.inr ⟨h.size,0,cs,(0,0),rfl,push_same _ _,by omega,fzOk_zero _,by simp⟩⟩
 ·obtain ⟨o,n',c',hv⟩:=hj;injection hv with h1;injection h1 with h1;injection h1 with h1;simp;omega
 ·simp [execOp,resolve,Deferred.ofValue,invoke,callFunc,hf,hnm,hb,h1,h2,hx];rw [hr];simp [at'.heap]
theorem run_storeAt {P:Program} {h:Heap} {k:Nat} {e:TypeId} {b o n c i:Nat} {xs vs:List Value} (r:Cap h k e (.slice (some ⟨b,o,none⟩) n c) xs) (hl:i+vs.length≤n*k) (h1:∀u∈vs,u.oneCell'=true) {E:Env} {w:World} (at':At E h w) :
  ∃h' w',Cap h' k e (.slice (some ⟨b,o,none⟩) n c) (spl xs i vs)∧Chg (fun x=>x=b) h h'∧At E h' w'∧(storeCells ⟨b,o+i,none⟩ vs).run P w=.ok () w':=by
 obtain ⟨a',n',c',hv,hn,hcm,hxl,hr⟩:=r;injection hv with g1 g2 g3;subst g1 g2 g3;rcases hr with ⟨hbad,_⟩ | ⟨b',o',cs,fz,hab,hb,hs,hf,hx⟩
 ·cases hbad
 injection hab with hab;injection hab with g1 g2;subst g1 g2;have hwb:w.heap[b]? = some (.cells cs e fz):=by rw [at'.heap];exact hb
 have hnk:n*k≤c*k:=Nat.mul_le_mul_right _ hn;have hfit:o+i+vs.length≤cs.toList.length:=by simp;omega
 have hst:=run_storeCells_cells (P:=P) b (o+i) vs 0 w (fun j hj=>by rw [cell?_eq,cell_of hwb];simp;omega) (fun j hj=>frozen?_eq hwb hf (by omega)) h1;simp only [Nat.add_zero] at hst;rw [setCells_row b e fz vs (o+i) w cs hwb (by omega)] at hst;refine ⟨_,_,?_,hput_chg h b _,at'.setRow _ _,hst⟩;have hspl:i+vs.length≤xs.length:=by omega
 refine ⟨_,_,_,rfl,hn,hcm,by rw [spl_length hspl];exact hxl,.inr ⟨b,o,(spl cs.toList (o+i) vs).toArray,fz,rfl,hput_same hb,?_,?_,?_⟩⟩
 ·simp only [List.size_toArray];rw [spl_length hfit];simpa using hs
 ·simp only [List.size_toArray];rw [spl_length hfit];simpa using hf
 ·apply List.ext_getElem?;intro j;have hx':j<n*k→xs[j]? = cs.toList[o+j]?:=fun hj=>by rw [←hx,List.getElem?_take,if_pos hj,List.getElem?_drop]
  rw [List.getElem?_take];split
  ·rename_i hj;rw [List.getElem?_drop];by_cases h2:j<i
   ·rw [spl_lt (by omega) hfit,spl_lt h2 hspl,hx' hj]
   ·by_cases h3:j<i+vs.length
    ·have e1:o+j=o+i+(j-i):=by omega
     have e2:spl xs i vs=spl xs i vs:=rfl;rw [e1,spl_mid (by omega) hfit];have:=spl_mid (cs:=xs) (vs:=vs) (o:=i) (j:=j-i) (by omega) hspl;rw [show i+(j-i)=j by omega] at this;rw [this]
    ·rw [spl_gt (by omega) hfit,spl_gt (by omega) hspl,hx' hj]
  ·rename_i hj;rw [List.getElem?_eq_none];rw [spl_length hspl];omega
theorem OpA.cpy {P:Program} {s:Slots} {h0 h:Heap} {D:Nat→Prop} {M R:List Itm} {d:Option Tmp} {ty:TypeId} {pos:String} {af:Array Edge} {g:Option (Nat × Bool)} {x y:Operand} {t t' e:TypeId} {b o n c k:Nat} {a':Option Addr} {m c':Nat} {xs ys:List Value} (i:Nat)
  (ht:elB P t=some e) (hk:szB P e=some k) (ok:Hp h0 D (capI k e (some ⟨b,o,none⟩,n,c) xs::M) R h) (hn:Sl h k (.slice a' m c') ys) (h1:∀u∈ys,u.oneCell'=true)
  (hx:ev s x=.slice (cutA (some ⟨b,o,none⟩) i c k) (n-i) (c-i)) (hy:ev s y=.slice a' m c':=by exact rfl) (him:i+m≤n:=by omega) :
  OpA P ⟨d,.call ⟨.builtin .copy,#[x,y],#[t,t']⟩,ty,pos,af,g⟩ s h (fun v h'=>v=.int .i64 (m:Int)∧Hp h0 D (capI k e (some ⟨b,o,none⟩,n,c) (spl xs (i*k) ys)::M) R h'∧Chg (fun j=>j=b) h h'):=fun E w at'=>by
 have hr0:=hn.cells;have hlim:i*k+ys.length≤n*k:=by rw [hr0.1,←Nat.add_mul];exact Nat.mul_le_mul_right _ him
 have hnc:n≤c:=Cap.le ok.m0;by_cases hic:c=i
 ·
  subst hic;have hm0:m=0:=by omega
  subst hm0;have hys:ys=[]:=List.eq_nil_of_length_eq_zero (by simpa using hr0.1);subst hys;refine ⟨_,h,w,⟨rfl,?_,Chg.refl _ _⟩,at',?_⟩
  ·have:spl xs (c*k) []=xs:=by simp [spl]
   rw [this];exact ok
  ·have hf:(Builtin.firstCells k 0 (.slice a' 0 c')).run P w=.ok #[] w:=by cases a'<;>simp [Builtin.firstCells,loadCells,loadCellsFrom]
   have hc:cutA (some ⟨b,o,none⟩) c c k=some ⟨b,o,none⟩:=by unfold cutA;rw [if_pos rfl]
   rw [hc] at hx;simp [execOp,resolve,invoke,builtin,hx,hy,Builtin.copy_,run_und (elB_iff ht),Builtin.lenOf,run_szB hk,hf,goInt,storeCells]
 ·obtain ⟨h',w',hcap,hchg,at2,hr⟩:=run_storeAt (P:=P) ok.m0 hlim h1 at';refine ⟨_,h',w',⟨rfl,ok.upd hchg (fun j e=>by subst e;exact ⟨o,n,c,rfl⟩) _ hcap (fun _ x=>.inl x),hchg⟩,at2,?_⟩;rw [cutA_some hic] at hx;have hmin:Nat.min m (n-i)=m:=Nat.min_eq_left (by omega);have hf:(Builtin.firstCells k m (.slice a' m c')).run P w=.ok ys.toArray w:=by
   by_cases hm0:m=0
   ·subst hm0;have:ys=[]:=List.eq_nil_of_length_eq_zero (by simpa using hr0.1);subst this;cases a'<;>simp [Builtin.firstCells,loadCells,loadCellsFrom]
   ·obtain ⟨b',o',rfl,hcell⟩:=hr0.2 (by omega);exact run_firstCells_some w k m ⟨b',o',none⟩ m c' ys hr0.1 (fun j v hj=>by rw [Addr.add_lit,cell?_eq,at'.heap];exact hcell j v hj)
  simp [execOp,resolve,invoke,builtin,hx,hy,Builtin.copy_,run_und (elB_iff ht),Builtin.lenOf,hmin,run_szB hk,hf,hr,goInt]
theorem OpA.cp0 {P:Program} {s:Slots} {h0 h:Heap} {D:Nat→Prop} {M R:List Itm} {d:Option Tmp} {ty:TypeId} {pos:String} {af:Array Edge} {g:Option (Nat × Bool)} {x y:Operand} {t t' e:TypeId} {b o n c k:Nat} {a':Option Addr} {m c':Nat} {xs ys:List Value}
  (ht:elB P t=some e) (hk:szB P e=some k) (ok:Hp h0 D (capI k e (some ⟨b,o,none⟩,n,c) xs::M) R h) (hn:Sl h k (.slice a' m c') ys) (h1:∀u∈ys,u.oneCell'=true)
  (hx:ev s x=.slice (some ⟨b,o,none⟩) n c:=by exact rfl) (hy:ev s y=.slice a' m c':=by exact rfl) (him:m≤n:=by omega) :
  OpA P ⟨d,.call ⟨.builtin .copy,#[x,y],#[t,t']⟩,ty,pos,af,g⟩ s h (fun v h'=>v=.int .i64 (m:Int)∧Hp h0 D (capI k e (some ⟨b,o,none⟩,n,c) (ys++xs.drop ys.length)::M) R h'∧Chg (fun j=>j=b) h h'):=
 OpA.mk (OpA.cpy (t':=t') 0 ht hk ok hn h1 (by rw [hx];unfold cutA;split<;>simp [Addr.add_zero']) hy (by omega)) fun v h' q=>by
  have e:spl xs (0*k) ys=ys++xs.drop ys.length:=by simp [spl]
  rw [e] at q;exact q
theorem OpA.mks {P:Program} {s:Slots} {h0 h:Heap} {D:Nat→Prop} {M R:List Itm} {d:Option Tmp} {ty:TypeId} {pos:String} {af:Array Edge} {g:Option (Nat × Bool)} {x y:Operand} {t e:TypeId} {k bytes:Nat} {z:Value} {z1 z2:Int} (n m:Nat)
  (ht:elB P t=some e) (hk:szB P e=some k) (hb:byB P e=some bytes) (hz:zrB P e=some z) (ok:Hp h0 D M R h)
  (hx:ev s x=.int .i64 z1:=by exact rfl) (hy:ev s y=.int .i64 z2:=by exact rfl) (hnm:z1=(n:Int)∧z2=(m:Int)∧n≤m∧m*bytes≤281474976710656∧m≤9223372036854775807:=by omega) :
  OpA P ⟨d,.makeSlice t x y,ty,pos,af,g⟩ s h (fun v h'=>∃b,v=.slice (some ⟨b,0,none⟩) n m∧Hp h0 D (capI k e (some ⟨b,0,none⟩,n,m) ((List.range (n*k)).map (z.cells[· % z.cells.size]!))::M) R h'∧Ext h h'):=fun E w at'=>by
 obtain ⟨rfl,rfl,h1,h2,h3⟩:=hnm;obtain ⟨w',at2,hr⟩:=V.makeSlice (P:=P) (s:=s) (h:=h) (d:=d) (ty:=ty) (pos:=pos) (af:=af) (g:=g) hx hy ht hk hb hz h1 h2 h3 E w at';have hnk:n*k≤m*k:=Nat.mul_le_mul_right _ h1;refine ⟨_,_,w',⟨h.size,rfl,ok.newM (Ext.push _ _) _ ?_ (fun j hj=>?_),Ext.push _ _⟩,at2,hr⟩
 ·refine ⟨_,n,m,rfl,h1,h3,by simp,.inr ⟨h.size,0,_,(0,0),rfl,push_same _ _,by simp,fzOk_zero _,?_⟩⟩;apply List.ext_getElem?;intro j;rw [List.drop_zero,List.getElem?_take];by_cases hj:j<n*k
  ·rw [if_pos hj];simp [hj,Nat.lt_of_lt_of_le hj hnk]
  ·rw [if_neg hj];simp [hj]
 ·obtain ⟨o,n',c',hv⟩:=hj;injection hv with h1;injection h1 with h1;injection h1 with h1;simp;omega
theorem RdL.cut {α:Type} [Rep α] {h:Heap} {F E:Nat→Prop} {a:Option Addr} {n c:Nat} {l:List α} (r:RdL h F E (a,n,c) l) {i j:Nat} (hij:i≤j) (hj:j≤n):RdL h F E (cutA a i c (Rep.k α),j-i,c-i) ((l.drop i).take (j-i)):=by
 have hn:n=l.length:=r.n;have hnc:n≤c:=r.c;have hm:c≤9223372036854775807:=r.m;refine ⟨by simp;omega,by show j-i≤c-i;omega,by show c-i≤_;omega,fun hp=>?_⟩;have hp':0<j-i:=by simp at hp;omega
 obtain ⟨b,o,e,hb,hc⟩:=r.at' (by omega);simp only at e;subst e;refine ⟨b,o+i*Rep.k α,cutA_some (by omega),hb,fun q hq=>?_⟩;have hq':q<j-i:=by simp at hq;omega
 obtain ⟨cs,h1,h2⟩:=hc (i+q) (by omega);refine ⟨cs,by simpa using h1,fun w v hw=>?_⟩;have:=h2 w v hw;rwa [Nat.add_mul,←Nat.add_assoc] at this
theorem zeros8 (n:Nat):(List.range (n*1)).map ((Value.int .u8 0).cells[· % (Value.int .u8 0).cells.size]!)=(List.replicate n (0:UInt8)).map bv:=by
 apply List.ext_getElem?;intro j;by_cases hj:j<n
 ·simp [hj,Value.cells,bv,Nat.mod_one]
 ·simp [hj]
theorem Cap.lenB {h:Heap} {e:TypeId} {a:Option Addr} {n c:Nat} {l:List UInt8} (r:Cap h 1 e (.slice a n c) (l.map bv)):n=l.length:=by
 have:=r.sl.cells.1;simpa using this.symm
theorem Own.formB {h h':Heap} {e:TypeId} {v:Value} {l:List UInt8} (o:Own h h' 1 e v (l.map bv)):∃a c,v=.slice a l.length c:=by
 obtain ⟨a,n,c,rfl⟩:=o.form3;exact ⟨a,c,by rw [o.cap.lenB]⟩
theorem Hp.lenB {h0 h:Heap} {D:Nat→Prop} {M R:List Itm} {e:TypeId} {a:Option Addr} {n c:Nat} {l:List UInt8} (ok:Hp h0 D (capI 1 e (a,n,c) (l.map bv)::M) R h):n=l.length:=Cap.lenB ok.m0
theorem RdL.pre {α:Type} [Rep α] {h:Heap} {F E:Nat→Prop} {a:Option Addr} {n c:Nat} {l l2:List α} (r:RdL h F E (a,n,c) l) (h2:l2 <+: l):RdL h F E (a,l2.length,c) l2:=by
 obtain ⟨m,rfl⟩:=h2;have hn:n=(l2++m).length:=r.n;have hc:n≤c:=r.c;rw [List.length_append] at hn;refine ⟨rfl,by simp only;omega,r.m,fun hp=>?_⟩;obtain ⟨b,o,e,hb,hx⟩:=r.at' (by rw [List.length_append];omega);refine ⟨b,o,e,hb,fun i hi=>?_⟩;have:=hx i (by rw [List.length_append];omega);rwa [List.getElem_append_left hi] at this
section
variable {P:Program} {s:Slots} {h:Heap} {d:Option Tmp} {ty:TypeId} {pos:String} {af:Array Edge} {g:Option (Nat × Bool)} {x y:Operand} {t u:TypeId}
theorem OpV.addI {a b:Nat} (hx:ev s x=.int .i64 (a:Nat):=by exact rfl) (hy:ev s y=.int .i64 (b:Nat):=by exact rfl) (hr:a+b≤9223372036854775807:=by omega):OpV P ⟨d,.binOp .add t x y u,ty,pos,af,g⟩ s h (.int .i64 ((a+b:Nat):Int)):=by
 rw [Int.natCast_add];exact V.add hx hy (by omega)
theorem OpV.mulI {a b:Nat} (hx:ev s x=.int .i64 (a:Nat):=by exact rfl) (hy:ev s y=.int .i64 (b:Nat):=by exact rfl) (hr:a*b≤9223372036854775807:=by omega):OpV P ⟨d,.binOp .mul t x y u,ty,pos,af,g⟩ s h (.int .i64 ((a*b:Nat):Int)):=by
 rw [Int.natCast_mul];exact V.mul hx hy (by constructor<;>(have:=Int.natCast_mul a b;omega))
end
open Go
namespace OpV
theorem slA {P:Program} {s:Slots} {h:Heap} {d:Option Tmp} {ty:TypeId} {pos:String} {af:Array Edge} {g:Option (Nat × Bool)} {x:Operand} {t e:TypeId} {b o n k:Nat} (ht:arB P t=some (n,e)) (hk:szB P e=some k) (hn:0<n:=by decide) (hx:ev s x=.pointer (some ⟨b,o,none⟩):=by exact rfl) :
  OpV P ⟨d,.slice t x none none none,ty,pos,af,g⟩ s h (.slice (some ⟨b,o,none⟩) n n):=fun w _=>by
 have h1:((⟨b,o,none⟩:Addr).add (0*k))=⟨b,o,none⟩:=by simp [Addr.add_zero']
 have h2:¬n=0:=by omega
 simp [execOp,hx,Instr.sliceAt,run_und (arB_iff ht),Instr.sureAddr,Instr.sliceBounds,Instr.sliceBound,run_szB hk];intro _;exact Addr.add_zero' _
theorem bdA {P:Program} {s:Slots} {h:Heap} {d:Option Tmp} {ty:TypeId} {pos:String} {af:Array Edge} {g:Option (Nat × Bool)} {t e:TypeId} {n k:Nat} {l:List (Nat × Operand)} {z:Value} (cs:Array Value) (hz:zrB P t=some z) (ht:arB P t=some (n,e)) (hk:szB P e=some k)
  (hf:Instr.fill (fun i=>some (i*k,k)) z.cells (l.map fun p=>(p.1,ev s p.2))=some cs):OpV P ⟨d,.build t l.toArray,ty,pos,af,g⟩ s h (.agg cs):=fun w _=>by
 simp [execOp,Instr.build,run_zrB hz,run_und (arB_iff ht),run_szB hk,hf]
end OpV
section
variable {h0 h:Heap} {D:Nat→Prop} {M R:List Itm} {b k n:Nat} {t:TypeId} {cs:List Value}
theorem Hp.boxC (ok:Hp h0 D (boxI b t cs::M) R h) (hn:cs.length=n*k:=by exact rfl) (hm:n≤9223372036854775807:=by decide):Hp h0 D (capI k t (some ⟨b,0,none⟩,n,n) cs::M) R h:=
 ok.re _ ⟨_,n,n,rfl,Nat.le_refl _,hm,hn,.inr ⟨b,0,cs.toArray,(0,0),rfl,ok.m0,by simp [hn],fzOk_zero _,by simp [←hn]⟩⟩ (fun j hj=>by
  obtain ⟨o,n',c',hv⟩:=hj;injection hv with h1 h2 h3;injection h1 with h1;injection h1 with h1;exact h1.symm)
variable {a c:Itm} {ys:List Value}
theorem Hp.bx (ok:Hp h0 D (boxI b t cs::M) R h) (q:cs=ys):Hp h0 D (boxI b t ys::M) R h:=q▸ok
end
def Rows (h:Heap):List SV→List (List UInt8)→Prop
 | [],[]=>True
 | x::xs,l::ls=>(∃F E,RdL h F E x l)∧Rows h xs ls
 | _,_=>False
@[reducible] def any_:Nat→Prop:=fun _=>True
theorem Rows.all {h:Heap} : ∀ {xs:List SV} {ls:List (List UInt8)},Rows h xs ls→All2 (Rep.rd h any_) (xs.map fun x=>[sv x]) ls
 | [],[],_=>⟨rfl,fun i hi=>by simp at hi⟩
 | x::xs,l::ls,⟨⟨F,E,r⟩,hr⟩=>by
  have ih:=Rows.all hr;refine ⟨by simpa using ih.1,fun i hi hj=>?_⟩;cases i with
  | zero=>exact ⟨x,rfl,r.mono (fun _ _=>trivial) (fun _ _=>trivial)⟩
  | succ i=>exact ih.2 i (by simpa using hi) (by simpa using hj)
 | [],_::_,h=>h.elim
 | _::_,[],h=>h.elim
theorem flat_sing (xs:List SV):(xs.map fun x=>[sv x]).flatten=xs.map sv:=by induction xs with
 | nil=>rfl
 | cons x xs ih=>simp [ih]
theorem RdL.rows {h:Heap} {e:TypeId} {v:SV} {xs:List SV} {ls:List (List UInt8)} (c:Cap h 1 e (sv v) (xs.map sv)) (r:Rows h xs ls):RdL h any_ any_ v ls:=
 (RdL.of_cap (css:=xs.map fun x=>[sv x]) (by rw [flat_sing];exact c) r.all).mono (fun _ _=>trivial) (fun _ h=>h)
theorem RdL.ofCapB {h:Heap} {e:TypeId} {v:SV} {l:List UInt8} (c:Cap h 1 e (sv v) (l.map bv)):RdL h any_ any_ v l:=(RdL.of_cap1 (f:=bv) rfl (fun _ _ _=>rfl) c).mono (fun _ _=>trivial) (fun _ h=>h)
open Go
theorem zeroCells_eq (v:Value) (n:Nat) (hv:v.cells = #[v]):(Builtin.zeroCells v.cells n).toList=List.replicate n v:=by
 apply List.ext_getElem?;intro i;rw [hv];simp [Builtin.zeroCells];by_cases hi:i<n
 ·simp [hi,List.getElem?_replicate,Nat.mod_one]
 ·simp [hi,List.getElem?_replicate]
theorem run_appendZ {P:Program} {t tn e ty:TypeId} {kn kq:IntKind} (ht:elB P t=some e) (htn:inB P tn=some kn) (hk:szB P e=some 1) (hby:byB P e=some 1) (hz:zrB P e=some (.int .u8 0))
  {h:Heap} {v:Value} {xs:List Value} {m:Nat} (hv:Cap h 1 e v xs) (hfit:xs.length+m≤140737488355328) {E:Env} {w:World} (at':At E h w) :
  ∃v' h' w',(Cap h' 1 e v' (xs++List.replicate m (.int .u8 0))∧Chg (blkC v) h h'∧∀b,blkC v' b→blkC v b∨h.size≤b)∧At E h' w'∧(Builtin.append_ #[t,tn] ty #[v,.int kq m]).run P w=.ok v' w':=by
 obtain ⟨i,hi,hik⟩:=szB_iff hk;have hib:i.bytes=1:=by
  obtain ⟨i',hi',e'⟩:=byB_iff hby;rw [hi] at hi';injection hi' with hi';subst hi';exact e'
 have hiz:i.zero=some (.int .u8 0):=by
  obtain ⟨i',hi',e'⟩:=zrB_iff hz;rw [hi] at hi';injection hi' with hi';subst hi';exact e'
 have hut:=elB_iff ht;have hutn:=inB_iff htn;obtain ⟨a,n,c,rfl,hnc,hc,hl,hr⟩:=hv;have hl:xs.length=n:=by simpa using hl
 by_cases hm0:m=0
 ·subst hm0;refine ⟨.slice a n c,h,w,⟨by simpa using ⟨a,n,c,rfl,hnc,hc,by simpa using hl,hr⟩,Chg.refl _ _,fun b hb=>.inl hb⟩,at',?_⟩;cases a with
  | none=>simp [Builtin.append_,run_underlying hut,run_underlying hutn,sizeOf,typeInfo,hi,asInt,asIntOf,IntKind.wrap_i64,hnc,hib]
  | some ad=>simp [Builtin.append_,run_underlying hut,run_underlying hutn,sizeOf,typeInfo,hi,asInt,asIntOf,IntKind.wrap_i64,hnc,hib,storeCells]
 have hw:IntKind.i64.wrap (m:Int)=m:=by rw [IntKind.wrap_i64];omega
 have hneg:¬((m:Int)<0):=by omega
 have h48i:¬(281474976710656<(m:Int)):=by omega
 have grow:c<n+m→(Builtin.firstCells i.size n (.slice a n c)).run P w.drew=.ok xs.toArray w.drew→∃v' h' w',(Cap h' 1 e v' (xs++List.replicate m (.int .u8 0))∧Chg (blkC (.slice a n c)) h h'∧∀b,blkC v' b→blkC (.slice a n c) b∨h.size≤b)∧At E h' w'∧(Builtin.append_ #[t,tn] ty #[.slice a n c,.int kq m]).run P w=.ok v' w':=by
  intro hg hold;have hrun:=Lib.run_append_grow_zeros (P:=P) w t tn ty e i (.int .u8 0) kq kn hut hutn hi hiz a n c xs hold m (by omega) (by omega) hg (by omega) (by rw [hib];omega) (growslice_fits (by omega) (by rw [hib];omega));have hge:=grownCap_ge w (n+m) c e;have hcm:=grownCap_le_maxLen w (n+m) c e (by simp only [maxLen];omega);simp only [maxLen] at hcm;refine ⟨_,_,_,⟨⟨_,n+m,_,rfl,hge,hcm,by simp [hl],.inr ⟨w.heap.size,0,_,(0,0),rfl,by rw [at'.heap];exact push_same _ _,?_,fzOk_zero _,?_⟩⟩,(Ext.push _ _).to,?_⟩,(at'.drew).alloc _,hrun⟩
  ·simp only [Array.size_append,List.size_toArray,size_zeroCells,hl];simp [Value.cells];omega
  ·simp only [List.drop_zero,Array.toList_append,Nat.mul_one];rw [zeroCells_eq _ m rfl];have:n+m=(xs++List.replicate m (Value.int .u8 0)).length:=by simp [hl]
   rw [this];exact List.take_left
  ·rintro bb ⟨oo,nn,cc,hv⟩;right;injection hv with h1;injection h1 with h1;injection h1 with h1;rw [←h1,at'.heap];exact Nat.le_refl _
 rcases hr with ⟨rfl,rfl⟩ | ⟨b,o,cs,fz,rfl,hb,hs,hf,hx⟩
 ·have hn0:n=0:=by omega
  subst hn0;have hx0:xs=[]:=List.eq_nil_of_length_eq_zero hl;subst hx0;exact grow (by omega) (by rw [hik];exact run_firstCells_none _ _ _ _ _)
 ·by_cases hroom:n+m≤c
  ·have hwb:w.heap[b]? = some (.cells cs e fz):=by rw [at'.heap];exact hb
   have hst:=run_storeCells_cells (P:=P) b (o+n) (List.replicate m (.int .u8 0)) 0 w (fun j hj=>by rw [cell?_eq,cell_of hwb];simp at hj⊢;omega) (fun j hj=>frozen?_eq hwb hf (by simp at hj;omega)) (fun u hu=>by rw [List.eq_of_mem_replicate hu];rfl);rw [Nat.add_zero,setCells_row b e fz _ (o+n) w cs hwb (by simp;omega)] at hst;have hz2:(Builtin.zeroCells (Value.int .u8 0).cells m).toList=List.replicate m (.int .u8 0):=zeroCells_eq _ m rfl;refine ⟨.slice (some ⟨b,o,none⟩) (n+m) c,_,_,⟨⟨_,n+m,c,rfl,hroom,hc,by simp [hl],.inr ⟨b,o,(spl cs.toList (o+n) (List.replicate m (.int .u8 0))).toArray,fz,rfl,hput_same hb,?_,?_,?_⟩⟩,?_,?_⟩,at'.setRow _ _,?_⟩
   ·simp only [List.size_toArray];rw [spl_length (by simp;omega)];simpa using hs
   ·simp only [List.size_toArray];rw [spl_length (by simp;omega)];simpa using hf
   ·apply List.ext_getElem?;intro j;rw [List.getElem?_take];split
    ·rename_i hj;rw [List.getElem?_drop];by_cases hjn:j<n
     ·rw [spl_lt (by omega) (by simp;omega),List.getElem?_append_left (by omega),←hx,List.getElem?_take,if_pos (by omega),List.getElem?_drop]
     ·have e1:o+j=o+n+(j-n):=by omega
      rw [e1,spl_mid (by simp;omega) (by simp;omega),List.getElem?_append_right (by omega),hl]
    ·rename_i hj;rw [List.getElem?_eq_none];simp [hl];omega
   ·exact (hput_chg h b _).mono fun x _ hxb=>by subst hxb;exact ⟨o,n,c,rfl⟩
   ·rintro bb ⟨oo,nn,cc,hv⟩;left;injection hv with h1 h2 h3;injection h1 with h1;injection h1 with h1 h4;subst h1;exact ⟨o,n,c,rfl⟩
   ·have hns:¬(m*i.size=0):=by rw [hik];omega
    simp [Builtin.append_,run_underlying hut,run_underlying hutn,sizeOf,typeInfo,zeroValue,hi,hiz,asInt,asIntOf,hw,hneg,hns,hib,h48i,hroom,hz2,Addr.add_lit,hik,hst,hm0]
  ·have holds:∀j u,xs[j]? = some u→w.cell? ((⟨b,o,none⟩:Addr).add j)=some u:=fun j u hj=>by
    rw [Addr.add_lit,cell?_eq,at'.heap,cell_of hb,←Array.getElem?_toList];rw [←hx,List.getElem?_take] at hj;split at hj
    ·rwa [List.getElem?_drop] at hj
    ·cases hj
   exact grow (by omega) (run_firstCells_some (P:=P) w.drew i.size n ⟨b,o,none⟩ n c xs (by rw [hl,hik];simp) (by simpa using holds))
theorem bv_zeros {l:List UInt8} {m:Nat} : l.map bv++List.replicate m (.int .u8 0)=(l++List.replicate m 0).map bv:=by simp [bv]
section
variable {P:Program} {s:Slots} {h:Heap} {d:Option Tmp} {ty:TypeId} {pos:String} {af:Array Edge} {g:Option (Nat × Bool)} {x y:Operand} {t u:TypeId}
theorem OpV.maxn {a b:Nat} (hx:ev s x=.int .i64 (a:Int):=by exact rfl) (hy:ev s y=.int .i64 (b:Int):=by exact rfl):OpV P ⟨d,.call ⟨.builtin .max,#[x,y],#[t,u]⟩,ty,pos,af,g⟩ s h (.int .i64 ((max a b:Nat):Int)):=by
 have:((max a b:Nat):Int)=max (a:Int) (b:Int):=by omega
 rw [this];exact OpV.max2 hx hy
theorem OpV.mkf {f:FuncId} {xs:Array Operand} {vs:List Value} (hx:xs.toList.map (ev s)=vs:=by exact rfl):OpV P ⟨d,.makeFunc (.func f) #[] xs,ty,pos,af,g⟩ s h (.func (.func f) #[] vs.toArray):=fun w _=>by
 have e:xs.map (ev s)=vs.toArray:=by rw [←hx];apply Array.ext';simp
 simp [execOp,Instr.makeFunc,e]
end
theorem OpA.apz {P:Program} {s:Slots} {h0 h:Heap} {D:Nat→Prop} {M R:List Itm} {d:Option Tmp} {ty:TypeId} {pos:String} {af:Array Edge} {g:Option (Nat × Bool)} {x y:Operand} {t tn e:TypeId} {kn kq:IntKind} {a:Option Addr} {n c:Nat} {l:List UInt8} {z:Int} (m:Nat)
  (ht:elB P t=some e) (htn:inB P tn=some kn) (hk:szB P e=some 1) (hby:byB P e=some 1) (hz:zrB P e=some (.int .u8 0)) (ok:Hp h0 D (capI 1 e (a,n,c) (l.map bv)::M) R h) (hm:z=m) (hfit:l.length+m≤140737488355328)
  (hx:ev s x=.slice a n c:=by exact rfl) (hy:ev s y=.int kq z:=by exact rfl) :
  OpA P ⟨d,.call ⟨.builtin .append,#[x,y],#[t,tn]⟩,ty,pos,af,g⟩ s h (fun v' h'=>∃a' c',v'=.slice a' (l++List.replicate m 0).length c'∧Hp h0 D (capI 1 e (a',(l++List.replicate m 0).length,c') ((l++List.replicate m 0).map bv)::M) R h'):=fun E w at'=>by
 obtain ⟨v',h',w',⟨q1,q2,q3⟩,at2,hr⟩:=run_appendZ (ty:=ty) (kq:=kq) ht htn hk hby hz ok.m0 (m:=m) (by simpa using hfit) at';refine ⟨v',h',w',?_,at2,by subst hm;simp [execOp,resolve,invoke,builtin,hx,hy,hr]⟩;rw [bv_zeros] at q1;obtain ⟨x',rfl⟩:=q1.form;obtain ⟨a',n',c'⟩:=x';have hn:n'=(l++List.replicate m (0:UInt8)).length:=by
  have:=q1.sl.cells.1;simp only [List.length_map,Nat.mul_one] at this;exact this.symm
 subst hn;exact ⟨a',c',rfl,ok.upd q2 (fun _ x=>x) _ q1 fun j hj=>(q3 j hj).elim .inl fun h1=>.inr ⟨h1,q1.lt hj⟩⟩
theorem OpA.cpyA {P:Program} {s:Slots} {h0 h:Heap} {D:Nat→Prop} {M R:List Itm} {d:Option Tmp} {ty:TypeId} {pos:String} {af:Array Edge} {g:Option (Nat × Bool)} {x y:Operand} {t t' e:TypeId} {a:Option Addr} {n c k:Nat} {a':Option Addr} {m c':Nat} {xs ys:List Value} (i:Nat)
  (ht:elB P t=some e) (hk:szB P e=some k) (ok:Hp h0 D (capI k e (a,n,c) xs::M) R h) (hn:Sl h k (.slice a' m c') ys) (h1:∀u∈ys,u.oneCell'=true)
  (hx:ev s x=.slice (cutA a i c k) (n-i) (c-i)) (hy:ev s y=.slice a' m c':=by exact rfl) (him:i+m≤n:=by omega) :
  OpA P ⟨d,.call ⟨.builtin .copy,#[x,y],#[t,t']⟩,ty,pos,af,g⟩ s h (fun v h'=>v=.int .i64 (m:Int)∧Hp h0 D (capI k e (a,n,c) (spl xs (i*k) ys)::M) R h'∧Chg (blkC (sv (a,n,c))) h h'):=by
 have hc:Cap h k e (.slice a n c) xs:=ok.m0;obtain ⟨a1,n1,c1,hv,hnc,_,hl,hr⟩:=id hc;injection hv with e1 e2 e3;subst e1 e2 e3;rcases hr with ⟨rfl,rfl⟩ | ⟨b,o,cs,fz,rfl,_⟩
 ·have hm0:m=0:=by omega
  have hi0:i=0:=by omega
  have hn0:n=0:=by omega
  subst hm0 hi0 hn0;have hr0:=hn.cells;have hys:ys=[]:=List.eq_nil_of_length_eq_zero (by simpa using hr0.1);subst hys;have hxs:xs=[]:=List.eq_nil_of_length_eq_zero (by simpa using hl);subst hxs;refine fun E w at'=>⟨_,h,w,⟨rfl,by simpa [spl] using ok,Chg.refl _ _⟩,at',?_⟩;have hf:(Builtin.firstCells k 0 (.slice a' 0 c')).run P w=.ok #[] w:=by cases a'<;>simp [Builtin.firstCells,loadCells,loadCellsFrom]
  have hx':ev s x=.slice none 0 0:=by rw [hx];simp [cutA]
  simp [execOp,resolve,invoke,builtin,hx',hy,Builtin.copy_,run_und (elB_iff ht),Builtin.lenOf,run_szB hk,hf,goInt,storeCells]
 ·exact OpA.mk (OpA.cpy (t':=t') i ht hk ok hn h1 hx hy him) fun v h' q=>⟨q.1,q.2.1,q.2.2.mono fun x _ hx=>⟨o,n,c,by rw [show x=b from hx]⟩⟩
open Go
def stIB (P:Program) (t:TypeId) (n:Nat) (e:TypeId):Bool:=
 (match P.underlying t with | some (.struct _) => true | _ => false) && ((P.fieldsOf t).toList.map fun f => (f.name != "_", f.type, f.offset)) == ((List.range' 0 n).map fun i => (true, e, i))
theorem stIB_fs {P : Program} {t : TypeId} {n : Nat} {e : TypeId} (h : stIB P t n e = true) : P.underlying t = some (.struct (P.fieldsOf t)) ∧ ((P.fieldsOf t).toList.map fun f => (f.name != "_", f.type, f.offset)) = (List.range' 0 n).map fun i => (true, e, i) := by
 unfold stIB at h;rw [Bool.and_eq_true] at h;obtain ⟨h1,h2⟩:=h;refine ⟨?_,by simpa using h2⟩;unfold Program.fieldsOf;revert h1;cases hu:P.underlying t with
 | none=>intro h;cases h
 | some d=>cases d<;>intro h<;>first | rfl | cases h
theorem run_flds {P : Program} {e : TypeId} {k : IntKind} (he : P.underlying e = some (.int k)) (ha : agB P e = some false) (d : Nat) (w : World) (l m : List Int) (hlm : l.length = m.length) : ∀ (fs : List Field) (i n : Nat), i + n = l.length → (fs.map fun f => (f.name != "_", f.type, f.offset)) = ((List.range' i n).map fun i => (true, e, i)) →
  (Op.eqFields (d+1) (l.map (Value.int k)).toArray (m.map (Value.int k)).toArray fs).run P w=.ok (decide (l.drop i=m.drop i)) w
 | [],i,0,hi,_=>by
  have h1:l.drop i=[]:=List.drop_eq_nil_of_le (by omega);have h2:m.drop i=[]:=List.drop_eq_nil_of_le (by omega);simp [Op.eqFields,h1,h2]
 | [],i,n+1,_,h=>by simp [List.range'_succ] at h
 | f::fs,i,0,_,h=>by simp at h
 | f::fs,i,n+1,hi,h=>by
  simp only [List.map_cons,List.range'_succ,List.cons.injEq,Prod.mk.injEq] at h;obtain ⟨⟨hn,ht,ho⟩,hr⟩:=h;have hn' : f.name ≠ "_" := by simpa using hn
  have h1:i<l.length:=by omega
  have h2:i<m.length:=by omega
  have p1:(part e (l.map (Value.int k)).toArray i).run P w=.ok (.int k l[i]) w:=by simp [part,run_agB ha,h1]
  have p2:(part e (m.map (Value.int k)).toArray i).run P w=.ok (.int k m[i]) w:=by simp [part,run_agB ha,h2]
  have p3:(Op.equalIn (d+1) e (.int k l[i]) (.int k m[i])).run P w=.ok (l[i] == m[i]) w:=by simp [Op.equalIn,run_und he]
  simp only [Op.eqFields,if_pos hn',ht,ho,Sem.run_bind,p1,p2,p3,Result.andThen_ok];have ih:=run_flds he ha d w l m hlm fs (i+1) n (by omega) hr;have e1:(l.drop i=m.drop i)↔(l[i]=m[i]∧l.drop (i+1)=m.drop (i+1)):=by rw [List.drop_eq_getElem_cons h1,List.drop_eq_getElem_cons h2,List.cons.injEq]
  simp only [e1];by_cases hq:l[i]=m[i]
  ·simp only [hq,beq_self_eq_true,Bool.not_true,Bool.false_eq_true,if_false,ih];simp
  ·have:(l[i] == m[i])=false:=by simpa using hq
   simp [this,hq]
theorem wpAnyS_str {P:Program} {ops:Array Oper} {Q:Exit→Act→World→Prop} {bar:Nat} {S S':Bool→World→Prop} (hs:∀fl w,S' fl w→S fl w):∀(fuel:Nat) (listed:Array Bool) (a:Act) (w:World),wpAnyS P ops Q bar S' fuel listed a w→wpAnyS P ops Q bar S fuel listed a w
 | 0,_,_,_,h=>h
 | fuel+1,_,_,_,h=>⟨h.1,fun i hi=>wpOp_mono (fun a' w' h'=>⟨hs _ _ h'.1,wpAnyS_str hs fuel _ a' w' h'.2⟩) (h.2 i hi)⟩
theorem HA.str {P:Program} {n:Nat} {ops:Array Oper} {bar:Nat} {S:Bool→Heap→Prop} {K:Slots→Heap→Prop} {fuel:Nat} {listed:Array Bool} {s:Slots} {h:Heap} (S':Bool→Heap→Prop) (hs:∀fl hh,S' fl hh→S fl hh) (hk:HA P n ops bar S' K fuel listed s h):HA P n ops bar S K fuel listed s h:=
 fun E a w r at'=>wpAnyS_str (fun fl w' q=>hs fl w'.heap q) _ _ _ _ (hk E a w r at')
namespace OpV
variable {P:Program} {s:Slots} {h:Heap} {d:Option Tmp} {ty:TypeId} {pos:String} {af:Array Edge} {g:Option (Nat × Bool)} {x y:Operand} {t u:TypeId}
theorem stE {e:TypeId} {k:IntKind} (l m:List Int) (hs:stIB P t l.length e=true) (he:inB P e=some k) (ha:agB P e=some false) (hg:P.eqGuardType P.depth t=false) (hp:P.stoodInHeld t=false)
  (hx:ev s x=.agg (l.map (Value.int k)).toArray:=by exact rfl) (hy:ev s y=.agg (m.map (Value.int k)).toArray:=by exact rfl) (hm:l.length=m.length:=by exact rfl) :
  OpV P ⟨d,.binOp .eql t x y u,ty,pos,af,g⟩ s h (.bool (decide (l=m))):=fun w _=>by
 have h1:=stIB_fs hs;have h2:=run_flds (inB_iff he) ha 9998 w l m hm _ 0 l.length (Nat.zero_add _) h1.2;have h3:(Op.equalIn 10000 t (.agg (l.map (Value.int k)).toArray) (.agg (m.map (Value.int k)).toArray)).run P w=.ok (decide (l=m)) w:=by
  rw [show (10000:Nat)=(9998+1)+1 from rfl,run_equalIn_agg w (9998+1) t _ _ h1.1 hp,h2];rfl
 have h4:=run_eql_struct (P:=P) w t (l.map (Value.int k)).toArray (m.map (Value.int k)).toArray;rw [h3] at h4;simp only [Result.andThen_ok] at h4;simp only [execOp,hx,hy,Sem.run_bind,run_eqGuard_agg w .eql t x y _ _ hg,Result.andThen_ok,h4];rfl
end OpV
end Go.HL
namespace Go.Proofs.YtndlpekckpdncaaGreat
open Go Go.HL
theorem mixed:Go.Proofs.Tryz.prog.follows .mixedOrders=true:=by kernel_rfl
namespace T
theorem ag1:agB Go.Proofs.Tryz.prog 1=some false:=by kernel_rfl
theorem ag2:agB Go.Proofs.Tryz.prog 2=some false:=by kernel_rfl
theorem ag3:agB Go.Proofs.Tryz.prog 3=some false:=by kernel_rfl
theorem sz3:szB Go.Proofs.Tryz.prog 3=some 1:=by kernel_rfl
theorem by3:byB Go.Proofs.Tryz.prog 3=some 8:=by kernel_rfl
theorem zr3:zrB Go.Proofs.Tryz.prog 3=some (.int .i64 0):=by kernel_rfl
theorem in3:inB Go.Proofs.Tryz.prog 3=some .i64:=by kernel_rfl
theorem ag4:agB Go.Proofs.Tryz.prog 4=some false:=by kernel_rfl
theorem sz4:szB Go.Proofs.Tryz.prog 4=some 1:=by kernel_rfl
theorem zr4:zrB Go.Proofs.Tryz.prog 4=some (.bool false):=by kernel_rfl
theorem bo4:boB Go.Proofs.Tryz.prog 4=true:=by kernel_rfl
theorem ag5:agB Go.Proofs.Tryz.prog 5=some false:=by kernel_rfl
theorem sz5:szB Go.Proofs.Tryz.prog 5=some 1:=by kernel_rfl
theorem by5:byB Go.Proofs.Tryz.prog 5=some 1:=by kernel_rfl
theorem zr5:zrB Go.Proofs.Tryz.prog 5=some (.int .u8 0):=by kernel_rfl
theorem in5:inB Go.Proofs.Tryz.prog 5=some .u8:=by kernel_rfl
theorem st9:stB Go.Proofs.Tryz.prog 9=true:=by kernel_rfl
theorem zr23:zrB Go.Proofs.Tryz.prog 23=some (.agg #[(.int .i64 0),(.bool false),(.int .i64 0)]):=by kernel_rfl
theorem pl23:V.plB Go.Proofs.Tryz.prog 23=some [(0,1),(1,1),(2,1)]:=by kernel_rfl
theorem fd23_0:fdB Go.Proofs.Tryz.prog 23 0=some (0,3,0+1):=by kernel_rfl
theorem fd23_1:fdB Go.Proofs.Tryz.prog 23 1=some (1,4,0+1):=by kernel_rfl
theorem fd23_2:fdB Go.Proofs.Tryz.prog 23 2=some (2,3,0+1):=by kernel_rfl
theorem ag24:agB Go.Proofs.Tryz.prog 24=some false:=by kernel_rfl
theorem sz24:szB Go.Proofs.Tryz.prog 24=some 1:=by kernel_rfl
theorem zr24:zrB Go.Proofs.Tryz.prog 24=some (.slice none 0 0):=by kernel_rfl
theorem el24:elB Go.Proofs.Tryz.prog 24=some 3:=by kernel_rfl
theorem ag27:agB Go.Proofs.Tryz.prog 27=some false:=by kernel_rfl
theorem pt27:ptB Go.Proofs.Tryz.prog 27=some 123:=by kernel_rfl
theorem ag28:agB Go.Proofs.Tryz.prog 28=some false:=by kernel_rfl
theorem sz28:szB Go.Proofs.Tryz.prog 28=some 1:=by kernel_rfl
theorem el28:elB Go.Proofs.Tryz.prog 28=some 44:=by kernel_rfl
theorem ag34:agB Go.Proofs.Tryz.prog 34=some false:=by kernel_rfl
theorem sz34:szB Go.Proofs.Tryz.prog 34=some 1:=by kernel_rfl
theorem zr34:zrB Go.Proofs.Tryz.prog 34=some (.int .i64 0):=by kernel_rfl
theorem ag38:agB Go.Proofs.Tryz.prog 38=some true:=by kernel_rfl
theorem sz38:szB Go.Proofs.Tryz.prog 38=some 6:=by kernel_rfl
theorem zr38:zrB Go.Proofs.Tryz.prog 38=some (.agg #[(.int .i64 0),(.int .i64 0),(.int .i64 0),(.int .i64 0),(.int .i64 0),(.int .i64 0)]):=by kernel_rfl
theorem pl38:V.plB Go.Proofs.Tryz.prog 38=some [(0,1),(1,1),(2,1),(3,1),(4,1),(5,1)]:=by kernel_rfl
theorem fd38_0:fdB Go.Proofs.Tryz.prog 38 0=some (0,3,0+1):=by kernel_rfl
theorem fd38_1:fdB Go.Proofs.Tryz.prog 38 1=some (1,3,0+1):=by kernel_rfl
theorem fd38_2:fdB Go.Proofs.Tryz.prog 38 2=some (2,3,0+1):=by kernel_rfl
theorem fd38_3:fdB Go.Proofs.Tryz.prog 38 3=some (3,3,0+1):=by kernel_rfl
theorem fd38_4:fdB Go.Proofs.Tryz.prog 38 4=some (4,3,0+1):=by kernel_rfl
theorem fd38_5:fdB Go.Proofs.Tryz.prog 38 5=some (5,3,0+1):=by kernel_rfl
theorem ag44:agB Go.Proofs.Tryz.prog 44=some false:=by kernel_rfl
theorem sz44:szB Go.Proofs.Tryz.prog 44=some 1:=by kernel_rfl
theorem by44:byB Go.Proofs.Tryz.prog 44=some 24:=by kernel_rfl
theorem zr44:zrB Go.Proofs.Tryz.prog 44=some (.slice none 0 0):=by kernel_rfl
theorem el44:elB Go.Proofs.Tryz.prog 44=some 5:=by kernel_rfl
theorem ag63:agB Go.Proofs.Tryz.prog 63=some false:=by kernel_rfl
theorem pt63:ptB Go.Proofs.Tryz.prog 63=some 137:=by kernel_rfl
theorem ag89:agB Go.Proofs.Tryz.prog 89=some false:=by kernel_rfl
theorem sz89:szB Go.Proofs.Tryz.prog 89=some 1:=by kernel_rfl
theorem in89:inB Go.Proofs.Tryz.prog 89=some .u32:=by kernel_rfl
theorem el95:elB Go.Proofs.Tryz.prog 95=some 98:=by kernel_rfl
theorem el96:elB Go.Proofs.Tryz.prog 96=some 103:=by kernel_rfl
theorem sz98:szB Go.Proofs.Tryz.prog 98=some 3:=by kernel_rfl
theorem fd98_0:fdB Go.Proofs.Tryz.prog 98 0=some (0,3,0+1):=by kernel_rfl
theorem fd98_1:fdB Go.Proofs.Tryz.prog 98 1=some (1,5,0+1):=by kernel_rfl
theorem fd98_2:fdB Go.Proofs.Tryz.prog 98 2=some (2,5,0+1):=by kernel_rfl
theorem sz103:szB Go.Proofs.Tryz.prog 103=some 2:=by kernel_rfl
theorem by103:byB Go.Proofs.Tryz.prog 103=some 32:=by kernel_rfl
theorem zr103:zrB Go.Proofs.Tryz.prog 103=some (.agg #[(.int .i64 0),(.slice none 0 0)]):=by kernel_rfl
theorem pl103:V.plB Go.Proofs.Tryz.prog 103=some [(0,1),(1,1)]:=by kernel_rfl
theorem fd103_0:fdB Go.Proofs.Tryz.prog 103 0=some (0,3,0+1):=by kernel_rfl
theorem fd103_1:fdB Go.Proofs.Tryz.prog 103 1=some (1,44,0+1):=by kernel_rfl
theorem ag116:agB Go.Proofs.Tryz.prog 116=some false:=by kernel_rfl
theorem pt117:ptB Go.Proofs.Tryz.prog 117=some 202:=by kernel_rfl
theorem ag118:agB Go.Proofs.Tryz.prog 118=some false:=by kernel_rfl
theorem mp118:mpB Go.Proofs.Tryz.prog 118=some (3,44):=by kernel_rfl
theorem sz120:szB Go.Proofs.Tryz.prog 120=some 2:=by kernel_rfl
theorem zr120:zrB Go.Proofs.Tryz.prog 120=some (.agg #[(.int .i64 0),(.map none)]):=by kernel_rfl
theorem pl120:V.plB Go.Proofs.Tryz.prog 120=some [(0,1),(1,1)]:=by kernel_rfl
theorem fd120_0:fdB Go.Proofs.Tryz.prog 120 0=some (0,3,0+1):=by kernel_rfl
theorem fd120_1:fdB Go.Proofs.Tryz.prog 120 1=some (1,118,0+1):=by kernel_rfl
theorem sz121:szB Go.Proofs.Tryz.prog 121=some 1:=by kernel_rfl
theorem zr123:zrB Go.Proofs.Tryz.prog 123=some (.agg #[.nilIface,(.pointer none),(.int .i64 0),(.bool false),(.int .i64 0),(.map none),(.slice none 0 0),(.bool false)]):=by kernel_rfl
theorem pl123:V.plB Go.Proofs.Tryz.prog 123=some [(0,1),(1,1),(2,1),(3,1),(4,2),(6,1),(7,1)]:=by kernel_rfl
theorem fd123_0:fdB Go.Proofs.Tryz.prog 123 0=some (0,116,0+1):=by kernel_rfl
theorem fd123_2:fdB Go.Proofs.Tryz.prog 123 2=some (2,3,0+1):=by kernel_rfl
theorem fd123_3:fdB Go.Proofs.Tryz.prog 123 3=some (3,4,0+1):=by kernel_rfl
theorem fd123_4:fdB Go.Proofs.Tryz.prog 123 4=some (4,120,1+1):=by kernel_rfl
theorem fd123_5:fdB Go.Proofs.Tryz.prog 123 5=some (6,121,0+1):=by kernel_rfl
theorem fd123_6:fdB Go.Proofs.Tryz.prog 123 6=some (7,4,0+1):=by kernel_rfl
theorem ag130:agB Go.Proofs.Tryz.prog 130=some false:=by kernel_rfl
theorem sz130:szB Go.Proofs.Tryz.prog 130=some 1:=by kernel_rfl
theorem in130:inB Go.Proofs.Tryz.prog 130=some .u64:=by kernel_rfl
theorem ag135:agB Go.Proofs.Tryz.prog 135=some false:=by kernel_rfl
theorem mp135:mpB Go.Proofs.Tryz.prog 135=some (9,153):=by kernel_rfl
theorem zr137:zrB Go.Proofs.Tryz.prog 137=some (.agg #[(.map none),(.bool false),(.int .i64 0),(.int .i64 0)]):=by kernel_rfl
theorem pl137:V.plB Go.Proofs.Tryz.prog 137=some [(0,1),(1,1),(2,1),(3,1)]:=by kernel_rfl
theorem fd137_0:fdB Go.Proofs.Tryz.prog 137 0=some (0,135,0+1):=by kernel_rfl
theorem fd137_1:fdB Go.Proofs.Tryz.prog 137 1=some (1,4,0+1):=by kernel_rfl
theorem fd137_2:fdB Go.Proofs.Tryz.prog 137 2=some (2,3,0+1):=by kernel_rfl
theorem fd137_3:fdB Go.Proofs.Tryz.prog 137 3=some (3,3,0+1):=by kernel_rfl
theorem pt140:ptB Go.Proofs.Tryz.prog 140=some 212:=by kernel_rfl
theorem zr153:zrB Go.Proofs.Tryz.prog 153=some (.pointer none):=by kernel_rfl
theorem pt153:ptB Go.Proofs.Tryz.prog 153=some 156:=by kernel_rfl
theorem ag154:agB Go.Proofs.Tryz.prog 154=some false:=by kernel_rfl
theorem sz154:szB Go.Proofs.Tryz.prog 154=some 1:=by kernel_rfl
theorem el154:elB Go.Proofs.Tryz.prog 154=some 158:=by kernel_rfl
theorem zr156:zrB Go.Proofs.Tryz.prog 156=some (.agg #[(.slice none 0 0),(.slice none 0 0),(.bool false),(.bool false),(.slice none 0 0)]):=by kernel_rfl
theorem pl156:V.plB Go.Proofs.Tryz.prog 156=some [(0,1),(1,1),(2,1),(3,1),(4,1)]:=by kernel_rfl
theorem fd156_0:fdB Go.Proofs.Tryz.prog 156 0=some (0,44,0+1):=by kernel_rfl
theorem fd156_1:fdB Go.Proofs.Tryz.prog 156 1=some (1,44,0+1):=by kernel_rfl
theorem fd156_2:fdB Go.Proofs.Tryz.prog 156 2=some (2,4,0+1):=by kernel_rfl
theorem fd156_3:fdB Go.Proofs.Tryz.prog 156 3=some (3,4,0+1):=by kernel_rfl
theorem fd156_4:fdB Go.Proofs.Tryz.prog 156 4=some (4,154,0+1):=by kernel_rfl
theorem ag158:agB Go.Proofs.Tryz.prog 158=some true:=by kernel_rfl
theorem sz158:szB Go.Proofs.Tryz.prog 158=some 3:=by kernel_rfl
theorem by158:byB Go.Proofs.Tryz.prog 158=some 40:=by kernel_rfl
theorem zr158:zrB Go.Proofs.Tryz.prog 158=some (.agg #[(.int .i64 0),(.int .i64 0),(.slice none 0 0)]):=by kernel_rfl
theorem pl158:V.plB Go.Proofs.Tryz.prog 158=some [(0,1),(1,1),(2,1)]:=by kernel_rfl
theorem fd158_0:fdB Go.Proofs.Tryz.prog 158 0=some (0,3,0+1):=by kernel_rfl
theorem fd158_1:fdB Go.Proofs.Tryz.prog 158 1=some (1,3,0+1):=by kernel_rfl
theorem fd158_2:fdB Go.Proofs.Tryz.prog 158 2=some (2,44,0+1):=by kernel_rfl
theorem ag180:agB Go.Proofs.Tryz.prog 180=some false:=by kernel_rfl
theorem sz180:szB Go.Proofs.Tryz.prog 180=some 1:=by kernel_rfl
theorem zr180:zrB Go.Proofs.Tryz.prog 180=some (.map none):=by kernel_rfl
theorem mp180:mpB Go.Proofs.Tryz.prog 180=some (3,3):=by kernel_rfl
theorem ag193:agB Go.Proofs.Tryz.prog 193=some false:=by kernel_rfl
theorem ag194:agB Go.Proofs.Tryz.prog 194=some false:=by kernel_rfl
theorem pt194:ptB Go.Proofs.Tryz.prog 194=some 249:=by kernel_rfl
theorem sz198:szB Go.Proofs.Tryz.prog 198=some 4:=by kernel_rfl
theorem zr198:zrB Go.Proofs.Tryz.prog 198=some (.agg #[(.int .i64 0),(.int .i64 0),(.int .u64 0),(.map none)]):=by kernel_rfl
theorem pl198:V.plB Go.Proofs.Tryz.prog 198=some [(0,1),(1,1),(2,1),(3,1)]:=by kernel_rfl
theorem fd198_0:fdB Go.Proofs.Tryz.prog 198 0=some (0,3,0+1):=by kernel_rfl
theorem fd198_1:fdB Go.Proofs.Tryz.prog 198 1=some (1,3,0+1):=by kernel_rfl
theorem fd198_2:fdB Go.Proofs.Tryz.prog 198 2=some (2,130,0+1):=by kernel_rfl
theorem fd198_3:fdB Go.Proofs.Tryz.prog 198 3=some (3,180,0+1):=by kernel_rfl
theorem sz200:szB Go.Proofs.Tryz.prog 200=some 3:=by kernel_rfl
theorem zr200:zrB Go.Proofs.Tryz.prog 200=some (.agg #[(.bool false),(.int .i64 0),(.map none)]):=by kernel_rfl
theorem pl200:V.plB Go.Proofs.Tryz.prog 200=some [(0,1),(1,1),(2,1)]:=by kernel_rfl
theorem fd200_0:fdB Go.Proofs.Tryz.prog 200 0=some (0,4,0+1):=by kernel_rfl
theorem fd200_1:fdB Go.Proofs.Tryz.prog 200 1=some (1,3,0+1):=by kernel_rfl
theorem fd200_2:fdB Go.Proofs.Tryz.prog 200 2=some (2,118,0+1):=by kernel_rfl
theorem zr202:zrB Go.Proofs.Tryz.prog 202=some (.agg #[(.int .i64 0),(.int .i64 0),(.int .u64 0),(.map none),(.bool false),(.int .i64 0),(.map none),(.pointer none),(.int .i64 0),(.int .i64 0),(.pointer none),(.bool false)]):=by kernel_rfl
theorem pl202:V.plB Go.Proofs.Tryz.prog 202=some [(0,4),(4,3),(7,1),(8,1),(9,1),(10,1),(11,1)]:=by kernel_rfl
theorem fd202_0:fdB Go.Proofs.Tryz.prog 202 0=some (0,198,3+1):=by kernel_rfl
theorem fd202_1:fdB Go.Proofs.Tryz.prog 202 1=some (4,200,2+1):=by kernel_rfl
theorem fd202_2:fdB Go.Proofs.Tryz.prog 202 2=some (7,63,0+1):=by kernel_rfl
theorem fd202_3:fdB Go.Proofs.Tryz.prog 202 3=some (8,3,0+1):=by kernel_rfl
theorem fd202_4:fdB Go.Proofs.Tryz.prog 202 4=some (9,3,0+1):=by kernel_rfl
theorem fd202_5:fdB Go.Proofs.Tryz.prog 202 5=some (10,194,0+1):=by kernel_rfl
theorem fd202_6:fdB Go.Proofs.Tryz.prog 202 6=some (11,4,0+1):=by kernel_rfl
theorem ag208:agB Go.Proofs.Tryz.prog 208=some false:=by kernel_rfl
theorem mp208:mpB Go.Proofs.Tryz.prog 208=some (3,4):=by kernel_rfl
theorem sz210:szB Go.Proofs.Tryz.prog 210=some 7:=by kernel_rfl
theorem zr210:zrB Go.Proofs.Tryz.prog 210=some (.agg #[(.bool false),(.int .i64 0),(.int .i64 0),(.bool false),(.int .u64 0),(.map none),(.int .i64 0)]):=by kernel_rfl
theorem pl210:V.plB Go.Proofs.Tryz.prog 210=some [(0,1),(1,1),(2,1),(3,1),(4,1),(5,1),(6,1)]:=by kernel_rfl
theorem fd210_0:fdB Go.Proofs.Tryz.prog 210 0=some (0,4,0+1):=by kernel_rfl
theorem fd210_1:fdB Go.Proofs.Tryz.prog 210 1=some (1,3,0+1):=by kernel_rfl
theorem fd210_2:fdB Go.Proofs.Tryz.prog 210 2=some (2,3,0+1):=by kernel_rfl
theorem fd210_3:fdB Go.Proofs.Tryz.prog 210 3=some (3,4,0+1):=by kernel_rfl
theorem fd210_4:fdB Go.Proofs.Tryz.prog 210 4=some (4,130,0+1):=by kernel_rfl
theorem fd210_5:fdB Go.Proofs.Tryz.prog 210 5=some (5,208,0+1):=by kernel_rfl
theorem fd210_6:fdB Go.Proofs.Tryz.prog 210 6=some (6,3,0+1):=by kernel_rfl
theorem zr212:zrB Go.Proofs.Tryz.prog 212=some (.agg #[(.bool false),(.int .i64 0),(.int .i64 0),(.bool false),(.int .u64 0),(.map none),(.int .i64 0),(.pointer none),(.int .i64 0),(.pointer none),(.int .i64 0),(.int .i64 0),(.bool false)]):=by kernel_rfl
theorem pl212:V.plB Go.Proofs.Tryz.prog 212=some [(0,7),(7,1),(8,1),(9,1),(10,1),(11,1),(12,1)]:=by kernel_rfl
theorem fd212_0:fdB Go.Proofs.Tryz.prog 212 0=some (0,210,6+1):=by kernel_rfl
theorem fd212_1:fdB Go.Proofs.Tryz.prog 212 1=some (7,63,0+1):=by kernel_rfl
theorem fd212_2:fdB Go.Proofs.Tryz.prog 212 2=some (8,3,0+1):=by kernel_rfl
theorem fd212_3:fdB Go.Proofs.Tryz.prog 212 3=some (9,194,0+1):=by kernel_rfl
theorem fd212_4:fdB Go.Proofs.Tryz.prog 212 4=some (10,3,0+1):=by kernel_rfl
theorem fd212_5:fdB Go.Proofs.Tryz.prog 212 5=some (11,3,0+1):=by kernel_rfl
theorem fd212_6:fdB Go.Proofs.Tryz.prog 212 6=some (12,4,0+1):=by kernel_rfl
theorem ag245:agB Go.Proofs.Tryz.prog 245=some false:=by kernel_rfl
theorem mp245:mpB Go.Proofs.Tryz.prog 245=some (3,339):=by kernel_rfl
theorem fd247_0:fdB Go.Proofs.Tryz.prog 247 0=some (0,24,0+1):=by kernel_rfl
theorem zr249:zrB Go.Proofs.Tryz.prog 249=some (.agg #[(.slice none 0 0),(.int .i64 0),(.map none)]):=by kernel_rfl
theorem pl249:V.plB Go.Proofs.Tryz.prog 249=some [(0,1),(1,1),(2,1)]:=by kernel_rfl
theorem fd249_0:fdB Go.Proofs.Tryz.prog 249 0=some (0,247,0+1):=by kernel_rfl
theorem fd249_1:fdB Go.Proofs.Tryz.prog 249 1=some (1,3,0+1):=by kernel_rfl
theorem fd249_2:fdB Go.Proofs.Tryz.prog 249 2=some (2,245,0+1):=by kernel_rfl
theorem el252:elB Go.Proofs.Tryz.prog 252=some 277:=by kernel_rfl
theorem ag271:agB Go.Proofs.Tryz.prog 271=some true:=by kernel_rfl
theorem sz271:szB Go.Proofs.Tryz.prog 271=some 16:=by kernel_rfl
theorem zr271:zrB Go.Proofs.Tryz.prog 271=some (.agg #[(.int .u32 0),(.int .u32 0),(.int .u32 0),(.int .u32 0),(.int .u32 0),(.int .u32 0),(.int .u32 0),(.int .u32 0),(.int .u32 0),(.int .u32 0),(.int .u32 0),(.int .u32 0),(.int .u32 0),(.int .u32 0),(.int .u32 0),(.int .u32 0)]):=by kernel_rfl
theorem ar271:arB Go.Proofs.Tryz.prog 271=some (16,89):=by kernel_rfl
theorem zr275:zrB Go.Proofs.Tryz.prog 275=some (.agg #[(.slice none 0 0),(.int .i64 0),(.int .i64 0),(.int .u64 0),(.int .u64 0)]):=by kernel_rfl
theorem pl275:V.plB Go.Proofs.Tryz.prog 275=some [(0,1),(1,1),(2,1),(3,1),(4,1)]:=by kernel_rfl
theorem fd275_0:fdB Go.Proofs.Tryz.prog 275 0=some (0,44,0+1):=by kernel_rfl
theorem fd275_1:fdB Go.Proofs.Tryz.prog 275 1=some (1,3,0+1):=by kernel_rfl
theorem fd275_2:fdB Go.Proofs.Tryz.prog 275 2=some (2,3,0+1):=by kernel_rfl
theorem fd275_3:fdB Go.Proofs.Tryz.prog 275 3=some (3,130,0+1):=by kernel_rfl
theorem fd275_4:fdB Go.Proofs.Tryz.prog 275 4=some (4,130,0+1):=by kernel_rfl
theorem ag277:agB Go.Proofs.Tryz.prog 277=some true:=by kernel_rfl
theorem sz277:szB Go.Proofs.Tryz.prog 277=some 3:=by kernel_rfl
theorem by277:byB Go.Proofs.Tryz.prog 277=some 40:=by kernel_rfl
theorem zr277:zrB Go.Proofs.Tryz.prog 277=some (.agg #[(.int .i64 0),(.int .i64 0),(.slice none 0 0)]):=by kernel_rfl
theorem pl277:V.plB Go.Proofs.Tryz.prog 277=some [(0,1),(1,1),(2,1)]:=by kernel_rfl
theorem fd277_0:fdB Go.Proofs.Tryz.prog 277 0=some (0,3,0+1):=by kernel_rfl
theorem fd277_1:fdB Go.Proofs.Tryz.prog 277 1=some (1,3,0+1):=by kernel_rfl
theorem fd277_2:fdB Go.Proofs.Tryz.prog 277 2=some (2,44,0+1):=by kernel_rfl
theorem ag315:agB Go.Proofs.Tryz.prog 315=some true:=by kernel_rfl
theorem sz315:szB Go.Proofs.Tryz.prog 315=some 4:=by kernel_rfl
theorem zr315:zrB Go.Proofs.Tryz.prog 315=some (.agg #[(.int .u8 0),(.int .u8 0),(.int .u8 0),(.int .u8 0)]):=by kernel_rfl
theorem ar315:arB Go.Proofs.Tryz.prog 315=some (4,5):=by kernel_rfl
theorem zr339:zrB Go.Proofs.Tryz.prog 339=some (.pointer none):=by kernel_rfl
theorem pt339:ptB Go.Proofs.Tryz.prog 339=some 341:=by kernel_rfl
theorem zr341:zrB Go.Proofs.Tryz.prog 341=some (.agg #[(.slice none 0 0),(.bool false)]):=by kernel_rfl
theorem pl341:V.plB Go.Proofs.Tryz.prog 341=some [(0,1),(1,1)]:=by kernel_rfl
theorem fd341_0:fdB Go.Proofs.Tryz.prog 341 0=some (0,44,0+1):=by kernel_rfl
theorem fd341_1:fdB Go.Proofs.Tryz.prog 341 1=some (1,4,0+1):=by kernel_rfl
end T
open Go Go.HL
theorem T.ste38:stIB Tryz.prog 38 6 3=true:=by kernel_rfl
theorem T.stg38:Tryz.prog.eqGuardType Tryz.prog.depth 38=false:=by kernel_rfl
theorem T.stp38:Tryz.prog.stoodInHeld 38=false:=by kernel_rfl
end Go.Proofs.YtndlpekckpdncaaGreat
namespace Go.HL
open Go
section
variable {h0 h h':Heap} {D:Nat→Prop} {M R:List Itm} {r k:Nat} {t e:TypeId} {cs cs' xs:List Value} {x:SV}
theorem Hp.boxUp (ok:Hp h0 D (boxI r t cs::M) R h) (c:Chg (fun j=>j=r) h h') (hb:(boxI r t cs').p h'):Hp h0 D (boxI r t cs'::M) R h':=ok.upd c (fun _ h=>h) _ hb (fun _ h=>.inl h)
end
theorem RdL.cells {α:Type} [Rep α] {h:Heap} {F E:Nat→Prop} {x:SV} {l:List α} (r:RdL h F E x l):∃css,Sl h (Rep.k α) (sv x) css.flatten∧All2 (Rep.rd h E) css l:=by
 obtain ⟨a,n,c⟩:=x;have hn:n=l.length:=r.n;have hk:=Rep.kpos (α:=α);rcases Nat.eq_zero_or_pos l.length with h0 | h0
 ·have:l=[]:=List.eq_nil_of_length_eq_zero h0;subst this;have hn0:n=0:=by simpa using hn
  subst hn0;exact ⟨[],⟨a,0,c,rfl,r.c,r.m,by simp,fun h=>absurd h (by omega)⟩,All2.nil⟩
 ·obtain ⟨b,o,e,_,hc⟩:=r.at' h0;have hex:∀m,m≤l.length→∃css:List (List Value),css.length=m∧∀i (hi:i<l.length) (h2:i<css.length),Rep.rd h E css[i] l[i]∧∀j v,css[i][j]? = some v→cell h b (o+i*Rep.k α+j)=some v:=by
   intro m;induction m with
   | zero=>intro _;exact ⟨[],rfl,fun i _ h2=>absurd h2 (by simp)⟩
   | succ m ih=>
    intro hm;obtain ⟨css,h1,h2⟩:=ih (by omega);obtain ⟨cs,g1,g2⟩:=hc m (by omega);refine ⟨css++[cs],by simp [h1],fun i hi h3=>?_⟩;rw [List.getElem_append];split
    ·exact h2 i hi _
    ·rename_i h4;simp at h3;have:i=m:=by omega
     subst this;simp only [List.getElem_singleton];exact ⟨g1,g2⟩
  obtain ⟨css,h1,h2⟩:=hex l.length (Nat.le_refl _);have hal:All2 (Rep.rd h E) css l:=⟨h1,fun i g1 g2=>(h2 i g2 g1).1⟩;have hlen:∀cs∈css,cs.length=Rep.k α:=fun cs hcs=>by
   obtain ⟨i,hi,rfl⟩:=List.mem_iff_getElem.1 hcs;exact Rep.len (hal.2 i hi (by omega))
  refine ⟨css,⟨a,n,c,rfl,r.c,r.m,by rw [flatten_len hlen,h1,hn],fun _=>⟨b,o,e,fun i v hv=>?_⟩⟩,hal⟩;have hi:i<css.length*Rep.k α:=by have:=(List.getElem?_eq_some_iff.1 hv).1;rwa [flatten_len hlen] at this
  have hq:i / Rep.k α<css.length:=by rw [Nat.div_lt_iff_lt_mul hk];exact hi
  have hm:=Nat.mod_lt i hk;have he:i / Rep.k α*Rep.k α+i%Rep.k α=i:=by rw [Nat.mul_comm];exact Nat.div_add_mod _ _
  rw [←he,flatten_at hlen _ _ hq hm] at hv;have:=(h2 _ (by omega) hq).2 _ _ hv;rw [Nat.add_assoc,he] at this;exact this
open Go Go.MapKept V
@[reducible] def itI {κ:Type} (kv:κ→Value) (r bm:Nat) (l todo:List (κ × Value)):Itm:=⟨fun h=>Iter kv h r bm l todo,fun j=>j=r∨j=bm,fun _ _ _ c d x=>x.chg c (d r (.inl rfl)) (d bm (.inr rfl))⟩
@[reducible] def itcI {κ:Type} (kv:κ→Value) (r bm:Nat) (l todo:List (κ × Value)) (p:κ × Value):Itm:=⟨fun h=>Iter kv h r bm l todo∧Cur kv h r bm p,fun j=>j=r∨j=bm,fun _ _ _ c d x=>⟨x.1.chg c (d r (.inl rfl)) (d bm (.inr rfl)),x.2.chg c (d r (.inl rfl)) (d bm (.inr rfl))⟩⟩
theorem erase_filter {α:Type} (q:α→Bool):∀ {l:List α} {i:Nat} {e:α},l[i]? = some e→q e=false→(l.eraseIdx i).filter q=l.filter q
 | [],_,_,h,_=>by simp at h
 | x::l,0,e,h,hq=>by
  simp at h;subst h;simp [hq]
 | x::l,i+1,e,h,hq=>by
  simp only [List.getElem?_cons_succ] at h;rw [List.eraseIdx_cons_succ,List.filter_cons,List.filter_cons,erase_filter q h hq]
section
variable {P:Program} {s:Slots} {h0 h:Heap} {D:Nat→Prop} {M R:List Itm} {d:Option Tmp} {ty:TypeId} {pos:String} {af:Array Edge} {g:Option (Nat × Bool)} {x y c:Operand} {t kt et:TypeId} {κ:Type} {kv:κ→Value} {r bm:Nat} {l todo:List (κ × Value)}
theorem OpA.mkm (kv:κ→Value) (ok:Hp h0 D M R h):OpA P ⟨d,.makeMap t none,ty,pos,af,g⟩ s h (fun v h'=>∃b,v=.map (some b)∧Hp h0 D (mapI kv b []::M) R h'):=fun E w at'=>by
 obtain ⟨w',at2,hr⟩:=V.makeMap (P:=P) (s:=s) (h:=h) (d:=d) (t:=t) (ty:=ty) (pos:=pos) (af:=af) (g:=g) E w at';exact ⟨_,_,w',⟨h.size,rfl,ok.newM (Ext.push _ _) _ (MapT.new (push_same _ _)) (fun j hj=>by simp at hj⊢;omega)⟩,at2,hr⟩
theorem Hp.put [DecidableEq κ] {h':Heap} {l':List (κ × Value)} (ok:Hp h0 D (mapI kv r l::M) R h) (q:Put kv h r l' h'):Hp h0 D (mapI kv r l'::M) R h':=ok.upd q.chg (fun _ x=>x) _ q.map (fun _ x=>.inl x)
theorem OpUR.mpu [DecidableEq κ] {dd:TypeDesc} (K:KV kv dd) (hsb:∀a n,Instr.sameBits n (kv a) (kv a)=true) (k:κ) {v:Value} (ht:mpB P t=some (kt,et)) (hd:P.underlying kt=some dd) (ok:Hp h0 D (mapI kv r l::M) R h) (hy:ev s y=kv k:=by exact rfl) (hc:ev s c=v:=by exact rfl) (hx:ev s x=.map (some r):=by exact rfl) :
  OpUR P ⟨d,.mapUpdate t x y c,ty,pos,af,g⟩ s h (Hp h0 D (mapI kv r (aput l k v)::M) R):=OpUR.mk (V.mapUpdate K hsb hx hy hc ok.m0 ht hd) fun h' q=>ok.put q
theorem OpA.del [DecidableEq κ] {dd:TypeDesc} (K:KV kv dd) {u':TypeId} (k:κ) (ht:mpB P t=some (kt,et)) (hd:P.underlying kt=some dd) (ok:Hp h0 D (mapI kv r l::M) R h) (hy:ev s y=kv k:=by exact rfl) (hx:ev s x=.map (some r):=by exact rfl) :
  OpA P ⟨d,.call ⟨.builtin .delete,#[x,y],#[t,u']⟩,ty,pos,af,g⟩ s h (fun v h'=>v=.tuple #[]∧Hp h0 D (mapI kv r (adel l k)::M) R h'):=OpA.mk (V.delete K hx hy ok.m0 ht hd) fun v h' q=>⟨q.1,ok.put q.2⟩
theorem OpA.rng (ht:mpB P t=some (kt,et)) (ok:Hp h0 D (mapI kv r l::M) R h) (hx:ev s x=.map (some r):=by exact rfl) :
  OpA P ⟨d,.range t x,ty,pos,af,g⟩ s h (fun v h'=>∃b,v=.pointer (some ⟨b,0,none⟩)∧Hp h0 D (itI kv b r l l::M) R h'):=OpA.mk (V.range hx ok.m0 ht) fun v h' ⟨e,it,x,hs⟩=>
 ⟨h.size,e,ok.upd (G:=none_) x (fun _ f=>f.elim) _ it fun j hj=>hj.elim (fun e=>.inr ⟨by omega,by omega⟩) .inl⟩
theorem OpA.nxt (ok:Hp h0 D (itI kv r bm l todo::M) R h) (hx:ev s x=.pointer (some ⟨r,0,none⟩):=by exact rfl) :
  OpA P ⟨d,.next x false,ty,pos,af,g⟩ s h (fun v h'=>(todo=[]∧v=.tuple #[.bool false]∧Hp h0 D (itI kv r bm l todo::M) R h')∨(∃i p,todo[i]? = some p∧v=.tuple #[.bool true,kv p.1,p.2]∧Hp h0 D (itcI kv r bm l (todo.eraseIdx i) p::M) R h')):=fun E w at'=>by
 have hi:Iter kv h r bm l todo:=ok.m0;obtain ⟨es,cl,si,se,c0,h1,h2,he,hs,ho,hsc,hcl,ht⟩:=hi.ex;have w1:w.heap[r]? = some (.mapIter (some bm) si se c0):=by rw [at'.heap];exact h1
 have w2:w.heap[bm]? = some (.map es cl):=by rw [at'.heap];exact h2
 rcases run_next_at (P:=P) w ty r bm si c0 se es cl w1 w2 ho hsc with ⟨hz,hr⟩ | ⟨e,hem,w',hw',hr⟩
 ·refine ⟨_,h,w,.inl ⟨?_,rfl,ok⟩,at',by simp [execOp,hx,hr]⟩;have:(leftOf es se).toList=[]:=by rw [Array.eq_empty_of_size_eq_zero hz]
  rw [this] at ht;cases todo with
  | nil=>rfl
  | cons a b=>simp at ht
 ·obtain ⟨i,hi'⟩:=List.mem_iff_getElem?.1 hem;obtain ⟨p,hp,hk,hv⟩:=ents_at ht hi';have hei:e∈es.toList:=by unfold leftOf at hem;simp at hem;simpa using hem.1
  have hw2:At E h w':=by rcases hw' with rfl | rfl;exact at';exact ⟨at'.heap,at'.os,at'.tape,at'.output⟩
  obtain ⟨c1,c2,c3⟩:=set_chg (o':=.mapIter (some bm) si (se.push e.born) cl) h1;refine ⟨.tuple #[.bool true,e.key,e.val],_,_,.inr ⟨i,p,hp,by rw [hk,hv],ok.upd c1 (fun j e=>.inl e) (itcI kv r bm l (todo.eraseIdx i) p) ⟨⟨⟨es,cl,si,se.push e.born,cl,c2,c1.block h2 (fun e=>hi.ne e.symm),he,hs,ho,hcl,hcl,?_⟩⟩,⟨⟨es,cl,si,se,e,c2,c1.block h2 (fun e=>hi.ne e.symm),hei,hs.2.1,hk,hv⟩⟩⟩ (fun _ x=>.inl x)⟩,hw2.set r (.mapIter (some bm) si (se.push e.born) cl),by simp [execOp,hx,hr];rfl⟩;have hn:((leftOf es se).toList.map (·.born)).Nodup:=by
   unfold leftOf;rw [Array.toList_filter];exact hs.2.1.sublist ((List.filter_sublist).map _)
  have hl:(leftOf es (se.push e.born)).toList=(leftOf es se).toList.eraseIdx i:=by
   rw [←filter_idx (·.born) hn hi'];unfold leftOf;rw [Array.toList_filter,Array.toList_filter,List.filter_filter];apply List.filter_congr;intro x _;simp [Bool.and_comm]
  rw [hl,map_erase,ht,map_erase]
theorem OpV.ent {p:κ × Value} (hc:Cur kv h r bm p) (hx:ev s x=.pointer (some ⟨r,0,none⟩):=by exact rfl):OpV P ⟨d,.entry x,ty,pos,af,g⟩ s h (.tuple #[kv p.1,p.2]):=V.entry hx hc
theorem OpA.delC [DecidableEq κ] {dd:TypeDesc} (K:KV kv dd) {u':TypeId} {p:κ × Value} (ht:mpB P t=some (kt,et)) (hd:P.underlying kt=some dd) (ok:Hp h0 D (itcI kv r bm l todo p::M) R h) (hy:ev s y=kv p.1:=by exact rfl) (hx:ev s x=.map (some bm):=by exact rfl) :
  OpA P ⟨d,.call ⟨.builtin .delete,#[x,y],#[t,u']⟩,ty,pos,af,g⟩ s h (fun v h'=>v=.tuple #[]∧Hp h0 D (itI kv r bm (adel l p.1) todo::M) R h'):=fun E w at'=>by
 obtain ⟨hi,hc⟩:Iter kv h r bm l todo∧Cur kv h r bm p:=ok.m0;have hne:=hi.ne;have hn:=hi.map.nodup;obtain ⟨es,cl,si,se,c0,h1,hb,he,hs,ho,hsc,hcl,htd⟩:=hi.ex;obtain ⟨es2,cl2,si2,se2,e2,g1,g2,g3,g4,g5,g6⟩:=hc.ex;rw [h1] at g1;rw [hb] at g2;injection g1 with g1;injection g1 with _ g1a g1b g1c;injection g2 with g2;injection g2 with g2a g2b;subst g2a g1b;have hwb:w.heap[bm]? = some (.map es cl):=by rw [at'.heap];exact hb
 rcases MapT.find K he hn p.1 with ⟨_,_,h3⟩ | ⟨i,e,h5,h4,h7,h6,h8⟩
 ·obtain ⟨j,hj⟩:=List.mem_iff_getElem?.1 g3;obtain ⟨q,q1,q2,_⟩:=ents_at he hj;exact absurd (K.inj _ _ (by rw [←q2,g5])) (h3 q (List.mem_of_getElem? q1))
 ·have hil:i<es.size:=by have:=(List.getElem?_eq_some_iff.1 h4).1;simpa using this
  obtain ⟨c1,c2,c3⟩:=set_chg (o':=.map (es.eraseIdxIfInBounds i) cl) hb;have hel:(es.eraseIdxIfInBounds i).toList=es.toList.eraseIdx i:=by
   unfold Array.eraseIdxIfInBounds;rw [dif_pos hil,Array.toList_eraseIdx]
  have hee:e=e2:=by
   obtain ⟨j,hj⟩:=List.mem_iff_getElem?.1 g3;obtain ⟨q,q1,q2,_⟩:=ents_at he hj;obtain ⟨q',q1',q2',_⟩:=ents_at he h4;have hqq:q.1=q'.1:=K.inj _ _ (by rw [←q2,←q2',g5,h7]);have hij:i=j:=by
    have hnd:(l.map (·.1)).Nodup:=hn;have a1:(l.map (·.1))[i]? = some q'.1:=by rw [List.getElem?_map,q1'];rfl
    have a2:(l.map (·.1))[j]? = some q'.1:=by rw [List.getElem?_map,q1,←hqq];rfl
    exact (List.getElem?_inj (by have:=(List.getElem?_eq_some_iff.1 a1).1;exact this) hnd).1 (by rw [a1,a2])
   subst hij;rw [h4] at hj;injection hj
  refine ⟨_,_,_,⟨rfl,ok.upd c1 (fun j e=>.inr e) _ ⟨⟨_,_,_,_,_,c1.block h1 (fun e=>hne e),c2,?_,stamped_erase hs i,fun x hx=>ho x (by rw [hel] at hx;exact List.mem_of_mem_eraseIdx hx),hsc,hcl,?_⟩⟩ (fun _ x=>.inl x)⟩,at'.set bm (.map (es.eraseIdxIfInBounds i) cl),?_⟩
  ·rw [adel_some hn h6,hel,map_erase,he,map_erase]
  ·unfold leftOf at htd⊢;rw [Array.toList_filter] at htd⊢;rw [hel,erase_filter _ h4 (by rw [hee];simp)];exact htd
  ·simp [execOp,resolve,invoke,builtin,hx,hy,Builtin.delete_,run_und (mpB_iff ht),MapKept.run_getObj_map hwb,run_checkKey hd (K.key p.1),run_findKey hd h5,run_setObj_map _ hwb]
theorem Hp.itc {p:κ × Value} (ok:Hp h0 D (itcI kv r bm l todo p::M) R h):Hp h0 D (itI kv r bm l todo::M) R h:=ok.re _ ok.m0.1 (fun _ x=>x)
theorem Hp.itm (ok:Hp h0 D (itI kv r bm l todo::M) R h):Hp h0 D (mapI kv bm l::M) R h:=ok.re _ ok.m0.map (fun _ x=>.inr x)
end
theorem HO.a0' {P:Program} {n:Nat} {ops:Array Oper} {l:List Oper} {o:Oper} {K:Slots→Heap→Prop} {s:Slots} {h:Heap} {R:Value→Heap→Prop} (hv:OpA P o s h R) (hk:∀v h',R v h'→HO P n ops l K s h') (hw:wants ops o s=true:=by exact rfl) (hd:o.dst=none:=by exact rfl):HO P n ops (o::l) K s h:=HO.a0 hv hw hd hk
theorem OpV.lk {P:Program} {s:Slots} {h:Heap} {d:Option Tmp} {ty:TypeId} {pos:String} {af:Array Edge} {g:Option (Nat × Bool)} {x y:Operand} {t kt et:TypeId} {κ:Type} [DecidableEq κ] {kv:κ→Value} {dd:TypeDesc} (K:KV kv dd) {r:Nat} {l:List (κ × Value)} (k:κ) {z v:Value} (ht:mpB P t=some (kt,et)) (hd:P.underlying kt=some dd) (hz:zrB P et=some z) (hm:MapT kv h r l) (he:(aget l k).getD z=v) (hy:ev s y=kv k:=by exact rfl) (hx:ev s x=.map (some r):=by exact rfl) :
  OpV P ⟨d,.lookup t x y false,ty,pos,af,g⟩ s h v:=V.lookupE K hx hy hm ht hd hz he
theorem OpV.lk2 {P:Program} {s:Slots} {h:Heap} {d:Option Tmp} {ty:TypeId} {pos:String} {af:Array Edge} {g:Option (Nat × Bool)} {x y:Operand} {t kt et:TypeId} {κ:Type} [DecidableEq κ] {kv:κ→Value} {dd:TypeDesc} (K:KV kv dd) {r:Nat} {l:List (κ × Value)} (k:κ) {z v:Value} {b:Bool} (ht:mpB P t=some (kt,et)) (hd:P.underlying kt=some dd) (hz:zrB P et=some z) (hm:MapT kv h r l) (he:(aget l k).getD z=v) (hb:(aget l k).isSome=b) (hy:ev s y=kv k:=by exact rfl) (hx:ev s x=.map (some r):=by exact rfl) :
  OpV P ⟨d,.lookup t x y true,ty,pos,af,g⟩ s h (.tuple #[v,.bool b]):=V.lookupOkE K hx hy hm ht hd hz he hb
open Go
theorem run_markStringish {P:Program} {h:Heap} {e:TypeId} {b o n c:Nat} {xs:List Value} (r:Cap h 1 e (.slice (some ⟨b,o,none⟩) n c) xs) {E:Env} {w:World} (at':At E h w) :
  ∃h' w',Cap h' 1 e (.slice (some ⟨b,o,none⟩) n c) xs∧Chg (fun x=>x=b) h h'∧At E h' w'∧(markStringish ⟨b,o,none⟩).run P w=.ok () w':=by
 obtain ⟨a',n',c',hv,hn,hcm,hxl,hr⟩:=r;injection hv with g1 g2 g3;subst g1 g2 g3;rcases hr with ⟨hbad,_⟩ | ⟨b',o',cs,fz,hab,hb,hs,hf,hx⟩
 ·cases hbad
 injection hab with hab;injection hab with g1 g2;subst g1 g2;have hwb:w.heap[b]? = some (.cells cs e fz):=by rw [at'.heap];exact hb
 obtain ⟨lo,hi⟩:=fz;refine ⟨(w.freeze ⟨b,cs.size,none⟩ 1).heap,w.freeze ⟨b,cs.size,none⟩ 1,⟨_,_,_,rfl,hn,hcm,hxl,.inr ⟨b,o,cs,if lo == hi then (cs.size,cs.size+1) else (min lo cs.size,max hi (cs.size+1)),rfl,?_,hs,?_,hx⟩⟩,?_,⟨rfl,at'.os,at'.tape,at'.output⟩,?_⟩
 ·simp [World.freeze,Array.getElem?_modify,hwb]
 ·obtain ⟨h1,h2⟩:=hf;simp only at h1 h2;by_cases hlh:lo=hi
  ·simp [hlh,fzOk];intro j hj hj2;omega
  ·have:cs.size≤lo:=by
    rcases Nat.lt_or_ge lo cs.size with h3 | h3
    ·exact absurd ⟨Nat.le_refl _,by omega⟩ (h2 lo h3)
    ·exact h3
   simp only [beq_iff_eq,hlh,if_false,fzOk];refine ⟨by omega,fun j hj=>by omega⟩
 ·rw [←at'.heap];refine ⟨by simp [World.freeze],fun b' _ hf=>?_⟩;have:¬b=b':=fun e=>hf e.symm;simp [World.freeze,Array.getElem?_modify,this]
 ·simp [markStringish,shape,freeze,Sem.run,World.shape?,hwb]
section
variable {P:Program} {s:Slots} {h0 h:Heap} {D:Nat→Prop} {M R:List Itm} {d:Option Tmp} {ty:TypeId} {pos:String} {af:Array Edge} {g:Option (Nat × Bool)} {x:Operand} {t u e:TypeId}
theorem OpA.cvL {b o n c:Nat} {xs:List Value} (ht:elB P t=some e) (he:inB P e=some .u8) (ok:Hp h0 D (capI 1 e (some ⟨b,o,none⟩,n,c) xs::M) R h) (hx:ev s x=.slice (some ⟨b,o,none⟩) n c:=by exact rfl) :
  OpA P ⟨d,.convert t t x,ty,pos,af,g⟩ s h (fun v h'=>v=.slice (some ⟨b,o,none⟩) n c∧Hp h0 D (capI 1 e (some ⟨b,o,none⟩,n,c) xs::M) R h'∧Chg (fun j=>j=b) h h'):=fun E w at'=>by
 obtain ⟨h',w',hcap,hchg,at2,hr⟩:=run_markStringish (P:=P) ok.m0 at';refine ⟨_,h',w',⟨rfl,ok.upd hchg (fun j e=>by subst e;exact ⟨o,n,c,rfl⟩) _ hcap (fun _ x=>.inl x),hchg⟩,at2,?_⟩;simp [execOp,hx,convert,run_und (elB_iff ht),run_und (inB_iff he),hr]
def BA (l:List UInt8):ByteArray:=⟨l.toArray⟩
@[simp] theorem BA_toList (l:List UInt8):(BA l).toList=l:=by rw [ByteArray.toList_eq];simp [BA]
theorem fold_push (l:List UInt8):∀s:ByteArray,(l.map fun x=>(x.toNat:Int)).foldl (fun r n=>r.push (UInt8.ofNat n.toNat)) s=⟨s.data++l.toArray⟩:=by
 induction l with
 | nil=>intro s;simp
 | cons a l ih=>intro s;simp only [List.map_cons,List.foldl_cons,ih];simp [ByteArray.push]
theorem OpV.bts {v:Value} {l:List UInt8} (ht:elB P t=some e) (he:inB P e=some .u8) (hu:stB P u=true) (r:Bytes h v l) (hx:ev s x=v:=by exact rfl) :
  OpV P ⟨d,.convert t u x,ty,pos,af,g⟩ s h (.string (BA l)):=fun w hw=>by
 obtain ⟨a,n,c,rfl,h1,h2,hr⟩:=id r;have hc:(convert t u (.slice a n c)).run P w=(Conv.bytesToString (.slice a n c)).run P w:=run_convert_bytes_string w t u e a n c (elB_iff ht) (inB_iff he) (stB_iff hu);have hlen:l.length=n:=by have:=hr.1;simpa using this
 have hb:(Conv.bytesToString (.slice a n c)).run P w=.ok (.string (BA l)) w:=by
  cases a with
  | none=>
   have:n=0:=by
    rcases Nat.eq_zero_or_pos n with e | e
    ·exact e
    ·obtain ⟨b,o,e2,_⟩:=hr.2 e;cases e2
   have:l=[]:=List.eq_nil_of_length_eq_zero (by omega);subst this;simp [Conv.bytesToString,Sem.run_pure];rfl
  | some ad=>
   have hl:(loadCells ad n).run P w=.ok (((l.map fun x=>(x.toNat:Int)).map (Value.int .u8)).toArray) w:=by
    rcases Nat.eq_zero_or_pos n with e | e
    ·have:l=[]:=List.eq_nil_of_length_eq_zero (by omega);subst this;subst e;simp [loadCells,loadCellsFrom]
    ·obtain ⟨b,o,e2,hcl⟩:=hr.2 e;injection e2 with e2;subst e2;have:=run_loadCells_list (P:=P) (w:=w) ⟨b,o,none⟩ ((l.map fun x=>(x.toNat:Int)).map (Value.int .u8)) (fun j v hj=>by
      rw [Addr.add_lit,cell?_eq,hw];exact hcl j v (by rw [List.map_map] at hj;exact hj))
     simpa [hlen] using this
   rw [run_bytesToString w ad n c _ hl,fold_push];simp [BA]
 have:(convert t u (ev s x)).run P w=.ok (.string (BA l)) w:=by rw [hx,hc,hb]
 simp [execOp,this]
end
open Go Go.MapKept
theorem BA_inj {a b:List UInt8} (h:BA a=BA b):a=b:=by have:=congrArg ByteArray.toList h;simpa using this
theorem BA_size (l:List UInt8):(BA l).size=l.length:=by simp [BA,ByteArray.size]
theorem BA_beq (a b:List UInt8):((BA a).toList == (BA b).toList)=decide (a=b):=by rw [BA_toList,BA_toList];by_cases h:a=b<;>simp [h]
section
variable {P:Program} {s:Slots} {h:Heap} {d:Option Tmp} {ty:TypeId} {pos:String} {af:Array Edge} {g:Option (Nat × Bool)} {x y:Operand} {t u:TypeId} {a b:List UInt8}
theorem OpV.lenT (ht:stB P t=true) (hx:ev s x=.string (BA a):=by exact rfl):OpV P ⟨d,.call ⟨.builtin .len,#[x],#[t]⟩,ty,pos,af,g⟩ s h (.int .i64 (a.length:Nat)):=fun w _=>by
 simp [execOp,resolve,invoke,builtin,hx,Builtin.len_,goInt,BA_size,run_und (stB_iff ht)]
theorem OpV.tEqB (hx:ev s x=.string (BA a):=by exact rfl) (hy:ev s y=.string (BA b):=by exact rfl):OpV P ⟨d,.binOp .eql t x y u,ty,pos,af,g⟩ s h (.bool (decide (a=b))):=V.stEql hx hy (BA_beq a b)
theorem OpV.tNeB (hx:ev s x=.string (BA a):=by exact rfl) (hy:ev s y=.string (BA b):=by exact rfl):OpV P ⟨d,.binOp .neq t x y u,ty,pos,af,g⟩ s h (.bool (decide (a≠b))):=V.stNeq hx hy (by rw [BA_beq];by_cases h:a=b<;>simp [h])
end
@[reducible] def kvB (n:List UInt8):Value:=.string (BA n)
theorem KV.ba:KV kvB .string:=⟨fun a b h=>BA_inj (KV.string.inj _ _ h),fun a=>KV.string.key (BA a)⟩
theorem sbB (a:List UInt8) (n:Nat):Instr.sameBits n (kvB a) (kvB a)=true:=V.sbT (BA a) n
theorem OpC.dyn {P:Program} {s:Slots} {h:Heap} {d:Option Tmp} {ty:TypeId} {pos:String} {af:Array Edge} {g:Option (Nat × Bool)} {x:Operand} {xs:Array Operand} {ts:Array TypeId} {f:FuncId} {caps:Array Value} {args:List Value} (hx:ev s x=.func (.func f) #[] caps:=by exact rfl) (ha:xs.toList.map (ev s)++caps.toList=args:=by exact rfl) :
  OpC P ⟨d,.call ⟨.value x,xs,ts⟩,ty,pos,af,g⟩ s h f args.toArray:=fun w _ hc=>by
 have ha':xs.map (ev s)++caps=args.toArray:=by rw [←ha];apply Array.ext';simp
 rw [←ha'];obtain ⟨fn,hf,hb,hbody⟩:=hc;have h2' : ¬ fn.name = "runtime.NumGoroutine" := by simpa using hb
 have h3':¬fn.body=none:=by intro e;simp [e] at hbody
 simp [execOp,resolve,hx,Deferred.ofValue,invoke,callFunc,hf,h2',h3']
end Go.HL
