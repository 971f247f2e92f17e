/- The rules of the logic in few words: code as a list of what is still to run. Conditions: those that each rule names. Memory as a list of separate items that may turn, and a list of items that are read alone. Conditions: those that each fact names. What values in memory read as: one relation for each type of plain data. Conditions: those that each fact names. Operations on the bits of numbers that are not below 0, as rules of the logic. Conditions: those that each rule names. copy of a slice that may be longer than what it is copied to. Conditions: the target is one's own. More rules: slices of arrays, boxes as slices, rows of slices from what was made. Conditions: those that each rule names. A slice that grows by what its elements lead to, and a slice that is a part of it from its head on. Conditions: those that each fact names. Slices that grow in their room, parts that move, what stands behind is cleared. Conditions: the target is one's own. Closed facts on the types of this translation, written by a program of this claim; each is decided by the kernel. -/
import Derived.Test.YtfegfklipbnhjaaGreatPkZ1
import Derived.Lib.MakeNoZero
import Derived.Lib.Overlaps
import Derived.Lib.AppendZerosOnto
import Derived.Test.YtfegfklipbnhjaaGreatProg
set_option maxRecDepth 100000
set_option maxHeartbeats 2000000
set_option linter.all false
namespace Go.HL
open Go
def HS (ro:Option Nat) (P:Program) (n:Nat):List Code->(Exit->Slots->Heap->Prop)->Slots->Heap->Prop
 | [],Q,s,h=>Q .normal s h
 | c::k,Q,s,h=>HW ro P n c (thn (HS ro P n k Q) Q) s h
section code
variable {ro:Option Nat} {P:Program} {n:Nat} {Q:Exit->Slots->Heap->Prop} {s:Slots} {h:Heap} {k:List Code}
theorem HS.seq {a b:Code} (hk:HS ro P n (a::b::k) Q s h):HS ro P n (.seq a b::k) Q s h:=
 HW.seq fun _ hK=>HW.mono hk fun e s h q=>by cases e<;>first | exact hK _ _ q | exact q
theorem HS.skip (hk:HS ro P n k Q s h):HS ro P n (.skip::k) Q s h:=HW.skip hk
theorem HS.end (hk:Q .normal s h):HS ro P n [] Q s h:=hk
theorem HS.ret (hq:Q .ret s h):HS ro P n (.ret::k) Q s h:=HW.ret hq
theorem HS.exit {id:Nat} (hq:Q (.exit id) s h):HS ro P n (.exit id::k) Q s h:=HW.exit hq
theorem HS.cond {c:Operand} {x y:Code} {t:Bool} (ht:t=true->HS ro P n (x::k) Q s h) (hf:t=false->HS ro P n (y::k) Q s h) (hc:ev s c=.bool t:=by exact rfl):HS ro P n (.cond c x y::k) Q s h:=HW.cond hc ht hf
theorem HS.ct {c:Operand} {x y:Code} (ht:HS ro P n (x::k) Q s h) (hc:ev s c=.bool true:=by exact rfl):HS ro P n (.cond c x y::k) Q s h:=HW.cond_t hc ht
theorem HS.cf {c:Operand} {x y:Code} (hf:HS ro P n (y::k) Q s h) (hc:ev s c=.bool false:=by exact rfl):HS ro P n (.cond c x y::k) Q s h:=HW.cond_f hc hf
theorem HS.join {c:Code} (J:Slots->Heap->Prop) (hx:HS ro P n [c] (thn J Q) s h) (hy:∀s h,J s h->HS ro P n k Q s h):HS ro P n (c::k) Q s h:=
 HW.mono hx fun e s h q=>by cases e<;>first | exact hy _ _ q | exact q
theorem HS.block {id:Nat} {c:Code} (hk:∀K:Slots->Heap->Prop,(∀s h,HS ro P n k Q s h->K s h)->HS ro P n [c] (inBlk id (thn K Q)) s h):HS ro P n (.block id c::k) Q s h:=
 HW.block (HW.mono (hk (HS ro P n k Q) fun _ _ q=>q) fun e s h q=>by cases e<;>exact q)
theorem HS.loop {c:Code} (I:Nat->Slots->Heap->Prop) (h0:∃m,I m s h)
  (round:∀m s h,I m s h->∀J:Slots->Heap->Prop,(∀m' s' h',I m' s' h'->m'<m->J s' h')->HS ro P n [c] (thn J Q) s h):HS ro P n (.loop c::k) Q s h:=
 HW.loopm I h0 fun m s h hI J hJ=>HW.mono (round m s h hI J hJ) fun e s h q=>by cases e<;>exact q
theorem HS.frame {l:List (Nat × Value)} (hs:Has s l) (hc:∀τ,HS ro P n k Q (frm l τ) h):HS ro P n k Q s h:=by
 have:=hc s;rwa [frm_of hs] at this
theorem HS.r {id:Nat} {l:List Oper} (hk:HO P n l.toArray l (fun s h=>HS ro P n k Q s h) s h) (hnd:ndr ro l=true:=by exact rfl):HS ro P n (.region id l.toArray false::k) Q s h:=HW.region hk hnd
theorem HS.q {id:Nat} {l:List Oper} (hk:HQ P n l.toArray l (fun s h=>HS ro P n k Q s h) s h) (hm:P.follows .mixedOrders=true) (hB:Region.lexB .any l.toArray=true:=by kernel_rfl) (hnd:ndr ro l=true:=by exact rfl):HS ro P n (.region id l.toArray true::k) Q s h:=HW.quiet hm hB hk hnd
theorem HS.t {id:Nat} {l:List Oper} (q:Nat) (hm:P.follows .mixedOrders=true) (hk:HT P n l.toArray (l.take q) (HO P n l.toArray (l.drop q) (fun s h=>HS ro P n k Q s h)) s h) (hB:Region.lexTailB .any l.toArray q=true:=by kernel_rfl) (hnd:ndr ro l=true:=by exact rfl):HS ro P n (.region id l.toArray true::k) Q s h:=HW.tail q hm hB hk hnd
theorem HS.a {id:Nat} {l:List Oper} (bar:Nat) (S:Bool->Heap->Prop) (hm:P.follows .mixedOrders=true) (hk:HA P n l.toArray bar S (fun s h=>HS ro P n k Q s h) l.length (Array.replicate l.length false) s h) (hnd:ndr ro l=true:=by exact rfl):HS ro P n (.region id l.toArray true::k) Q s h:=HW.any bar S hm hk hnd
end code
theorem HC.go {P:Program} {f:FuncId} {fn:Func} {c:Code} {args:List Value} {h:Heap} {R:Value->Heap->Prop} (hf:P.funcs[f]? = some fn) (n:Nat) (hc:HS none P n [c] (fin P fn R) (lst args) h) (hb:fn.body=some c:=by exact rfl)
  (hname : (fn.name == "runtime.NumGoroutine") = false := by kernel_rfl) (hn : fn.ntmps = n := by exact rfl) (hsz : Nat.ble args.length n = true := by exact rfl) : HC P f args.toArray h R :=
 HC.body hf hb hname n hn hsz (HW.mono hc fun e s h q=>by cases e<;>exact q)
section ops
variable {P:Program} {n:Nat} {ops:Array Oper} {l:List Oper} {o:Oper} {K:Slots->Heap->Prop} {s:Slots} {h:Heap}
theorem HO.w (d:Nat) {v:Value} (hv:OpV P o s h v) (hk:HO P n ops l K (upd s d v) h) (hw:wants ops o s=true:=by exact rfl) (hd:o.dst=some d:=by exact rfl) (hn:Nat.blt d n=true:=by exact rfl):HO P n ops (o::l) K s h:=HO.v hv hw d hd hn hk
theorem HO.x (d:Nat) (hk:HO P n ops l K (upd s d undef) h) (hw:wants ops o s=false:=by exact rfl) (hd:o.dst=some d:=by exact rfl) (hn:Nat.blt d n=true:=by exact rfl):HO P n ops (o::l) K s h:=HO.no hw d hd hn hk
theorem HQ.w (d:Nat) {v:Value} (hv:OpV P o s h v) (hk:HQ P n ops l K (upd s d v) h) (hw:wants ops o s=true:=by exact rfl) (hd:o.dst=some d:=by exact rfl) (hn:Nat.blt d n=true:=by exact rfl):HQ P n ops (o::l) K s h:=HQ.v hv hw d hd hn hk
theorem HQ.x (d:Nat) (hk:HQ P n ops l K (upd s d undef) h) (hw:wants ops o s=false:=by exact rfl) (hd:o.dst=some d:=by exact rfl) (hn:Nat.blt d n=true:=by exact rfl):HQ P n ops (o::l) K s h:=HQ.no hw d hd hn hk
theorem HT.w (d:Nat) {v:Value} (hv:OpV P o s h v) (hk:HT P n ops l K (upd s d v) h) (hw:wants ops o s=true:=by exact rfl) (hd:o.dst=some d:=by exact rfl) (hn:Nat.blt d n=true:=by exact rfl):HT P n ops (o::l) K s h:=HT.v hv hw d hd hn hk
theorem HT.x (d:Nat) (hk:HT P n ops l K (upd s d undef) h) (hw:wants ops o s=false:=by exact rfl) (hd:o.dst=some d:=by exact rfl) (hn:Nat.blt d n=true:=by exact rfl):HT P n ops (o::l) K s h:=HT.no hw d hd hn hk
theorem HO.k (d:Nat) {v:Value} {f:FuncId} {args:Array Value} (hv:OpC P o s h f args) (hc:HC P f args h (fun v' h'=>v'=v/\h'=h)) (hk:HO P n ops l K (upd s d v) h) (hw:wants ops o s=true:=by exact rfl) (hd:o.dst=some d:=by exact rfl) (hn:Nat.blt d n=true:=by exact rfl):HO P n ops (o::l) K s h:=
 HO.c hv hw d hd hn hc fun _ _ ⟨e1,e2⟩=>by subst e1 e2;exact hk
theorem HQ.k (d:Nat) {v:Value} {f:FuncId} {args:Array Value} (hv:OpC P o s h f args) (hc:HC P f args h (fun v' h'=>v'=v/\h'=h)) (hk:HQ P n ops l K (upd s d v) h) (hw:wants ops o s=true:=by exact rfl) (hd:o.dst=some d:=by exact rfl) (hn:Nat.blt d n=true:=by exact rfl):HQ P n ops (o::l) K s h:=HQ.c hv hw d hd hn hc hk
theorem HO.c' (d:Nat) {f:FuncId} {args:Array Value} {R:Value->Heap->Prop} (hv:OpC P o s h f args) (hc:HC P f args h R) (hk:∀v h',R v h'->HO P n ops l K (upd s d v) h') (hw:wants ops o s=true:=by exact rfl) (hd:o.dst=some d:=by exact rfl) (hn:Nat.blt d n=true:=by exact rfl):HO P n ops (o::l) K s h:=HO.c hv hw d hd hn hc hk
theorem HO.a' (d:Nat) {R:Value->Heap->Prop} (hv:OpA P o s h R) (hk:∀v h',R v h'->HO P n ops l K (upd s d v) h') (hw:wants ops o s=true:=by exact rfl) (hd:o.dst=some d:=by exact rfl) (hn:Nat.blt d n=true:=by exact rfl):HO P n ops (o::l) K s h:=HO.a hv hw d hd hn hk
theorem HO.ur' {R:Heap->Prop} (hv:OpUR P o s h R) (hk:∀h',R h'->HO P n ops l K s h') (hw:wants ops o s=true:=by exact rfl) (hd:o.dst=none:=by exact rfl):HO P n ops (o::l) K s h:=HO.ur hv hw hd hk
end ops
section any
variable {P:Program} {n:Nat} {ops:Array Oper} {o:Oper} {bar:Nat} {S:Bool->Heap->Prop} {K:Slots->Heap->Prop} {fuel:Nat} {listed:Array Bool} {s:Slots} {h:Heap}
theorem HA.e (hk:K s h) (hr:Region.ready .any ops listed=[]:=by kernel_rfl):HA P n ops bar S K fuel listed s h:=HA.done hr hk
theorem HA.g (i:Nat) (fl:Bool) (hi:ops[i]? = some o) (d:Nat) {v:Value} (hS:S fl h) (hv:∀h',OpV P o s h' v) (hk:HA P n ops bar S K fuel (listed.setIfInBounds i true) (upd s d v) h)
  (hs:Region.noSelect ops=true:=by kernel_rfl) (hf:Region.free .any ops listed i=true:=by kernel_rfl) (hr:(Region.ready .any ops listed).contains i=true:=by kernel_rfl) (hib:Nat.beq i bar=false:=by exact rfl)
  (hw:wants ops o s=true:=by exact rfl) (hd:o.dst=some d:=by exact rfl) (hn:Nat.blt d n=true:=by exact rfl) (hfl:listed.getD bar false=fl:=by kernel_rfl):HA P n ops bar S K (fuel+1) listed s h:=
 HA.p i hi hs hf hr hib hw d hd hn hfl hS hv hk
theorem HA.l (i:Nat) (fl:Bool) (hi:ops[i]? = some o) (d:Nat) {v:Value} (hS:S fl h) (hv:∀h',S fl h'->OpV P o s h' v) (hk:HA P n ops bar S K fuel (listed.setIfInBounds i true) (upd s d v) h)
  (hs:Region.noSelect ops=true:=by kernel_rfl) (hf:Region.free .any ops listed i=true:=by kernel_rfl) (hr:(Region.ready .any ops listed).contains i=true:=by kernel_rfl) (hib:Nat.beq i bar=false:=by exact rfl)
  (hw:wants ops o s=true:=by exact rfl) (hd:o.dst=some d:=by exact rfl) (hn:Nat.blt d n=true:=by exact rfl) (hfl:listed.getD bar false=fl:=by kernel_rfl) (hwt:Region.waitsFor .any ops bar i=true:=by kernel_rfl):HA P n ops bar S K (fuel+1) listed s h:=
 HA.v i hi hs hf hr hib hw d hd hn hfl hS hwt hv hk
theorem HA.lw (i:Nat) (fl:Bool) (hi:ops[i]? = some o) (d:Nat) {v:Value} (hS:S fl h) (hv:∀fl h',S fl h'->OpV P o s h' v) (hk:HA P n ops bar S K fuel (listed.setIfInBounds i true) (upd s d v) h)
  (hs:Region.noSelect ops=true:=by kernel_rfl) (hf:Region.free .any ops listed i=true:=by kernel_rfl) (hr:(Region.ready .any ops listed).contains i=true:=by kernel_rfl) (hib:Nat.beq i bar=false:=by exact rfl)
  (hw:wants ops o s=true:=by exact rfl) (hd:o.dst=some d:=by exact rfl) (hn:Nat.blt d n=true:=by exact rfl) (hfl:listed.getD bar false=fl:=by kernel_rfl):HA P n ops bar S K (fuel+1) listed s h:=
 HA.w i hi hs hf hr hib hw d hd hn hfl hS hv hk
theorem HA.x (i:Nat) (fl:Bool) (hi:ops[i]? = some o) (d:Nat) (hS:S fl h) (hk:HA P n ops bar S K fuel (listed.setIfInBounds i true) (upd s d undef) h)
  (hs:Region.noSelect ops=true:=by kernel_rfl) (hf:Region.free .any ops listed i=true:=by kernel_rfl) (hr:(Region.ready .any ops listed).contains i=true:=by kernel_rfl) (hib:Nat.beq i bar=false:=by exact rfl)
  (hw:wants ops o s=false:=by exact rfl) (hd:o.dst=some d:=by exact rfl) (hn:Nat.blt d n=true:=by exact rfl) (hfl:listed.getD bar false=fl:=by kernel_rfl):HA P n ops bar S K (fuel+1) listed s h:=
 HA.no i hi hs hf hr hib hw d hd hn hfl hS hk
theorem HA.o1 (i:Nat) (hk:Up P n ops bar S K fuel listed i s h) (hr:Region.ready .any ops listed=[i]:=by kernel_rfl):HA P n ops bar S K (fuel+1) listed s h:=HA.one i hr hk
theorem HA.o2 (i j:Nat) (hi:Up P n ops bar S K fuel listed i s h) (hj:Up P n ops bar S K fuel listed j s h) (hr:Region.ready .any ops listed=[i,j]:=by kernel_rfl):HA P n ops bar S K (fuel+1) listed s h:=HA.two i j hr hi hj
variable {i:Nat}
theorem Up.k {v:Value} {f:FuncId} {args:Array Value} (fl:Bool) (hi:ops[i]? = some o) (d:Nat) (hv:OpC P o s h f args) (hc:HC P f args h (fun v' h'=>v'=v/\h'=h)) (hS:S fl h) (hk:HA P n ops bar S K fuel (listed.setIfInBounds i true) (upd s d v) h)
  (hw:wants ops o s=true:=by exact rfl) (hd:o.dst=some d:=by exact rfl) (hn:Nat.blt d n=true:=by exact rfl) (hfl:(listed.setIfInBounds i true).getD bar false=fl:=by kernel_rfl):Up P n ops bar S K fuel listed i s h:=
 Up.c hi hw d hd hn hv hc hfl fun _ _ ⟨e1,e2⟩=>by subst e1 e2;exact ⟨hS,hk⟩
theorem Up.c' {f:FuncId} {args:Array Value} {R:Value->Heap->Prop} (fl:Bool) (hi:ops[i]? = some o) (d:Nat) (hv:OpC P o s h f args) (hc:HC P f args h R) (hk:∀v h',R v h'->S fl h'/\HA P n ops bar S K fuel (listed.setIfInBounds i true) (upd s d v) h')
  (hw:wants ops o s=true:=by exact rfl) (hd:o.dst=some d:=by exact rfl) (hn:Nat.blt d n=true:=by exact rfl) (hfl:(listed.setIfInBounds i true).getD bar false=fl:=by kernel_rfl):Up P n ops bar S K fuel listed i s h:=Up.c hi hw d hd hn hv hc hfl hk
theorem Up.a' {R:Value->Heap->Prop} (fl:Bool) (hi:ops[i]? = some o) (d:Nat) (hv:OpA P o s h R) (hk:∀v h',R v h'->S fl h'/\HA P n ops bar S K fuel (listed.setIfInBounds i true) (upd s d v) h')
  (hw:wants ops o s=true:=by exact rfl) (hd:o.dst=some d:=by exact rfl) (hn:Nat.blt d n=true:=by exact rfl) (hfl:(listed.setIfInBounds i true).getD bar false=fl:=by kernel_rfl):Up P n ops bar S K fuel listed i s h:=Up.a hi hw d hd hn hv hfl hk
theorem Up.ur' {R:Heap->Prop} (fl:Bool) (hi:ops[i]? = some o) (hv:OpUR P o s h R) (hk:∀h',R h'->S fl h'/\HA P n ops bar S K fuel (listed.setIfInBounds i true) s h')
  (hw:wants ops o s=true:=by exact rfl) (hd:o.dst=none:=by exact rfl) (hfl:(listed.setIfInBounds i true).getD bar false=fl:=by kernel_rfl):Up P n ops bar S K fuel listed i s h:=Up.ur hi hw hd hv hfl hk
end any
namespace OpV
variable {P:Program} {s:Slots} {h:Heap} {d:Option Tmp} {ty:TypeId} {pos:String} {af:Array Edge} {g:Option (Nat × Bool)} {x y c:Operand} {t u:TypeId}
section
variable {k:IntKind} {a b:Int}
theorem mvI (hx:ev s x=.int k a:=by exact rfl):OpV P ⟨d,.move x,ty,pos,af,g⟩ s h (.int k a):=V.mvI hx
theorem asI (hx:ev s x=.int k a:=by exact rfl):OpV P ⟨d,.assign x,ty,pos,af,g⟩ s h (.int k a):=V.asI hx
theorem add (hx:ev s x=.int .i64 a:=by exact rfl) (hy:ev s y=.int .i64 b:=by exact rfl) (hr : -9223372036854775808<=a+b/\a+b<=9223372036854775807:=by omega):OpV P ⟨d,.binOp .add t x y u,ty,pos,af,g⟩ s h (.int .i64 (a+b)):=V.add hx hy hr
theorem sub (hx:ev s x=.int .i64 a:=by exact rfl) (hy:ev s y=.int .i64 b:=by exact rfl) (hr : -9223372036854775808<=a-b/\a-b<=9223372036854775807:=by omega):OpV P ⟨d,.binOp .sub t x y u,ty,pos,af,g⟩ s h (.int .i64 (a-b)):=V.sub hx hy hr
theorem mul (hx:ev s x=.int .i64 a:=by exact rfl) (hy:ev s y=.int .i64 b:=by exact rfl) (hr : -9223372036854775808<=a*b/\a*b<=9223372036854775807:=by omega):OpV P ⟨d,.binOp .mul t x y u,ty,pos,af,g⟩ s h (.int .i64 (a*b)):=V.mul hx hy hr
theorem quo (hx:ev s x=.int .i64 a:=by exact rfl) (hy:ev s y=.int .i64 b:=by exact rfl) (hr:0<=a/\a<=9223372036854775807/\1<=b:=by omega):OpV P ⟨d,.binOp .quo t x y u,ty,pos,af,g⟩ s h (.int .i64 (a / b)):=V.quo hx hy hr
theorem lss (hx:ev s x=.int k a:=by exact rfl) (hy:ev s y=.int k b:=by exact rfl):OpV P ⟨d,.binOp .lss t x y u,ty,pos,af,g⟩ s h (.bool (decide (a<b))):=V.lss hx hy rfl
theorem leq (hx:ev s x=.int k a:=by exact rfl) (hy:ev s y=.int k b:=by exact rfl):OpV P ⟨d,.binOp .leq t x y u,ty,pos,af,g⟩ s h (.bool (decide (a<=b))):=V.leq hx hy rfl
theorem gtr (hx:ev s x=.int k a:=by exact rfl) (hy:ev s y=.int k b:=by exact rfl):OpV P ⟨d,.binOp .gtr t x y u,ty,pos,af,g⟩ s h (.bool (decide (b<a))):=V.gtr hx hy rfl
theorem geq (hx:ev s x=.int k a:=by exact rfl) (hy:ev s y=.int k b:=by exact rfl):OpV P ⟨d,.binOp .geq t x y u,ty,pos,af,g⟩ s h (.bool (decide (b<=a))):=V.geq hx hy rfl
theorem eql (hx:ev s x=.int k a:=by exact rfl) (hy:ev s y=.int k b:=by exact rfl):OpV P ⟨d,.binOp .eql t x y u,ty,pos,af,g⟩ s h (.bool (decide (a=b))):=V.eql hx hy rfl
theorem neq (hx:ev s x=.int k a:=by exact rfl) (hy:ev s y=.int k b:=by exact rfl):OpV P ⟨d,.binOp .neq t x y u,ty,pos,af,g⟩ s h (.bool (decide (a≠b))):=V.neq hx hy rfl
theorem cv {k':IntKind} (b:Int) (hu:inB P u=some k') (ht:inB P t=some k) (hb:k'.wrap a=b) (hx:ev s x=.int k a:=by exact rfl):OpV P ⟨d,.convert t u x,ty,pos,af,g⟩ s h (.int k' b):=V.convE hx hu ht hb
end
theorem mvB {b:Bool} (hx:ev s x=.bool b:=by exact rfl):OpV P ⟨d,.move x,ty,pos,af,g⟩ s h (.bool b):=V.mvB hx
theorem mvS {a:Option Addr} {n m:Nat} (hx:ev s x=.slice a n m:=by exact rfl):OpV P ⟨d,.move x,ty,pos,af,g⟩ s h (.slice a n m):=V.mvS hx
theorem mvP {a:Option Addr} (hx:ev s x=.pointer a:=by exact rfl):OpV P ⟨d,.move x,ty,pos,af,g⟩ s h (.pointer a):=V.mvP hx
theorem mvT {b:ByteArray} (hx:ev s x=.string b:=by exact rfl):OpV P ⟨d,.move x,ty,pos,af,g⟩ s h (.string b):=V.mvT hx
theorem mvM {r:Option Nat} (hx:ev s x=.map r:=by exact rfl):OpV P ⟨d,.move x,ty,pos,af,g⟩ s h (.map r):=V.mvM hx
theorem mvU {cs:Array Value} (hx:ev s x=.tuple cs:=by exact rfl):OpV P ⟨d,.move x,ty,pos,af,g⟩ s h (.tuple cs):=V.mvU hx
theorem mvF {a b:Array Value} {ff:_} (hx:ev s x=.func ff a b:=by exact rfl):OpV P ⟨d,.move x,ty,pos,af,g⟩ s h (.func ff a b):=V.mvv hx
theorem asB {b:Bool} (hx:ev s x=.bool b:=by exact rfl):OpV P ⟨d,.assign x,ty,pos,af,g⟩ s h (.bool b):=V.asB hx
theorem asS {a:Option Addr} {n m:Nat} (hx:ev s x=.slice a n m:=by exact rfl):OpV P ⟨d,.assign x,ty,pos,af,g⟩ s h (.slice a n m):=V.asS hx
theorem asP {a:Option Addr} (hx:ev s x=.pointer a:=by exact rfl):OpV P ⟨d,.assign x,ty,pos,af,g⟩ s h (.pointer a):=V.asP hx
theorem asM {r:Option Nat} (hx:ev s x=.map r:=by exact rfl):OpV P ⟨d,.assign x,ty,pos,af,g⟩ s h (.map r):=V.asM hx
theorem asF {a b:Array Value} {ff:_} (hx:ev s x=.func ff a b:=by exact rfl):OpV P ⟨d,.assign x,ty,pos,af,g⟩ s h (.func ff a b):=V.asv hx
theorem pkt {b:Bool} (hc:ev s c=.bool true:=by exact rfl) (hx:ev s x=.bool b:=by exact rfl):OpV P ⟨d,.pick c x y,ty,pos,af,g⟩ s h (.bool b):=V.pick_t hc hx
theorem pkf {b:Bool} (hc:ev s c=.bool false:=by exact rfl) (hy:ev s y=.bool b:=by exact rfl):OpV P ⟨d,.pick c x y,ty,pos,af,g⟩ s h (.bool b):=V.pick_f hc hy
theorem not {b:Bool} (hx:ev s x=.bool b:=by exact rfl):OpV P ⟨d,.unOp .not t x,ty,pos,af,g⟩ s h (.bool (!b)):=V.not hx
theorem len {a:Option Addr} {n m:Nat} {e:TypeId} (ht:elB P t=some e) (hx:ev s x=.slice a n m:=by exact rfl):OpV P ⟨d,.call ⟨.builtin .len,#[x],#[t]⟩,ty,pos,af,g⟩ s h (.int .i64 n):=V.len hx ht
theorem cap {a:Option Addr} {n m:Nat} {e:TypeId} (ht:elB P t=some e) (hx:ev s x=.slice a n m:=by exact rfl):OpV P ⟨d,.call ⟨.builtin .cap,#[x],#[t]⟩,ty,pos,af,g⟩ s h (.int .i64 m):=V.cap hx ht
theorem nil {ad:Addr} (hx:ev s x=.pointer (some ad):=by exact rfl):OpV P ⟨d,.nilCheck x,ty,pos,af,g⟩ s h (.pointer (some ad)):=V.nilCheck hx
theorem fa {b o off k:Nat} {ft:TypeId} {f:Nat} (hf:fdB P t f=some (off,ft,k+1)) (hx:ev s x=.pointer (some ⟨b,o,none⟩):=by exact rfl):OpV P ⟨d,.fieldAddr t x f,ty,pos,af,g⟩ s h (.pointer (some ⟨b,o+off,none⟩)):=V.fieldAddr hx hf
theorem fd {cs:Array Value} {f off:Nat} {ft:TypeId} {v:Value} (hf:fdB P t f=some (off,ft,1)) (ha:agB P ft=some false) (hx:ev s x=.agg cs:=by exact rfl) (hv:cs[off]? = some v:=by exact rfl):OpV P ⟨d,.field t x f,ty,pos,af,g⟩ s h v:=V.field1 hx hf ha hv
theorem ix (q:Nat) {b o n m k:Nat} {e:TypeId} {kk:IntKind} {i:Int} (ht:elB P t=some e) (hk:szB P e=some k) (hx:ev s x=.slice (some ⟨b,o,none⟩) n m:=by exact rfl) (hy:ev s y=.int kk i:=by exact rfl) (hi:i=(q:Int)/\q<n:=by omega) :
  OpV P ⟨d,.indexAddr t x y,ty,pos,af,g⟩ s h (.pointer (some ⟨b,o+q*k,none⟩)):=by
 have:=V.indexAddr (P:=P) (h:=h) (d:=d) (ty:=ty) (pos:=pos) (af:=af) (g:=g) hx hy ht hk (by omega);have e:i.toNat=q:=by omega
 rwa [e] at this
theorem ix1 (q:Nat) {b o n m:Nat} {e:TypeId} {kk:IntKind} {i:Int} (ht:elB P t=some e) (hk:szB P e=some 1) (hx:ev s x=.slice (some ⟨b,o,none⟩) n m:=by exact rfl) (hy:ev s y=.int kk i:=by exact rfl) (hi:i=(q:Int)/\q<n:=by omega) :
  OpV P ⟨d,.indexAddr t x y,ty,pos,af,g⟩ s h (.pointer (some ⟨b,o+q,none⟩)):=by
 have:=ix (P:=P) (h:=h) (d:=d) (ty:=ty) (pos:=pos) (af:=af) (g:=g) q ht hk hx hy hi;rwa [Nat.mul_one] at this
theorem ixa (q:Nat) {b o n:Nat} {e:TypeId} {kk:IntKind} {i:Int} (ht:arB P t=some (n,e)) (hk:szB P e=some 1) (hx:ev s x=.pointer (some ⟨b,o,none⟩):=by exact rfl) (hy:ev s y=.int kk i:=by exact rfl) (hi:i=(q:Int)/\q<n:=by omega) :
  OpV P ⟨d,.indexAddr t x y,ty,pos,af,g⟩ s h (.pointer (some ⟨b,o+q,none⟩)):=by
 have:=V.indexA (P:=P) (h:=h) (d:=d) (ty:=ty) (pos:=pos) (af:=af) (g:=g) hx hy ht hk (by omega);have e:i.toNat=q:=by omega
 rwa [e] at this
theorem ld {b o:Nat} {v:Value} (ha:agB P t=some false) (hc:cell h b o=some v) (hx:ev s x=.pointer (some ⟨b,o,none⟩):=by exact rfl):OpV P ⟨d,.load t x,ty,pos,af,g⟩ s h v:=V.load hx (load_one ha hc)
theorem ex {vs:Array Value} {i:Nat} {v:Value} (hx:ev s x=.tuple vs:=by exact rfl) (hv:vs[i]? = some v:=by exact rfl):OpV P ⟨d,.extract x i,ty,pos,af,g⟩ s h v:=V.extract hx hv
theorem pEq {a:Option Addr} {e:TypeId} (ht:ptB P t=some e) (hx:ev s x=.pointer a:=by exact rfl) (hy:ev s y=.pointer none:=by exact rfl):OpV P ⟨d,.binOp .eql t x y u,ty,pos,af,g⟩ s h (.bool a.isNone):=V.ptrEqNil hx hy ht
theorem pNe {a:Option Addr} {e:TypeId} (ht:ptB P t=some e) (hx:ev s x=.pointer a:=by exact rfl) (hy:ev s y=.pointer none:=by exact rfl):OpV P ⟨d,.binOp .neq t x y u,ty,pos,af,g⟩ s h (.bool (!a.isNone)):=V.ptrNeNil hx hy ht
theorem pEqS {a:Addr} {e:TypeId} (ht:ptB P t=some e) (hx:ev s x=.pointer (some a):=by exact rfl) (hy:ev s y=.pointer none:=by exact rfl):OpV P ⟨d,.binOp .eql t x y u,ty,pos,af,g⟩ s h (.bool false):=V.ptrEqNil hx hy ht
theorem pNeS {a:Addr} {e:TypeId} (ht:ptB P t=some e) (hx:ev s x=.pointer (some a):=by exact rfl) (hy:ev s y=.pointer none:=by exact rfl):OpV P ⟨d,.binOp .neq t x y u,ty,pos,af,g⟩ s h (.bool true):=V.ptrNeNil hx hy ht
theorem pEqN {e:TypeId} (ht:ptB P t=some e) (hx:ev s x=.pointer none:=by exact rfl) (hy:ev s y=.pointer none:=by exact rfl):OpV P ⟨d,.binOp .eql t x y u,ty,pos,af,g⟩ s h (.bool true):=V.ptrEqNil hx hy ht
theorem sEq {a:Option Addr} {n m:Nat} {e:TypeId} (ht:elB P t=some e) (hx:ev s x=.slice a n m:=by exact rfl) (hy:ev s y=.slice none 0 0:=by exact rfl):OpV P ⟨d,.binOp .eql t x y u,ty,pos,af,g⟩ s h (.bool a.isNone):=V.slEqNil hx hy ht
theorem bNe {a b:Bool} (ht:boB P t=true) (hx:ev s x=.bool a:=by exact rfl) (hy:ev s y=.bool b:=by exact rfl):OpV P ⟨d,.binOp .neq t x y u,ty,pos,af,g⟩ s h (.bool (a != b)):=V.boNeq hx hy ht rfl
theorem tEq {a b:ByteArray} (hx:ev s x=.string a:=by exact rfl) (hy:ev s y=.string b:=by exact rfl):OpV P ⟨d,.binOp .eql t x y u,ty,pos,af,g⟩ s h (.bool (a.toList == b.toList)):=V.stEql hx hy rfl
theorem bd {l:List (Nat × Operand)} {ps:List (Nat × Nat)} {z:Value} (cs:Array Value) (hz:zrB P t=some z) (hp:V.plB P t=some ps) (hf:Instr.fill (fun i=>ps[i]?) z.cells (l.map fun p=>(p.1,ev s p.2))=some cs):OpV P ⟨d,.build t l.toArray,ty,pos,af,g⟩ s h (.agg cs):=V.build hz hp hf
section
variable {a:Option Addr} {n m k:Nat} {e:TypeId} {lo hi mx:Operand} {k1 k2 k3:IntKind} {l r q:Int}
theorem slh (i j:Nat) (ht:elB P t=some e) (hk:szB P e=some k) (hx:ev s x=.slice a n m:=by exact rfl) (hlo:ev s lo=.int k1 l:=by exact rfl) (hhi:ev s hi=.int k2 r:=by exact rfl) (hb:l=(i:Int)/\r=(j:Int)/\i<=j/\j<=m:=by omega) :
  OpV P ⟨d,.slice t x (some lo) (some hi) none,ty,pos,af,g⟩ s h (.slice (cutA a i m k) (j-i) (m-i)):=by
 obtain ⟨rfl,rfl,h1,h2⟩:=hb;exact V.slice_lh hx hlo hhi ht hk h1 h2
theorem sll (i:Nat) (ht:elB P t=some e) (hk:szB P e=some k) (hx:ev s x=.slice a n m:=by exact rfl) (hlo:ev s lo=.int k1 l:=by exact rfl) (hb:l=(i:Int)/\i<=n:=by omega) :
  OpV P ⟨d,.slice t x (some lo) none none,ty,pos,af,g⟩ s h (.slice (cutA a i m k) (n-i) (m-i)):=by
 obtain ⟨rfl,h1⟩:=hb;exact V.slice_l hx hlo ht hk h1
theorem sl_h (j:Nat) (ht:elB P t=some e) (hk:szB P e=some k) (hx:ev s x=.slice a n m:=by exact rfl) (hhi:ev s hi=.int k2 r:=by exact rfl) (hb:r=(j:Int)/\j<=m:=by omega) :
  OpV P ⟨d,.slice t x none (some hi) none,ty,pos,af,g⟩ s h (.slice a j m):=by
 obtain ⟨rfl,h1⟩:=hb;exact V.slice_h hx hhi ht hk h1
theorem slhm (j c':Nat) (ht:elB P t=some e) (hk:szB P e=some k) (hx:ev s x=.slice a n m:=by exact rfl) (hhi:ev s hi=.int k2 r:=by exact rfl) (hmx:ev s mx=.int k3 q:=by exact rfl) (hb:r=(j:Int)/\q=(c':Int)/\j<=c'/\c'<=m:=by omega) :
  OpV P ⟨d,.slice t x none (some hi) (some mx),ty,pos,af,g⟩ s h (.slice a j c'):=by
 obtain ⟨rfl,rfl,h1,h2⟩:=hb;exact V.slice_hm hx hhi hmx ht hk h1 h2
theorem sllhm (i j c':Nat) (ht:elB P t=some e) (hk:szB P e=some k) (hx:ev s x=.slice a n m:=by exact rfl) (hlo:ev s lo=.int k1 l:=by exact rfl) (hhi:ev s hi=.int k2 r:=by exact rfl) (hmx:ev s mx=.int k3 q:=by exact rfl) (hb:l=(i:Int)/\r=(j:Int)/\q=(c':Int)/\i<=j/\j<=c'/\c'<=m:=by omega) :
  OpV P ⟨d,.slice t x (some lo) (some hi) (some mx),ty,pos,af,g⟩ s h (.slice (cutA a i c' k) (j-i) (c'-i)):=by
 obtain ⟨rfl,rfl,rfl,h1,h2,h3⟩:=hb;exact V.slice_lhm hx hlo hhi hmx ht hk h1 h2 h3
end
end OpV
open Go
section
variable {P:Program} {n:Nat} {Q:Exit->Slots->Heap->Prop} {s:Slots} {h:Heap} {k:List Code} {p:Prop} [Decidable p]
theorem HS.cd {ro:Option Nat} {c:Operand} {x y:Code} (ht:p->HS ro P n (x::k) Q s h) (hf:¬p->HS ro P n (y::k) Q s h) (hc:ev s c=.bool (decide p):=by exact rfl):HS ro P n (.cond c x y::k) Q s h:=HW.cond hc (fun e=>ht (of_decide_eq_true e)) (fun e=>hf (of_decide_eq_false e))
theorem HS.cdr {ro:Option Nat} {c:Operand} {x y:Code} (hf:¬p->HS ro P n (y::k) Q s h) (ht:p->HS ro P n (x::k) Q s h) (hc:ev s c=.bool (decide p):=by exact rfl):HS ro P n (.cond c x y::k) Q s h:=HS.cd ht hf hc
variable {ops:Array Oper} {l:List Oper} {K:Slots->Heap->Prop} {d:Nat} {bar:Nat} {S:Bool->Heap->Prop} {fuel:Nat} {listed:Array Bool}
theorem HO.sd (ht:p->HO P n ops l K (upd s d (.bool true)) h) (hf:¬p->HO P n ops l K (upd s d (.bool false)) h):HO P n ops l K (upd s d (.bool (decide p))) h:=HO.spl (fun e=>ht (of_decide_eq_true e)) (fun e=>hf (of_decide_eq_false e))
theorem HQ.sd (ht:p->HQ P n ops l K (upd s d (.bool true)) h) (hf:¬p->HQ P n ops l K (upd s d (.bool false)) h):HQ P n ops l K (upd s d (.bool (decide p))) h:=HQ.spl (fun e=>ht (of_decide_eq_true e)) (fun e=>hf (of_decide_eq_false e))
theorem HA.sd (ht:p->HA P n ops bar S K fuel listed (upd s d (.bool true)) h) (hf:¬p->HA P n ops bar S K fuel listed (upd s d (.bool false)) h):HA P n ops bar S K fuel listed (upd s d (.bool (decide p))) h:=HA.spl (fun e=>ht (of_decide_eq_true e)) (fun e=>hf (of_decide_eq_false e))
end
namespace OpV
variable {P:Program} {s:Slots} {h:Heap} {d:Option Tmp} {ty:TypeId} {pos:String} {af:Array Edge} {g:Option (Nat × Bool)} {x y c:Operand} {t u:TypeId}
theorem notd {p:Prop} [Decidable p] (hx:ev s x=.bool (decide p):=by exact rfl):OpV P ⟨d,.unOp .not t x,ty,pos,af,g⟩ s h (.bool (decide (¬p))):=by
 have:=V.not (P:=P) (h:=h) (d:=d) (ty:=ty) (pos:=pos) (af:=af) (g:=g) (t:=t) hx;rwa [<-decide_not] at this
theorem ldb {b:Nat} {e:TypeId} {cs:List Value} (ha:agB P t=some true) (hb:h[b]? = some (.cells cs.toArray e (0,0))) (hs:szB P t=some cs.length) (hx:ev s x=.pointer (some ⟨b,0,none⟩):=by exact rfl):OpV P ⟨d,.load t x,ty,pos,af,g⟩ s h (.agg cs.toArray):=V.load hx (load_agg cs ha hs (cells0 hb))
theorem ldc {b o:Nat} {vs:List Value} (ha:agB P t=some true) (hc:∀j v,vs[j]? = some v->cell h b (o+j)=some v) (hs:szB P t=some vs.length) (hx:ev s x=.pointer (some ⟨b,o,none⟩):=by exact rfl):OpV P ⟨d,.load t x,ty,pos,af,g⟩ s h (.agg vs.toArray):=V.load hx (load_agg vs ha hs hc)
theorem ldx {b o:Nat} {e:TypeId} {cs:List Value} {v:Value} (ha:agB P t=some false) (hb:h[b]? = some (.cells cs.toArray e (0,0))) (hx:ev s x=.pointer (some ⟨b,o,none⟩):=by exact rfl) (hv:cs[o]? = some v:=by exact rfl):OpV P ⟨d,.load t x,ty,pos,af,g⟩ s h v:=
 V.load hx (load_one ha (by rw [cell_of hb];simpa using hv))
end OpV
section
variable {P:Program} {n d:Nat} {ops:Array Oper} {l:List Oper} {s:Slots} {h:Heap} {op:Op} {ty:TypeId} {pos:String} {af:Array Edge} {g:Option (Nat × Bool)} {v:Value}
theorem HO.z {K:Slots->Heap->Prop} (hv:OpV P ⟨some d,op,ty,pos,af,g⟩ s h v) (hk:HO P n ops l K (upd s d v) h) (hw:wants ops ⟨some d,op,ty,pos,af,g⟩ s=true:=by exact rfl) (hn:Nat.blt d n=true:=by exact rfl):HO P n ops (⟨some d,op,ty,pos,af,g⟩::l) K s h:=HO.w d hv hk hw rfl hn
theorem HO.y {K:Slots->Heap->Prop} (hk:HO P n ops l K (upd s d undef) h) (hw:wants ops ⟨some d,op,ty,pos,af,g⟩ s=false:=by exact rfl) (hn:Nat.blt d n=true:=by exact rfl):HO P n ops (⟨some d,op,ty,pos,af,g⟩::l) K s h:=HO.x d hk hw rfl hn
theorem HQ.z {K:Slots->Heap->Prop} (hv:OpV P ⟨some d,op,ty,pos,af,g⟩ s h v) (hk:HQ P n ops l K (upd s d v) h) (hw:wants ops ⟨some d,op,ty,pos,af,g⟩ s=true:=by exact rfl) (hn:Nat.blt d n=true:=by exact rfl):HQ P n ops (⟨some d,op,ty,pos,af,g⟩::l) K s h:=HQ.w d hv hk hw rfl hn
theorem HQ.y {K:Slots->Heap->Prop} (hk:HQ P n ops l K (upd s d undef) h) (hw:wants ops ⟨some d,op,ty,pos,af,g⟩ s=false:=by exact rfl) (hn:Nat.blt d n=true:=by exact rfl):HQ P n ops (⟨some d,op,ty,pos,af,g⟩::l) K s h:=HQ.x d hk hw rfl hn
theorem HT.z {K:Slots->Heap->Prop} (hv:OpV P ⟨some d,op,ty,pos,af,g⟩ s h v) (hk:HT P n ops l K (upd s d v) h) (hw:wants ops ⟨some d,op,ty,pos,af,g⟩ s=true:=by exact rfl) (hn:Nat.blt d n=true:=by exact rfl):HT P n ops (⟨some d,op,ty,pos,af,g⟩::l) K s h:=HT.w d hv hk hw rfl hn
theorem HT.y {K:Slots->Heap->Prop} (hk:HT P n ops l K (upd s d undef) h) (hw:wants ops ⟨some d,op,ty,pos,af,g⟩ s=false:=by exact rfl) (hn:Nat.blt d n=true:=by exact rfl):HT P n ops (⟨some d,op,ty,pos,af,g⟩::l) K s h:=HT.x d hk hw rfl hn
end
theorem HS.s {ro:Option Nat} {P:Program} {n id:Nat} {l:List Oper} {b:Code} {k:List Code} {Q:Exit->Slots->Heap->Prop} {s:Slots} {h:Heap} (hk:HO P n l.toArray l (fun s h=>HS ro P n (b::k) Q s h) s h) (hnd:ndr ro l=true:=by exact rfl):HS ro P n (.seq (.region id l.toArray false) b::k) Q s h:=.seq (.r hk hnd)
open Go
structure Itm where
 p:Heap->Prop
 F:Nat->Prop
 st:∀(G:Nat->Prop) (h h':Heap),Chg G h h'->(∀j,F j->¬G j)->p h->p h'
@[reducible] def boxI (b:Nat) (t:TypeId) (cs:List Value):Itm:=⟨fun h=>h[b]? = some (.cells cs.toArray t (0,0)),fun j=>j=b,fun _ _ _ c d hp=>c.block hp (d b rfl)⟩
@[reducible] def capI (k:Nat) (e:TypeId) (x:SV) (xs:List Value):Itm:=⟨fun h=>Cap h k e (sv x) xs,blkC (sv x),fun _ _ _ c d hp=>hp.chg c d⟩
@[reducible] def rowI (k:Nat) (x:SV) (xs:List Value):Itm:=⟨fun h=>Sl h k (sv x) xs,blk (sv x),fun _ _ _ c d hp=>Sl.chg c hp d⟩
@[reducible] def mapI {κ:Type} (kv:κ->Value) (r:Nat) (l:List (κ × Value)):Itm:=⟨fun h=>MapT kv h r l,fun j=>j=r,fun _ _ _ c d hp=>hp.chg c (d r rfl)⟩
@[reducible] def anyI (F:Nat->Prop) (p:Heap->Prop) (st:∀(G:Nat->Prop) (h h':Heap),Chg G h h'->(∀j,F j->¬G j)->p h->p h'):Itm:=⟨p,F,st⟩
structure Hp (h0:Heap) (D:Nat->Prop) (M R:List Itm) (h:Heap):Prop where
 chg:Chg D h0 h
 m:∀i∈M,i.p h/\∀j,i.F j->j<h.size/\(D j\/h0.size<=j)
 r:∀i∈R,i.p h/\∀j,i.F j->j<h.size
 mm:M.Pairwise fun a b=>∀j,a.F j->¬b.F j
 mr:∀a∈M,∀b∈R,∀j,a.F j->¬b.F j
def Nw (h h':Heap) (j:Nat):Prop:=h.size<=j/\j<h'.size
section
variable {h0 h h':Heap} {D G:Nat->Prop} {M R:List Itm} {a b c d e f:Itm}
theorem Hp.nil (h:Heap) (D:Nat->Prop):Hp h D [] [] h:=⟨Chg.refl _ _,by simp,by simp,.nil,by simp⟩
theorem Hp.old (ok:Hp h0 D [] R h) (it:Itm) (hp:it.p h) (hF:∀j,it.F j->j<h.size):Hp h0 D [] (it::R) h:=
 ⟨ok.chg,by simp,fun i hi=>by
  rcases qK.1 hi with rfl | hi
  ·exact ⟨hp,hF⟩
  ·exact ok.r i hi,.nil,by simp⟩
theorem Hp.ext (ok:Hp h0 D M R h) (x:Ext h h'):Hp h0 D M R h':=
 ⟨ok.chg.trans' x (fun _ _ f=>f.elim),fun i hi=>⟨i.st _ _ _ x (fun _ _ f=>f) (ok.m i hi).1,fun j hj=>⟨kP ((ok.m i hi).2 j hj).1 x.size,((ok.m i hi).2 j hj).2⟩⟩,
  fun i hi=>⟨i.st _ _ _ x (fun _ _ f=>f) (ok.r i hi).1,fun j hj=>kP ((ok.r i hi).2 j hj) x.size⟩,ok.mm,ok.mr⟩
theorem Hp.newM (ok:Hp h0 D M R h) (x:Ext h h') (it:Itm) (hp:it.p h') (hF:∀j,it.F j->h.size<=j/\j<h'.size):Hp h0 D (it::M) R h':=
 have o:=ok.ext x
 ⟨o.chg,fun i hi=>by
  rcases qK.1 hi with rfl | hi
  ·exact ⟨hp,fun j hj=>⟨(hF j hj).2,.inr (kN ok.chg.size (hF j hj).1)⟩⟩
  ·exact o.m i hi,o.r,kK.2 ⟨fun b hb j hj hb2=>by
   have:=((ok.m b hb).2 j hb2).1;have:=(hF j hj).1;omega,o.mm⟩,fun a ha b hb j hj hb2=>by
  rcases qK.1 ha with rfl | ha
  ·have:=(ok.r b hb).2 j hb2;have:=(hF j hj).1;omega
  ·exact o.mr a ha b hb j hj hb2⟩
theorem Hp.newR (ok:Hp h0 D M R h) (x:Ext h h') (it:Itm) (hp:it.p h') (hF:∀j,it.F j->h.size<=j/\j<h'.size):Hp h0 D M (it::R) h':=
 have o:=ok.ext x
 ⟨o.chg,o.m,fun i hi=>by
  rcases qK.1 hi with rfl | hi
  ·exact ⟨hp,fun j hj=>(hF j hj).2⟩
  ·exact o.r i hi,o.mm,fun a ha b hb j hj hb2=>by
  rcases qK.1 hb with rfl | hb
  ·have:=((ok.m a ha).2 j hj).1;have:=(hF j hb2).1;omega
  ·exact o.mr a ha b hb j hj hb2⟩
theorem Hp.upd (ok:Hp h0 D (a::M) R h) (c:Chg G h h') (hG:∀j,G j->a.F j) (it:Itm) (hp:it.p h') (hF:∀j,it.F j->a.F j\/(h.size<=j/\j<h'.size)):Hp h0 D (it::M) R h':=by
 have hmm:=kK.1 ok.mm;refine ⟨ok.chg.trans' c (fun j hj g=>?_),fun i hi=>?_,fun i hi=>?_,kK.2 ⟨fun b hb j hj hb2=>?_,hmm.2⟩,fun x hx b hb j hj hb2=>?_⟩
 ·rcases ((ok.m a qX).2 j (hG j g)).2 with h1 | h1
  ·exact h1
  ·omega
 ·rcases qK.1 hi with rfl | hi
  ·refine ⟨hp,fun j hj=>?_⟩;rcases hF j hj with h1 | h1
   ·have h2:=(ok.m a qX).2 j h1;exact ⟨kP h2.1 c.size,h2.2⟩
   ·exact ⟨h1.2,.inr (kN ok.chg.size h1.1)⟩
  ·have h1:=ok.m i (qQ _ hi);exact ⟨i.st _ _ _ c (fun j hj g=>hmm.1 i hi j (hG j g) hj) h1.1,fun j hj=>⟨kP (h1.2 j hj).1 c.size,(h1.2 j hj).2⟩⟩
 ·have h1:=ok.r i hi;exact ⟨i.st _ _ _ c (fun j hj g=>ok.mr a qX i hi j (hG j g) hj) h1.1,fun j hj=>kP (h1.2 j hj) c.size⟩
 ·rcases hF j hj with h1 | h1
  ·exact hmm.1 b hb j h1 hb2
  ·have:=((ok.m b (qQ _ hb)).2 j hb2).1;omega
 ·rcases qK.1 hx with rfl | hx
  ·rcases hF j hj with h1 | h1
   ·exact ok.mr a qX b hb j h1 hb2
   ·have:=(ok.r b hb).2 j hb2;omega
  ·exact ok.mr x (qQ _ hx) b hb j hj hb2
theorem Hp.re (ok:Hp h0 D (a::M) R h) (it:Itm) (hp:it.p h) (hF:∀j,it.F j->a.F j):Hp h0 D (it::M) R h:=ok.upd (G:=none_) (Chg.refl _ _) (fun _ f=>f.elim) it hp (fun j hj=>.inl (hF j hj))
theorem Hp.perm {M':List Itm} (ok:Hp h0 D M R h) (p:M'.Perm M):Hp h0 D M' R h:=
 ⟨ok.chg,fun i hi=>ok.m i (p.mem_iff.1 hi),ok.r,(p.pairwise_iff (fun hxy j h1 h2=>hxy j h2 h1)).2 ok.mm,fun a ha=>ok.mr a (p.mem_iff.1 ha)⟩
theorem Hp.tM (ok:Hp h0 D (a::M) R h):Hp h0 D M R h:=
 ⟨ok.chg,fun i hi=>ok.m i (qQ _ hi),ok.r,(kK.1 ok.mm).2,fun x hx=>ok.mr x (qQ _ hx)⟩
theorem Hp.tR (ok:Hp h0 D M (a::R) h):Hp h0 D M R h:=
 ⟨ok.chg,ok.m,fun i hi=>ok.r i (qQ _ hi),ok.mm,fun x hx b hb=>ok.mr x hx b (qQ _ hb)⟩
theorem Hp.sub {R':List Itm} (ok:Hp h0 D M R h) (hs:∀i∈R',i∈R):Hp h0 D M R' h:=⟨ok.chg,ok.m,fun i hi=>ok.r i (hs i hi),ok.mm,fun x hx b hb=>ok.mr x hx b (hs b hb)⟩
theorem Hp.k0 (ok:Hp h0 D M R h):Hp h0 D [] R h:=⟨ok.chg,by simp,ok.r,.nil,by simp⟩
theorem Hp.keep {M':List Itm} (ok:Hp h0 D M R h) (hs:M'.Sublist M):Hp h0 D M' R h:=
 ⟨ok.chg,fun i hi=>ok.m i (hs.subset hi),ok.r,ok.mm.sublist hs,fun x hx=>ok.mr x (hs.subset hx)⟩
theorem Hp.k1 (ok:Hp h0 D (a::M) R h):Hp h0 D [a] R h:=ok.keep (.cons_cons _ (List.nil_sublist _))
theorem Hp.k2 (ok:Hp h0 D (a::b::M) R h):Hp h0 D [a,b] R h:=ok.keep (.cons_cons _ (.cons_cons _ (List.nil_sublist _)))
theorem Hp.k3 (ok:Hp h0 D (a::b::c::M) R h):Hp h0 D [a,b,c] R h:=ok.keep (.cons_cons _ (.cons_cons _ (.cons_cons _ (List.nil_sublist _))))
theorem Hp.k4 (ok:Hp h0 D (a::b::c::d::M) R h):Hp h0 D [a,b,c,d] R h:=ok.keep (.cons_cons _ (.cons_cons _ (.cons_cons _ (.cons_cons _ (List.nil_sublist _)))))
theorem Hp.frz (ok:Hp h0 D (a::M) R h):Hp h0 D M (a::R) h:=
 ⟨ok.chg,fun i hi=>ok.m i (qQ _ hi),fun i hi=>by
  rcases qK.1 hi with rfl | hi
  ·have:=ok.m i qX;exact ⟨this.1,fun j hj=>(this.2 j hj).1⟩
  ·exact ok.r i hi,(kK.1 ok.mm).2,fun x hx b hb j hj hb2=>by
  rcases qK.1 hb with rfl | hb
  ·exact (kK.1 ok.mm).1 x hx j hb2 hj
  ·exact ok.mr x (qQ _ hx) b hb j hj hb2⟩
theorem Hp.der (ok:Hp h0 D M R h) {r:Itm} (hr:r∈R) (it:Itm) (hp:it.p h) (hF:∀j,it.F j->r.F j):Hp h0 D M (it::R) h:=
 ⟨ok.chg,ok.m,fun i hi=>by
  rcases qK.1 hi with rfl | hi
  ·exact ⟨hp,fun j hj=>(ok.r r hr).2 j (hF j hj)⟩
  ·exact ok.r i hi,ok.mm,fun x hx b hb j hj hb2=>by
  rcases qK.1 hb with rfl | hb
  ·exact ok.mr x hx r hr j hj (hF j hb2)
  ·exact ok.mr x hx b hb j hj hb2⟩
theorem Hp.dE (ok:Hp h0 D M R h) (it:Itm) (hp:it.p h) (hF:∀j,¬it.F j):Hp h0 D M (it::R) h:=
 ⟨ok.chg,ok.m,fun i hi=>by
  rcases qK.1 hi with rfl | hi
  ·exact ⟨hp,fun j hj=>absurd hj (hF j)⟩
  ·exact ok.r i hi,ok.mm,fun x hx b hb j hj hb2=>by
  rcases qK.1 hb with rfl | hb
  ·exact hF j hb2
  ·exact ok.mr x hx b hb j hj hb2⟩
theorem Hp.or (ok:Hp h0 D M R h) {r r':Itm} (hr:r∈R) (hr':r'∈R) (it:Itm) (hp:it.p h) (hF:∀j,it.F j->r.F j\/r'.F j):Hp h0 D M (it::R) h:=
 ⟨ok.chg,ok.m,fun i hi=>by
  rcases qK.1 hi with rfl | hi
  ·refine ⟨hp,fun j hj=>?_⟩;rcases hF j hj with h1 | h1
   ·exact (ok.r r hr).2 j h1
   ·exact (ok.r r' hr').2 j h1
  ·exact ok.r i hi,ok.mm,fun x hx b hb j hj hb2=>by
  rcases qK.1 hb with rfl | hb
  ·rcases hF j hb2 with h1 | h1
   ·exact ok.mr x hx r hr j hj h1
   ·exact ok.mr x hx r' hr' j hj h1
  ·exact ok.mr x hx b hb j hj hb2⟩
theorem Hp.fuse (ok:Hp h0 D (a::b::M) R h) (it:Itm) (hp:it.p h) (hF:∀j,it.F j->a.F j\/b.F j):Hp h0 D (it::M) R h:=by
 have h1:=kK.1 ok.mm;have h2:=kK.1 h1.2;refine ⟨ok.chg,fun i hi=>?_,ok.r,kK.2 ⟨fun x hx j hj hb2=>?_,h2.2⟩,fun x hx y hy j hj hb2=>?_⟩
 ·rcases qK.1 hi with rfl | hi
  ·refine ⟨hp,fun j hj=>?_⟩;rcases hF j hj with h3 | h3
   ·exact (ok.m a qX).2 j h3
   ·exact (ok.m b (qQ _ qX)).2 j h3
  ·exact ok.m i (qQ _ (qQ _ hi))
 ·rcases hF j hj with h3 | h3
  ·exact h1.1 x (qQ _ hx) j h3 hb2
  ·exact h2.1 x hx j h3 hb2
 ·rcases qK.1 hx with rfl | hx
  ·rcases hF j hj with h3 | h3
   ·exact ok.mr a qX y hy j h3 hb2
   ·exact ok.mr b (qQ _ qX) y hy j h3 hb2
  ·exact ok.mr x (qQ _ (qQ _ hx)) y hy j hj hb2
theorem Hp.m0 (ok:Hp h0 D (a::M) R h):a.p h:=(ok.m a (by simp)).1
theorem Hp.m1 (ok:Hp h0 D (a::b::M) R h):b.p h:=(ok.m b (by simp)).1
theorem Hp.m2 (ok:Hp h0 D (a::b::c::M) R h):c.p h:=(ok.m c (by simp)).1
theorem Hp.m3 (ok:Hp h0 D (a::b::c::d::M) R h):d.p h:=(ok.m d (by simp)).1
theorem Hp.m4 (ok:Hp h0 D (a::b::c::d::e::M) R h):e.p h:=(ok.m e (by simp)).1
theorem Hp.m5 (ok:Hp h0 D (a::b::c::d::e::f::M) R h):f.p h:=(ok.m f (by simp)).1
theorem Hp.n1 (ok:Hp h0 D (a::b::M) R h):Hp h0 D (b::a::M) R h:=ok.perm (.swap _ _ _)
theorem Hp.n2 (ok:Hp h0 D (a::b::c::M) R h):Hp h0 D (c::a::b::M) R h:=ok.perm (.trans (.swap _ _ _) (.cons _ (.swap _ _ _)))
theorem Hp.n3 (ok:Hp h0 D (a::b::c::d::M) R h):Hp h0 D (d::a::b::c::M) R h:=ok.perm (.trans (.swap _ _ _) (.cons _ (.trans (.swap _ _ _) (.cons _ (.swap _ _ _)))))
theorem Hp.n4 (ok:Hp h0 D (a::b::c::d::e::M) R h):Hp h0 D (e::a::b::c::d::M) R h:=ok.perm (.trans (.swap _ _ _) (.cons _ (.trans (.swap _ _ _) (.cons _ (.trans (.swap _ _ _) (.cons _ (.swap _ _ _)))))))
theorem Hp.n5 (ok:Hp h0 D (a::b::c::d::e::f::M) R h):Hp h0 D (f::a::b::c::d::e::M) R h:=ok.perm (.trans (.swap _ _ _) (.cons _ (.trans (.swap _ _ _) (.cons _ (.trans (.swap _ _ _) (.cons _ (.trans (.swap _ _ _) (.cons _ (.swap _ _ _)))))))))
end
section
variable {h0 h:Heap} {D:Nat->Prop} {M R:List Itm} {q0 q1 q2 q3 q4 q5 q6 q7 q8 q9:Itm}
theorem Hp.r0 (ok:Hp h0 D M (q0::R) h):q0.p h:=(ok.r q0 (by simp)).1
theorem Hp.r1 (ok:Hp h0 D M (q0::q1::R) h):q1.p h:=(ok.r q1 (by simp)).1
theorem Hp.r2 (ok:Hp h0 D M (q0::q1::q2::R) h):q2.p h:=(ok.r q2 (by simp)).1
theorem Hp.r3 (ok:Hp h0 D M (q0::q1::q2::q3::R) h):q3.p h:=(ok.r q3 (by simp)).1
theorem Hp.r5 (ok:Hp h0 D M (q0::q1::q2::q3::q4::q5::R) h):q5.p h:=(ok.r q5 (by simp)).1
theorem Hp.d0 (ok:Hp h0 D M (q0::R) h) (it:Itm) (hp:it.p h) (hF:∀j,it.F j->q0.F j:=by exact fun _ x=>x):Hp h0 D M (it::q0::R) h:=ok.der (r:=q0) (by simp) it hp hF
theorem Hp.d1 (ok:Hp h0 D M (q0::q1::R) h) (it:Itm) (hp:it.p h) (hF:∀j,it.F j->q1.F j:=by exact fun _ x=>x):Hp h0 D M (it::q0::q1::R) h:=ok.der (r:=q1) (by simp) it hp hF
theorem Hp.d2 (ok:Hp h0 D M (q0::q1::q2::R) h) (it:Itm) (hp:it.p h) (hF:∀j,it.F j->q2.F j:=by exact fun _ x=>x):Hp h0 D M (it::q0::q1::q2::R) h:=ok.der (r:=q2) (by simp) it hp hF
theorem Hp.d3 (ok:Hp h0 D M (q0::q1::q2::q3::R) h) (it:Itm) (hp:it.p h) (hF:∀j,it.F j->q3.F j:=by exact fun _ x=>x):Hp h0 D M (it::q0::q1::q2::q3::R) h:=ok.der (r:=q3) (by simp) it hp hF
theorem Hp.f1 (ok:Hp h0 D M (q0::q1::R) h):Hp h0 D M (q1::q0::R) h:=ok.sub (by simp;grind)
theorem Hp.f2 (ok:Hp h0 D M (q0::q1::q2::R) h):Hp h0 D M (q2::q0::q1::R) h:=ok.sub (by simp;grind)
theorem Hp.f3 (ok:Hp h0 D M (q0::q1::q2::q3::R) h):Hp h0 D M (q3::q0::q1::q2::R) h:=ok.sub (by simp;grind)
theorem Hp.f4 (ok:Hp h0 D M (q0::q1::q2::q3::q4::R) h):Hp h0 D M (q4::q0::q1::q2::q3::R) h:=ok.sub (by simp;grind)
theorem Hp.e0 (ok:Hp h0 D M R h):Hp h0 D M [] h:=ok.sub (by simp)
theorem Hp.e1 (ok:Hp h0 D M (q0::R) h):Hp h0 D M [q0] h:=ok.sub (by simp)
theorem Hp.e2 (ok:Hp h0 D M (q0::q1::R) h):Hp h0 D M [q0,q1] h:=ok.sub (by simp)
theorem Hp.e3 (ok:Hp h0 D M (q0::q1::q2::R) h):Hp h0 D M [q0,q1,q2] h:=ok.sub (by simp)
theorem Hp.e4 (ok:Hp h0 D M (q0::q1::q2::q3::R) h):Hp h0 D M [q0,q1,q2,q3] h:=ok.sub (by simp)
end
section
variable {h0 h:Heap} {D:Nat->Prop} {M R:List Itm} {a b c d e f g i j k:Itm}
theorem Hp.k5 (ok:Hp h0 D (a::b::c::d::e::M) R h):Hp h0 D [a,b,c,d,e] R h:=ok.keep (.cons_cons _ (.cons_cons _ (.cons_cons _ (.cons_cons _ (.cons_cons _ (List.nil_sublist _))))))
theorem Hp.k6 (ok:Hp h0 D (a::b::c::d::e::f::M) R h):Hp h0 D [a,b,c,d,e,f] R h:=ok.keep (.cons_cons _ (.cons_cons _ (.cons_cons _ (.cons_cons _ (.cons_cons _ (.cons_cons _ (List.nil_sublist _)))))))
theorem Hp.k7 (ok:Hp h0 D (a::b::c::d::e::f::g::M) R h):Hp h0 D [a,b,c,d,e,f,g] R h:=ok.keep (.cons_cons _ (.cons_cons _ (.cons_cons _ (.cons_cons _ (.cons_cons _ (.cons_cons _ (.cons_cons _ (List.nil_sublist _))))))))
theorem Hp.k8 (ok:Hp h0 D (a::b::c::d::e::f::g::i::M) R h):Hp h0 D [a,b,c,d,e,f,g,i] R h:=ok.keep (.cons_cons _ (.cons_cons _ (.cons_cons _ (.cons_cons _ (.cons_cons _ (.cons_cons _ (.cons_cons _ (.cons_cons _ (List.nil_sublist _)))))))))
theorem Hp.k9 (ok:Hp h0 D (a::b::c::d::e::f::g::i::j::M) R h):Hp h0 D [a,b,c,d,e,f,g,i,j] R h:=ok.keep (.cons_cons _ (.cons_cons _ (.cons_cons _ (.cons_cons _ (.cons_cons _ (.cons_cons _ (.cons_cons _ (.cons_cons _ (.cons_cons _ (List.nil_sublist _))))))))))
theorem Hp.m6 (ok:Hp h0 D (a::b::c::d::e::f::g::M) R h):g.p h:=(ok.m g (by simp)).1
theorem Hp.n6 (ok:Hp h0 D (a::b::c::d::e::f::g::M) R h):Hp h0 D (g::a::b::c::d::e::f::M) R h:=ok.perm (by simpa using (List.perm_middle (l₁:=[a,b,c,d,e,f]) (l₂:=M) (a:=g)).symm)
theorem Hp.m7 (ok:Hp h0 D (a::b::c::d::e::f::g::i::M) R h):i.p h:=(ok.m i (by simp)).1
theorem Hp.n7 (ok:Hp h0 D (a::b::c::d::e::f::g::i::M) R h):Hp h0 D (i::a::b::c::d::e::f::g::M) R h:=ok.perm (by simpa using (List.perm_middle (l₁:=[a,b,c,d,e,f,g]) (l₂:=M) (a:=i)).symm)
theorem Hp.m8 (ok:Hp h0 D (a::b::c::d::e::f::g::i::j::M) R h):j.p h:=(ok.m j (by simp)).1
theorem Hp.n8 (ok:Hp h0 D (a::b::c::d::e::f::g::i::j::M) R h):Hp h0 D (j::a::b::c::d::e::f::g::i::M) R h:=ok.perm (by simpa using (List.perm_middle (l₁:=[a,b,c,d,e,f,g,i]) (l₂:=M) (a:=j)).symm)
theorem Hp.n9 (ok:Hp h0 D (a::b::c::d::e::f::g::i::j::k::M) R h):Hp h0 D (k::a::b::c::d::e::f::g::i::j::M) R h:=ok.perm (by simpa using (List.perm_middle (l₁:=[a,b,c,d,e,f,g,i,j]) (l₂:=M) (a:=k)).symm)
end
theorem oneL {vs:List Value} (h:vs.all (fun v=>v.oneCell')=true):∀v∈vs,v.oneCell'=true:=List.all_eq_true.1 h
section
variable {P:Program} {s:Slots} {h0 h:Heap} {D:Nat->Prop} {M R:List Itm} {d:Option Tmp} {ty:TypeId} {pos:String} {af:Array Edge} {g:Option (Nat × Bool)} {x y c:Operand} {t u:TypeId}
theorem OpE.bx {P:Program} {o:Oper} {cs:List Value} (hv:OpE P o s h (.pointer (some ⟨h.size,0,none⟩)) (h.push (.cells cs.toArray t (0,0)))) (ok:Hp h0 D M R h) :
  OpA P o s h (fun v h'=>∃b,v=.pointer (some ⟨b,0,none⟩)/\Hp h0 D (boxI b t cs::M) R h'/\Ext h h'):=fun E w at'=>by
 obtain ⟨w',at2,hr⟩:=hv E w at';exact ⟨_,_,w',⟨h.size,rfl,ok.newM (Ext.push _ _) _ (push_same _ _) (fun j hj=>by simp at hj⊢;omega),Ext.push _ _⟩,at2,hr⟩
theorem OpE.sx {P:Program} {o:Oper} {k nn:Nat} {cs:List Value} (hv:OpE P o s h (.slice (some ⟨h.size,0,none⟩) nn nn) (h.push (.cells cs.toArray t (0,0)))) (hs:cs.length=nn*k) (hn:nn<=9223372036854775807) (ok:Hp h0 D M R h) :
  OpA P o s h (fun v h'=>∃b,v=.slice (some ⟨b,0,none⟩) nn nn/\Hp h0 D (capI k t (some ⟨b,0,none⟩,nn,nn) cs::M) R h'/\Ext h h'):=fun E w at'=>by
 obtain ⟨w',at2,hr⟩:=hv E w at';refine ⟨_,_,w',⟨h.size,rfl,ok.newM (Ext.push _ _) _ ?_ (fun j hj=>?_),Ext.push _ _⟩,at2,hr⟩
 ·have:=Cap.new (k:=k) (e:=t) (n:=nn) (cs:=cs.toArray) (push_same h _) (by simpa using hs) hn;simpa using this
 ·obtain ⟨o,n,c,hv⟩:=hj;injection hv with h1;injection h1 with h1;injection h1 with h1;simp;omega
theorem OpA.mk {o:Oper} {Q Q':Value->Heap->Prop} (hv:OpA P o s h Q) (hq:∀v h',Q v h'->Q' v h'):OpA P o s h Q':=fun E w at'=>
 let ⟨v,h',w',q,a,r⟩:=hv E w at';⟨v,h',w',hq v h' q,a,r⟩
theorem OpUR.mk {o:Oper} {Q Q':Heap->Prop} (hv:OpUR P o s h Q) (hq:∀h',Q h'->Q' h'):OpUR P o s h Q':=fun E w at'=>
 let ⟨h',w',q,a,r⟩:=hv E w at';⟨h',w',hq h' q,a,r⟩
abbrev Bx (h h0:Heap) (D:Nat->Prop) (t:TypeId) (cs:List Value) (M R:List Itm) (v:Value) (h':Heap):Prop:=∃b,v=.pointer (some ⟨b,0,none⟩)/\Hp h0 D (boxI b t cs::M) R h'/\Ext h h'
theorem allSz_len {k:Nat} : ∀ {xs:List Operand},V.AllSz s k xs->(xs.flatMap fun x=>(ev s x).cells.toList).length=xs.length*k
 | [],_=>by simp
 | x::xs,h=>by
  have h1:=h.1;have h2:=allSz_len h.2;simp only [List.flatMap_cons,qA,qV,kV,Array.length_toList,h1,h2];omega
namespace OpA
theorem bxI {k:IntKind} {a:Int} (ok:Hp h0 D M R h) (hx:ev s x=.int k a:=by exact rfl):OpA P ⟨d,.box t x,ty,pos,af,g⟩ s h (Bx h h0 D t [.int k a] M R):=OpE.bx (V.boxI hx) ok
theorem bxS {a:Option Addr} {n m:Nat} (ok:Hp h0 D M R h) (hx:ev s x=.slice a n m:=by exact rfl):OpA P ⟨d,.box t x,ty,pos,af,g⟩ s h (Bx h h0 D t [.slice a n m] M R):=OpE.bx (V.boxS hx) ok
theorem bxP {a:Option Addr} (ok:Hp h0 D M R h) (hx:ev s x=.pointer a:=by exact rfl):OpA P ⟨d,.box t x,ty,pos,af,g⟩ s h (Bx h h0 D t [.pointer a] M R):=OpE.bx (V.boxP hx) ok
theorem bxA {cs:List Value} (ok:Hp h0 D M R h) (hx:ev s x=.agg cs.toArray:=by exact rfl):OpA P ⟨d,.box t x,ty,pos,af,g⟩ s h (Bx h h0 D t cs M R):=OpE.bx (V.boxA hx) ok
theorem alA {cs:List Value} (hz:zrB P t=some (.agg cs.toArray)) (ok:Hp h0 D M R h):OpA P ⟨d,.alloc t,ty,pos,af,g⟩ s h (Bx h h0 D t cs M R):=OpE.bx (V.alloc hz rfl) ok
theorem alI {k:IntKind} {a:Int} (hz:zrB P t=some (.int k a)) (ok:Hp h0 D M R h):OpA P ⟨d,.alloc t,ty,pos,af,g⟩ s h (Bx h h0 D t [.int k a] M R):=OpE.bx (V.alloc hz rfl) ok
theorem alB {a:Bool} (hz:zrB P t=some (.bool a)) (ok:Hp h0 D M R h):OpA P ⟨d,.alloc t,ty,pos,af,g⟩ s h (Bx h h0 D t [.bool a] M R):=OpE.bx (V.alloc hz rfl) ok
theorem alS {a:Option Addr} {n m:Nat} (hz:zrB P t=some (.slice a n m)) (ok:Hp h0 D M R h):OpA P ⟨d,.alloc t,ty,pos,af,g⟩ s h (Bx h h0 D t [.slice a n m] M R):=OpE.bx (V.alloc hz rfl) ok
theorem alM {a:Option Nat} (hz:zrB P t=some (.map a)) (ok:Hp h0 D M R h):OpA P ⟨d,.alloc t,ty,pos,af,g⟩ s h (Bx h h0 D t [.map a] M R):=OpE.bx (V.alloc hz rfl) ok
theorem lit (xs:List Operand) {n k:Nat} {e:TypeId} {z:Value} {l:List (Nat × Operand)} {cs:List Value} (ht:elB P t=some e) (hk:szB P e=some k) (hz:zrB P e=some z) (ok:Hp h0 D M R h) (hx:V.AllSz s k xs) (hcs:(xs.flatMap fun x=>(ev s x).cells.toList)=cs:=by exact rfl)
  (hl:l=V.idx 0 xs:=by exact rfl) (hn:n=xs.length:=by exact rfl) (hnk:Nat.ble (n*k) 16777216=true:=by exact rfl) (hn2:Nat.ble n 16777216=true:=by exact rfl) :
  OpA P ⟨d,.buildSlice t n l.toArray,ty,pos,af,g⟩ s h (fun v h'=>∃b,v=.slice (some ⟨b,0,none⟩) n n/\Hp h0 D (capI k e (some ⟨b,0,none⟩,n,n) cs::M) R h'/\Ext h h'):=by
 subst hl hn;refine OpE.sx (V.buildSlice xs ht hk hz rfl rfl hnk hx (by simpa using hcs)) ?_ ?_ ok
 ·subst hcs;exact allSz_len hx
 ·exact kN (Nat.le_of_ble_eq_true hn2) (by omega)
theorem app {e:TypeId} {k bytes:Nat} {z:Value} {a:Option Addr} {n m:Nat} {nv:Value} {xs news:List Value} (ht:elB P t=some e) (hk:szB P e=some (k+1)) (hby:byB P e=some (bytes+1)) (hz:zrB P e=some z) (ok:Hp h0 D (capI (k+1) e (a,n,m) xs::M) R h)
  (hn:Sl h (k+1) nv news) (h1:∀u∈news,u.oneCell'=true) (hfit:(xs.length+news.length)*(bytes+1)<=140737488355328) (hx:ev s x=.slice a n m:=by exact rfl) (hy:ev s y=nv:=by exact rfl) (hzk:z.cells.size=k+1:=by exact rfl) :
  OpA P ⟨d,.call ⟨.builtin .append,#[x,y],#[t,t]⟩,ty,pos,af,g⟩ s h (fun v' h'=>∃a' n' m',v'=.slice a' n' m'/\Hp h0 D (capI (k+1) e (a',n',m') (xs++news)::M) R h'/\Appended h (k+1) e (.slice a n m) (xs++news) (.slice a' n' m') h'):=
 OpA.mk (V.append hx hy ht hk hby hz hzk ok.m0 hn h1 hfit) fun v' h' q=>by
  obtain ⟨a',n',m',rfl,_⟩:=id q.cap;exact ⟨a',n',m',rfl,ok.upd q.chg (fun _ x=>x) _ q.cap fun j hj=>(q.place j hj).imp id fun h=>⟨h,q.cap.lt hj⟩,q⟩
end OpA
namespace OpUR
section
variable {b o:Nat} {e:TypeId} {cs:List Value}
theorem st {v:Value} (ht:szB P t=some 1) (ok:Hp h0 D (boxI b e cs::M) R h) (hx:ev s x=.pointer (some ⟨b,o,none⟩)) (hy:ev s y=v) (h1:v.oneCell'=true) (ho:Nat.blt o cs.length=true) :
  OpUR P ⟨d,.store t x y,ty,pos,af,g⟩ s h (fun h'=>Hp h0 D (boxI b e (cs.set o v)::M) R h'/\Chg (fun x=>x=b) h h'):=fun E w at'=>by
 have ho':o<cs.length:=by simpa [Nat.blt_eq] using ho
 obtain ⟨w',at2,hr⟩:=V.store (P:=P) (s:=s) (d:=d) (ty:=ty) (pos:=pos) (af:=af) (g:=g) hx hy ht h1 ok.m0 (by simpa using ho') (by simp) rfl E w at';refine ⟨_,w',⟨?_,hput_chg _ _ _⟩,at2,hr⟩;refine ok.upd (hput_chg _ _ _) (fun _ x=>x) _ ?_ (fun _ x=>.inl x);have:=hput_same (cs':=cs.toArray.setIfInBounds o v) ok.m0;simpa using this
theorem stI {k:IntKind} {a:Int} (ht:szB P t=some 1) (ok:Hp h0 D (boxI b e cs::M) R h) (hx:ev s x=.pointer (some ⟨b,o,none⟩):=by exact rfl) (hy:ev s y=.int k a:=by exact rfl) (ho:Nat.blt o cs.length=true:=by exact rfl) :
  OpUR P ⟨d,.store t x y,ty,pos,af,g⟩ s h (fun h'=>Hp h0 D (boxI b e (cs.set o (.int k a))::M) R h'/\Chg (fun x=>x=b) h h'):=st ht ok hx hy rfl ho
theorem stB {a:Bool} (ht:szB P t=some 1) (ok:Hp h0 D (boxI b e cs::M) R h) (hx:ev s x=.pointer (some ⟨b,o,none⟩):=by exact rfl) (hy:ev s y=.bool a:=by exact rfl) (ho:Nat.blt o cs.length=true:=by exact rfl) :
  OpUR P ⟨d,.store t x y,ty,pos,af,g⟩ s h (fun h'=>Hp h0 D (boxI b e (cs.set o (.bool a))::M) R h'/\Chg (fun x=>x=b) h h'):=st ht ok hx hy rfl ho
theorem stS {a:Option Addr} {n m:Nat} (ht:szB P t=some 1) (ok:Hp h0 D (boxI b e cs::M) R h) (hx:ev s x=.pointer (some ⟨b,o,none⟩):=by exact rfl) (hy:ev s y=.slice a n m:=by exact rfl) (ho:Nat.blt o cs.length=true:=by exact rfl) :
  OpUR P ⟨d,.store t x y,ty,pos,af,g⟩ s h (fun h'=>Hp h0 D (boxI b e (cs.set o (.slice a n m))::M) R h'/\Chg (fun x=>x=b) h h'):=st ht ok hx hy rfl ho
theorem stM {a:Option Nat} (ht:szB P t=some 1) (ok:Hp h0 D (boxI b e cs::M) R h) (hx:ev s x=.pointer (some ⟨b,o,none⟩):=by exact rfl) (hy:ev s y=.map a:=by exact rfl) (ho:Nat.blt o cs.length=true:=by exact rfl) :
  OpUR P ⟨d,.store t x y,ty,pos,af,g⟩ s h (fun h'=>Hp h0 D (boxI b e (cs.set o (.map a))::M) R h'/\Chg (fun x=>x=b) h h'):=st ht ok hx hy rfl ho
theorem stA {vs:List Value} (ht:szB P t=some vs.length) (ok:Hp h0 D (boxI b e cs::M) R h) (h1:∀v∈vs,v.oneCell'=true) (hx:ev s x=.pointer (some ⟨b,o,none⟩):=by exact rfl) (hy:ev s y=.agg vs.toArray:=by exact rfl) (ho:Nat.ble (o+vs.length) cs.length=true:=by exact rfl) :
  OpUR P ⟨d,.store t x y,ty,pos,af,g⟩ s h (fun h'=>Hp h0 D (boxI b e (spl cs o vs)::M) R h'/\Chg (fun x=>x=b) h h'):=fun E w at'=>by
 have ho':=Nat.le_of_ble_eq_true ho;obtain ⟨w',at2,hr⟩:=V.storeA (P:=P) (s:=s) (d:=d) (ty:=ty) (pos:=pos) (af:=af) (g:=g) hx hy ht h1 ok.m0 (by simpa using ho') (fzOk_zero _) rfl E w at';refine ⟨_,w',⟨?_,hput_chg _ _ _⟩,at2,hr⟩;exact ok.upd (hput_chg _ _ _) (fun _ x=>x) _ (by simpa using hput_same (cs':=(spl cs o vs).toArray) ok.m0) (fun _ x=>.inl x)
theorem stW {vs:List Value} (ht:szB P t=some vs.length) (ok:Hp h0 D (boxI b e cs::M) R h) (h1:∀v∈vs,v.oneCell'=true) (hl:cs.length=vs.length:=by exact rfl) (hx:ev s x=.pointer (some ⟨b,0,none⟩):=by exact rfl) (hy:ev s y=.agg vs.toArray:=by exact rfl) :
  OpUR P ⟨d,.store t x y,ty,pos,af,g⟩ s h (fun h'=>Hp h0 D (boxI b e vs::M) R h'/\Chg (fun x=>x=b) h h'):=
 OpUR.mk (stA (o:=0) ht ok h1 hx hy (by rw [hl,Nat.zero_add];exact Nat.ble_self_eq_true _)) fun h' q=>by
  have e:spl cs 0 vs=vs:=by unfold spl;simp [hl]
  rw [e] at q;exact q
end
theorem sx {b o n c k q:Nat} {e:TypeId} {xs:List Value} {v:Value} (ht:szB P t=some 1) (ok:Hp h0 D (capI k e (some ⟨b,o,none⟩,n,c) xs::M) R h) (hq:q<n*k) (hx:ev s x=.pointer (some ⟨b,o+q,none⟩)) (hy:ev s y=v) (h1:v.oneCell'=true) :
  OpUR P ⟨d,.store t x y,ty,pos,af,g⟩ s h (fun h'=>Hp h0 D (capI k e (some ⟨b,o,none⟩,n,c) (xs.set q v)::M) R h'/\Chg (fun x=>x=b) h h'):=
 OpUR.mk (V.storeC hx hy ht h1 ok.m0 hq) fun h' r=>⟨ok.upd r.chg (fun j e=>by subst e;exact ⟨o,n,c,rfl⟩) _ r.cap (fun _ x=>.inl x),r.chg⟩
section
variable {b o n c k q:Nat} {e:TypeId} {xs:List Value}
theorem sxI {kk:IntKind} {a:Int} (ht:szB P t=some 1) (ok:Hp h0 D (capI k e (some ⟨b,o,none⟩,n,c) xs::M) R h) (hx:ev s x=.pointer (some ⟨b,o+q,none⟩):=by exact rfl) (hy:ev s y=.int kk a:=by exact rfl) (hq:q<n*k:=by omega) :
  OpUR P ⟨d,.store t x y,ty,pos,af,g⟩ s h (fun h'=>Hp h0 D (capI k e (some ⟨b,o,none⟩,n,c) (xs.set q (.int kk a))::M) R h'/\Chg (fun x=>x=b) h h'):=sx ht ok hq hx hy rfl
end
theorem sa {α:Type} {f:α->Value} {b q:Nat} {e:TypeId} {l:List α} {v:Value} (a:α) (ht:szB P t=some 1) (ok:Hp h0 D (boxI b e (l.map f)::M) R h) (hq:q<l.length) (h1:(f a).oneCell'=true:=by exact rfl) (hx:ev s x=.pointer (some ⟨b,0+q,none⟩):=by exact rfl) (hy:ev s y=v:=by exact rfl) (hv:v=f a:=by exact rfl) :
  OpUR P ⟨d,.store t x y,ty,pos,af,g⟩ s h (fun h'=>Hp h0 D (boxI b e ((l.set q a).map f)::M) R h'/\Chg (fun x=>x=b) h h'):=
 OpUR.mk (st (o:=0+q) ht ok hx hy (by rw [hv];exact h1) (by simp [Nat.blt_eq];exact hq)) fun h' r=>by
  have e:(l.map f).set (0+q) v=(l.set q a).map f:=by rw [hv,Nat.zero_add,List.map_set]
  rw [e] at r;exact r
end OpUR
end
theorem at_box {h:Heap} {b o:Nat} {t:TypeId} {cs:List Value} {v:Value} (hb:h[b]? = some (.cells cs.toArray t (0,0))) (hv:cs[o]? = some v:=by exact rfl):cell h b o=some v:=by
 rw [cell_of hb];simpa using hv
theorem at_boxa {h:Heap} {b:Nat} {t:TypeId} {cs:List Value} (hb:h[b]? = some (.cells cs.toArray t (0,0))):∀j v,cs[j]? = some v->cell h b (0+j)=some v:=cells0 hb
theorem at_part {h:Heap} {b o n:Nat} {t:TypeId} {cs:List Value} (hb:h[b]? = some (.cells cs.toArray t (0,0))):∀j v,((cs.drop o).take n)[j]? = some v->cell h b (o+j)=some v:=fun j v hv=>by
 rw [List.getElem?_take] at hv;split at hv
 ·rw [List.getElem?_drop] at hv;rw [cell_of hb];simpa using hv
 ·cases hv
open Go
class Rep (α:Type) where
 k:Nat
 rd:Heap->(Nat->Prop)->List Value->α->Prop
 kpos:0<k
 len:∀ {h F cs a},rd h F cs a->cs.length=k
 one:∀ {h F cs a},rd h F cs a->∀u∈cs,u.oneCell'=true
 st:∀ {G h h' F cs a},Chg G h h'->(∀j,F j->¬G j)->rd h F cs a->rd h' F cs a
 mono:∀ {h} {F F':Nat->Prop} {cs a},(∀j,F j->F' j)->rd h F cs a->rd h F' cs a
 lt:∀ {h F cs a},rd h F cs a->rd h (fun j=>F j/\j<h.size) cs a
@[reducible] def Rep.flat {α:Type} (f:α->Value) (h1:∀a,(f a).oneCell'=true):Rep α where
 k:=1
 rd _ _ cs a:=cs=[f a]
 kpos:=by omega
 len:=fun h=>by rw [h];rfl
 one:=fun h u hu=>by rw [h,qS] at hu;subst hu;exact h1 _
 st:=fun _ _ h=>h
 mono:=fun _ h=>h
 lt:=fun h=>h
instance:Rep UInt8:=Rep.flat bv fun _=>rfl
instance:Rep Int:=Rep.flat iv fun _=>rfl
variable {α:Type} [Rep α]
structure RdL (h:Heap) (F E:Nat->Prop) (x:SV) (l:List α):Prop where
 n:x.2.1=l.length
 c:x.2.1<=x.2.2
 m:x.2.2<=9223372036854775807
 at':0<l.length->∃b o,x.1=some ⟨b,o,none⟩/\F b/\∀i (hi:i<l.length),∃cs,Rep.rd h E cs l[i]/\∀j v,cs[j]? = some v->cell h b (o+i*Rep.k α+j)=some v
section
variable {h h':Heap} {F F' E E' G:Nat->Prop} {x:SV} {l:List α}
theorem RdL.st (c:Chg G h h') (hF:∀j,F j->¬G j) (hE:∀j,E j->¬G j) (r:RdL h F E x l):RdL h' F E x l:=
 ⟨r.n,r.c,r.m,fun hp=>by
  obtain ⟨b,o,e,hb,hc⟩:=r.at' hp;refine ⟨b,o,e,hb,fun i hi=>?_⟩;obtain ⟨cs,h1,h2⟩:=hc i hi;exact ⟨cs,Rep.st c hE h1,fun j v hj=>c.cell (h2 j v hj) (hF b hb)⟩⟩
theorem RdL.ext (c:Ext h h') (r:RdL h F E x l):RdL h' F E x l:=r.st c (fun _ _ f=>f) (fun _ _ f=>f)
theorem RdL.mono (hF:∀j,F j->F' j) (hE:∀j,E j->E' j) (r:RdL h F E x l):RdL h F' E' x l:=
 ⟨r.n,r.c,r.m,fun hp=>by
  obtain ⟨b,o,e,hb,hc⟩:=r.at' hp;refine ⟨b,o,e,hF b hb,fun i hi=>?_⟩;obtain ⟨cs,h1,h2⟩:=hc i hi;exact ⟨cs,Rep.mono hE h1,h2⟩⟩
theorem RdL.lt (r:RdL h F E x l):RdL h (fun j=>F j/\j<h.size) (fun j=>E j/\j<h.size) x l:=
 ⟨r.n,r.c,r.m,fun hp=>by
  obtain ⟨b,o,e,hb,hc⟩:=r.at' hp;obtain ⟨cs0,g1,g2⟩:=hc 0 hp;have g3:=Rep.len g1;have g4:=Rep.kpos (α:=α);have hlt:b<h.size:=cell_lt (g2 0 (cs0[0]'(by omega)) (by simp));refine ⟨b,o,e,⟨hb,hlt⟩,fun i hi=>?_⟩;obtain ⟨cs,h1,h2⟩:=hc i hi;exact ⟨cs,Rep.lt h1,h2⟩⟩
theorem RdL.nil (h:Heap) (F E:Nat->Prop):RdL h F E (none,0,0) ([]:List α):=⟨rfl,qR _,by simp,fun h=>absurd h (by simp)⟩
theorem RdL.pos {a:Option Addr} {n c:Nat} (r:RdL h F E (a,n,c) l) (hp:0<l.length):∃b o,a=some ⟨b,o,none⟩/\F b:=let ⟨b,o,e,hb,_⟩:=r.at' hp;⟨b,o,e,hb⟩
theorem RdL.el {b o n c:Nat} (r:RdL h F E (some ⟨b,o,none⟩,n,c) l) {i:Nat} (hi:i<l.length):∃cs,Rep.rd h E cs l[i]/\∀j v,cs[j]? = some v->cell h b (o+i*Rep.k α+j)=some v:=by
 obtain ⟨b',o',e,_,hc⟩:=r.at' (by omega);injection e with e;injection e with e1 e2;subst e1 e2;exact hc i hi
theorem RdL.form (r:RdL h F E x l):∃a c,x=(a,l.length,c)/\l.length<=c/\c<=9223372036854775807:=by
 obtain ⟨a,n,c⟩:=x;obtain ⟨h1,h2,h3,_⟩:=r;simp only at h1 h2 h3;subst h1;exact ⟨a,c,rfl,h2,h3⟩
end
instance {α:Type} [Rep α]:Rep (List α) where
 k:=1
 rd h F cs l:=∃x:SV,cs=[sv x]/\RdL h F F x l
 kpos:=by omega
 len:=fun ⟨_,h,_⟩=>by rw [h];rfl
 one:=fun ⟨_,h,_⟩ u hu=>by rw [h,qS] at hu;subst hu;rfl
 st:=fun c d ⟨x,e,r⟩=>⟨x,e,r.st c d d⟩
 mono:=fun d ⟨x,e,r⟩=>⟨x,e,r.mono d d⟩
 lt:=fun ⟨x,e,r⟩=>⟨x,e,r.lt⟩
@[reducible] def rdI (F E:Nat->Prop) (x:SV) (l:List α):Itm:=⟨fun h=>RdL h F E x l,fun j=>F j\/E j,fun _ _ _ c d r=>r.st c (fun j hj=>d j (.inl hj)) (fun j hj=>d j (.inr hj))⟩
@[reducible] def celI (b o:Nat) (cs:List Value):Itm:=⟨fun h=>∀j v,cs[j]? = some v->cell h b (o+j)=some v,fun j=>j=b,fun _ _ _ c d r j v hj=>c.cell (r j v hj) (d b rfl)⟩
section
variable {h h':Heap} {F E G:Nat->Prop} {x:SV}
theorem RdL.u8 {l:List UInt8} {b o n c:Nat} (r:RdL h F E (some ⟨b,o,none⟩,n,c) l) {i:Nat} (hi:i<l.length):cell h b (o+i)=some (.int .u8 l[i].toNat):=by
 obtain ⟨cs,h1,h2⟩:=r.el hi;have h3:cs=[.int .u8 l[i].toNat]:=h1;subst h3;have:=h2 0 _ rfl;simpa [Rep.k] using this
theorem RdL.i64 {l:List Int} {b o n c:Nat} (r:RdL h F E (some ⟨b,o,none⟩,n,c) l) {i:Nat} (hi:i<l.length):cell h b (o+i)=some (.int .i64 l[i]):=by
 obtain ⟨cs,h1,h2⟩:=r.el hi;have h3:cs=[.int .i64 l[i]]:=h1;subst h3;have:=h2 0 _ rfl;simpa [Rep.k] using this
theorem RdL.row {β:Type} [Rep β] {l:List (List β)} {b o n c:Nat} (r:RdL h F E (some ⟨b,o,none⟩,n,c) l) {i:Nat} (hi:i<l.length):∃(a:Option Addr) (c':Nat),cell h b (o+i)=some (.slice a l[i].length c')/\RdL h E E (a,l[i].length,c') l[i]:=by
 obtain ⟨cs,⟨y,rfl,h1⟩,h2⟩:=r.el hi;obtain ⟨a,c',rfl,_⟩:=h1.form;have:=h2 0 _ rfl;exact ⟨a,c',by simpa [Rep.k] using this,h1⟩
theorem RdL.of_sl {α:Type} [Rep α] {f:α->Value} (hk:Rep.k α=1) (hf:∀h E a,Rep.rd h E [f a] a) {l:List α} (r:Sl h 1 (sv x) (l.map f)):RdL h (blk (sv x)) E x l:=by
 obtain ⟨a,n,c⟩:=x;obtain ⟨a',n',c',hv,h1,h2,h3⟩:=r;have hv:Value.slice a n c=.slice a' n' c':=hv;injection hv with e1 e2 e3;subst e1 e2 e3;have hl:l.length=n:=by have:=h3.len;simpa using this
 refine ⟨hl.symm,h1,h2,fun hp=>?_⟩;obtain ⟨b,o,rfl,hc⟩:=h3.pos (by omega);exact ⟨b,o,rfl,⟨o,n,c,rfl,by omega⟩,fun i hi=>⟨[f l[i]],hf _ _ _,fun j v hj=>by
  rw [hk];have hj0:j=0:=by have:=(List.getElem?_eq_some_iff.1 hj).1;simpa using this
  subst hj0;simp at hj;subst hj;simpa using hc i _ (map_at hi)⟩⟩
theorem RdL.to_sl {α:Type} [Rep α] {f:α->Value} (hk:Rep.k α=1) (hf:∀h E cs a,Rep.rd h E cs a->cs=[f a]) {l:List α} (r:RdL h F E x l):Sl h 1 (sv x) (l.map f):=by
 obtain ⟨a,n,c⟩:=x;have hn:n=l.length:=r.n;refine ⟨a,n,c,rfl,r.c,r.m,?_,fun hp=>?_⟩
 ·simp;omega
 ·obtain ⟨b,o,e,_,hc⟩:=r.at' (by omega);simp at e;subst e;refine ⟨b,o,rfl,fun i v hi=>?_⟩;have hil:i<l.length:=by have:=(List.getElem?_eq_some_iff.1 hi).1;simpa using this
  obtain ⟨cs,h1,h2⟩:=hc i hil;have:=hf _ _ _ _ h1;subst this;rw [map_at hil] at hi;injection hi with hi;subst hi;have:=h2 0 _ rfl;simpa [hk] using this
theorem RdL.by {l:List UInt8} (r:RdL h F E x l):Bytes h (sv x) l:=RdL.to_sl rfl (fun _ _ _ _ h=>h) r
theorem RdL.ofInts {l:List Int} (r:Ints h (sv x) l):RdL h (blk (sv x)) E x l:=RdL.of_sl rfl (fun _ _ _=>rfl) r
theorem RdL.ints {l:List Int} (r:RdL h F E x l):Ints h (sv x) l:=RdL.to_sl rfl (fun _ _ _ _ h=>h) r
theorem blk_lt {k:Nat} {v:Value} {xs:List Value} (hk:0<k) (r:Sl h k v xs):∀j,blk v j->j<h.size:=fun j hj=>by
 obtain ⟨o,n,c,rfl,hn⟩:=hj;have h1:=r.cells;obtain ⟨b,o',e,hc⟩:=h1.pos hn;injection e with e;injection e with e1 e2;subst e1 e2;have h2:0<xs.length:=by rw [h1.1];exact Nat.mul_pos hn hk
 exact cell_lt (hc 0 xs[0] (by simp))
end
theorem flatten_len {k:Nat} : ∀ {css:List (List Value)},(∀cs∈css,cs.length=k)->css.flatten.length=css.length*k
 | [],_=>by simp
 | cs::l,h=>by
  have h1:=h cs qX;have h2:=flatten_len (k:=k) (css:=l) fun c hc=>h c (qQ _ hc);simp only [List.flatten_cons,qA,qV,kV,h1,h2];omega
theorem flatten_at {k:Nat} : ∀ {css:List (List Value)},(∀cs∈css,cs.length=k)->∀(i j:Nat) (hi:i<css.length),j<k->css.flatten[i*k+j]? = css[i][j]?
 | cs::l,h,0,j,_,hj=>by
  have h1:=h cs qX;simp only [List.flatten_cons,Nat.zero_mul,Nat.zero_add];rw [List.getElem?_append_left (by omega)];rfl
 | cs::l,h,i+1,j,hi,hj=>by
  have h1:=h cs qX;have h2:=flatten_at (k:=k) (css:=l) (fun c hc=>h c (qQ _ hc)) i j (by simpa using hi) hj;simp only [List.flatten_cons];rw [List.getElem?_append_right (by rw [h1,kV];omega),h1];have:(i+1)*k+j-k=i*k+j:=by rw [kV];omega
  rw [this,h2];rfl
theorem RdL.of_cap {h:Heap} {E:Nat->Prop} {e:TypeId} {x:SV} {css:List (List Value)} {l:List α} (c:Cap h (Rep.k α) e (sv x) css.flatten) (r:All2 (Rep.rd h E) css l):RdL h (blkC (sv x)) E x l:=by
 obtain ⟨a,n,c'⟩:=x;have hk:=Rep.kpos (α:=α);have hlen:∀cs∈css,cs.length=Rep.k α:=fun cs hcs=>by
  obtain ⟨i,hi,rfl⟩:=qO.1 hcs;exact Rep.len (r.2 i hi (by have:=r.1;omega))
 have hs:Sl h (Rep.k α) (.slice a n c') css.flatten:=c.sl;have hn:css.length=n:=by
  have h1:=hs.cells.1;rw [flatten_len hlen] at h1;exact kU hk h1
 refine ⟨by have:=r.1;simp;omega,c.le,c.bd,fun hp=>?_⟩;have hn0:0<n:=by have:=r.1;omega
 obtain ⟨b,o,rfl,hc⟩:=hs.cells.pos hn0;refine ⟨b,o,rfl,⟨o,n,c',rfl⟩,fun i hi=>⟨css[i]'(by have:=r.1;omega),r.2 i _ hi,fun j v hj=>?_⟩⟩;have h1:i<css.length:=by have:=r.1;omega
 have h2:j<Rep.k α:=by
  have h3:=(List.getElem?_eq_some_iff.1 hj).1;rwa [hlen _ (qP h1)] at h3
 rw [Nat.add_assoc];exact hc _ _ (by rw [flatten_at hlen i j h1 h2];exact hj)
theorem RdL.of_cap1 {f:α->Value} {h:Heap} {E:Nat->Prop} {e:TypeId} {x:SV} {l:List α} (hk:Rep.k α=1) (hf:∀h E a,Rep.rd h E [f a] a) (c:Cap h 1 e (sv x) (l.map f)):RdL h (blkC (sv x)) E x l:=
 (RdL.of_sl hk hf c.sl).mono (fun _ ⟨o,n,c,e,_⟩=>⟨o,n,c,e⟩) (fun _ h=>h)
section
variable {h0 h h':Heap} {D:Nat->Prop} {M R:List Itm} {x:SV} {k:Nat} {e:TypeId} {xs:List Value} {l:List α}
theorem Hp.own {a:Option Addr} {n c:Nat} (ok:Hp h0 D M R h) (o:Own h h' k e (.slice a n c) xs):Hp h0 D (capI k e (a,n,c) xs::M) R h':=ok.newM o.ext _ o.cap fun j hj=>⟨o.fresh j hj,o.cap.lt hj⟩
theorem Hp.ret (ok:Hp h0 D M R h) (c:Ext h h') (r:RdL h' (Nw h h') (Nw h h') x l):Hp h0 D M (rdI (Nw h h') (Nw h h') x l::R) h':=ok.newR c _ r fun _ hj=>hj.elim id id
theorem Hp.fresh {a:Itm} (ok:Hp h0 none_ (a::M) R h):∀j,a.F j->Nw h0 h j:=fun j hj=>
 have h1:=(ok.m a (by simp)).2 j hj
 ⟨h1.2.elim (fun f=>f.elim) id,h1.1⟩
theorem Hp.toOwn (ok:Hp h0 none_ (capI k e x xs::M) R h):Own h0 h k e (sv x) xs:=⟨ok.m0,ok.chg,fun j hj=>(ok.fresh j hj).1⟩
theorem Hp.arg (ok:Hp h0 D [] R h) {F E:Nat->Prop} (r:RdL h F E x l):Hp h0 D [] (rdI (fun j=>F j/\j<h.size) (fun j=>E j/\j<h.size) x l::R) h:=ok.old _ r.lt fun _ hj=>hj.elim (·.2) (·.2)
theorem Hp.frzB (ok:Hp h0 D (capI 1 e x xs::M) R h) {l:List UInt8} (hx:xs=l.map bv):Hp h0 D M (rdI (blkC (sv x)) none_ x l::R) h:=
 (ok.re (rdI (blkC (sv x)) none_ x l) (RdL.of_cap1 rfl (fun _ _ _=>rfl) (by have:=ok.m0;rw [hx] at this;exact this)) fun _ hj=>hj.elim id fun f=>f.elim).frz
theorem Hp.frzI (ok:Hp h0 D (capI 1 e x xs::M) R h) {l:List Int} (hx:xs=l.map iv):Hp h0 D M (rdI (blkC (sv x)) none_ x l::R) h:=
 (ok.re (rdI (blkC (sv x)) none_ x l) (RdL.of_cap1 rfl (fun _ _ _=>rfl) (by have:=ok.m0;rw [hx] at this;exact this)) fun _ hj=>hj.elim id fun f=>f.elim).frz
end
open Go
section
variable {h0 h h':Heap} {D:Nat->Prop} {M R:List Itm} {x:SV} {k:Nat} {e:TypeId} {xs ys:List Value}
theorem Own.form3 {v:Value} (o:Own h h' k e v xs):∃a n c,v=.slice a n c:=let ⟨a,n,c,e,_⟩:=o.cap;⟨a,n,c,e⟩
theorem Cap.u8 {l:List UInt8} {b o n c:Nat} (r:Cap h 1 e (.slice (some ⟨b,o,none⟩) n c) (l.map bv)) {i:Nat} (hi:i<l.length):cell h b (o+i)=some (.int .u8 l[i].toNat):=by
 obtain ⟨b',o',he,hc⟩:=r.sl.cells.pos (by have:=r.sl.cells.1;simp at this;omega);injection he with he;injection he with e1 e2;subst e1 e2;exact hc i _ (map_at hi)
theorem Hp.nilC (ok:Hp h0 D M R h):Hp h0 D (capI k e (none,0,0) []::M) R h:=
 ok.newM (Ext.refl h) _ (Cap.nil _ _ _) fun j ⟨o,n,c,e⟩=>by cases e
theorem Hp.cx (ok:Hp h0 D (capI k e x xs::M) R h) (q:xs=ys):Hp h0 D (capI k e x ys::M) R h:=q▸ok
theorem snocI {l:List Int} {x:Int} : l.map iv++[.int .i64 x]=(l++[x]).map iv:=by simp [iv]
theorem bv_all {l:List UInt8} : ∀u∈l.map bv,u.oneCell'=true:=fun u hu=>by
 obtain ⟨x,_,rfl⟩:=kS.1 hu;rfl
theorem iv_all {l:List Int} : ∀u∈l.map iv,u.oneCell'=true:=fun u hu=>by
 obtain ⟨x,_,rfl⟩:=kS.1 hu;rfl
theorem load_ag {P:Program} {b:Nat} {t e:TypeId} {cs:List Value} (ha:agB P t=some true) (hb:h[b]? = some (.cells cs.toArray e (0,0))) (hs:szB P t=some cs.length):LoadIs P h t ⟨b,0,none⟩ (.agg cs.toArray):=load_agg cs ha hs (cells0 hb)
theorem load_1 {P:Program} {b:Nat} {t e:TypeId} {v:Value} {l:List Value} (ha:agB P t=some false) (hb:h[b]? = some (.cells (v::l).toArray e (0,0))):LoadIs P h t ⟨b,0,none⟩ v:=load_one ha (by rw [cell_of hb];simp)
end
open Go
theorem sl_at {α:Type} {f:α->List Value} {h:Heap} {k b o n c:Nat} (hf:∀x,(f x).length=k) {l:List α} (r:Sl h k (.slice (some ⟨b,o,none⟩) n c) (l.flatMap f)) {i j:Nat} (hi:i<l.length) {v:Value} (hv:(f l[i])[j]? = some v):cell h b (o+i*k+j)=some v:=by
 have hl:=r.cells.1;rw [flat_len hf] at hl;have hj:j<k:=by have:=(List.getElem?_eq_some_iff.1 hv).1;rwa [hf] at this
 have hn:0<n:=by
  rcases Nat.eq_zero_or_pos n with e | e
  ·subst e;have:0<l.length*k:=Nat.mul_pos (by omega) (by omega);omega
  ·exact e
 obtain ⟨b',o',e,hc⟩:=r.cells.pos hn;injection e with e;injection e with e1 e2;subst e1 e2;exact cell_at hf hc hi hv
theorem sl_ats {α:Type} {f:α->List Value} {h:Heap} {k b o n c:Nat} (hf:∀x,(f x).length=k) {l:List α} (r:Sl h k (.slice (some ⟨b,o,none⟩) n c) (l.flatMap f)) {i:Nat} (hi:i<l.length):∀j v,(f l[i])[j]? = some v->cell h b (o+i*k+j)=some v:=fun _ _ hv=>sl_at hf r hi hv
theorem Sl.pos {h:Heap} {k:Nat} {a:Option Addr} {n c:Nat} {xs:List Value} (r:Sl h k (.slice a n c) xs) (hn:0<n):∃b o,a=some ⟨b,o,none⟩/\blk (.slice a n c) b:=by
 obtain ⟨b,o,rfl,_⟩:=r.cells.pos hn;exact ⟨b,o,rfl,o,n,c,rfl,hn⟩
theorem Cap.pos {h:Heap} {k:Nat} {e:TypeId} {a:Option Addr} {n c:Nat} {xs:List Value} (r:Cap h k e (.slice a n c) xs) (hn:0<n):∃b o,a=some ⟨b,o,none⟩/\blkC (.slice a n c) b:=by
 obtain ⟨b,o,rfl,_⟩:=r.sl.pos hn;exact ⟨b,o,rfl,o,n,c,rfl⟩
theorem Sl.sz {α:Type} {f:α->List Value} {h:Heap} {k:Nat} {a:Option Addr} {n c:Nat} {l:List α} (r:Sl h k (.slice a n c) (l.flatMap f)) (hf:∀x,(f x).length=k) (hk:0<k):l.length=n/\n<=c/\c<=9223372036854775807:=by
 have hl:=r.cells.1;rw [flat_len hf] at hl;obtain ⟨a',n',c',hv,h1,h2,_⟩:=r;injection hv with e1 e2 e3;subst e1 e2 e3;exact ⟨kU hk hl,h1,h2⟩
theorem All2.inv {α β:Type} {R:α->β->Prop} {a:α} {b:β} {l:List α} {m:List β} (h:All2 R (a::l) (b::m)):R a b/\All2 R l m:=
 ⟨h.2 0 (by simp) (by simp),by have:=h.1;simpa using this,fun i h1 h2=>h.2 (i+1) (by simpa using h1) (by simpa using h2)⟩
theorem All2.take {α β:Type} {R:α->β->Prop} {l:List α} {m:List β} (h:All2 R l m) (k:Nat):All2 R (l.take k) (m.take k):=
 ⟨by simp [h.1],fun i h1 h2=>by simp at h1 h2;simp only [List.getElem_take];exact h.2 i _ _⟩
theorem wrap_nat {k:IntKind} (hk:k.signed=false) (n:Nat):k.wrap (n:Int)=((n%2 ^ k.bits:Nat):Int):=by
 unfold IntKind.wrap;simp [hk]
theorem wrap_lt {k:IntKind} (hk:k.signed=false) {n:Nat} (h:n<2 ^ k.bits):k.wrap (n:Int)=(n:Int):=by
 rw [wrap_nat hk,kD h]
theorem bv_nat (w n:Nat):BitVec.ofInt w (n:Int)=BitVec.ofNat w n:=by simp
theorem byte_lt (x:UInt8):x.toNat<256:=x.toNat_lt
namespace OpV
variable {P:Program} {s:Slots} {h:Heap} {d:Option Tmp} {ty:TypeId} {pos:String} {af:Array Edge} {g:Option (Nat × Bool)} {x y c:Operand} {t u:TypeId} {k:IntKind} {a b:Nat}
section
variable {M:Nat}
theorem bxor (hM:M=2 ^ k.bits) (hk:k.signed=false) (hx:ev s x=.int k (a:Nat):=by exact rfl) (hy:ev s y=.int k (b:Nat):=by exact rfl) (ha:a<M:=by first | omega | exact Nat.lt_trans (byte_lt _) (by decide)) (hb:b<M:=by first | omega | exact Nat.lt_trans (byte_lt _) (by decide)) :
  OpV P ⟨d,.binOp .xor t x y u,ty,pos,af,g⟩ s h (.int k ((a ^^^ b:Nat):Int)):=fun w _=>by
 subst hM;have h1:a ^^^ b<2 ^ k.bits:=Nat.xor_lt_two_pow ha hb;have h2:(BitVec.ofNat k.bits a ^^^ BitVec.ofNat k.bits b).toNat=a ^^^ b:=by simp [kD ha,kD hb]
 simp only [execOp,hx,hy,binOp,Op.intBits,bv_nat,h2,wrap_lt hk h1];simp [V.eqG]
theorem band (hM:M=2 ^ k.bits) (hk:k.signed=false) (hx:ev s x=.int k (a:Nat):=by exact rfl) (hy:ev s y=.int k (b:Nat):=by exact rfl) (ha:a<M:=by first | omega | exact Nat.lt_trans (byte_lt _) (by decide)) (hb:b<M:=by first | omega | exact Nat.lt_trans (byte_lt _) (by decide)) :
  OpV P ⟨d,.binOp .and t x y u,ty,pos,af,g⟩ s h (.int k ((a &&& b:Nat):Int)):=fun w _=>by
 subst hM;have h1:a &&& b<2 ^ k.bits:=Nat.and_lt_two_pow a hb;have h2:(BitVec.ofNat k.bits a &&& BitVec.ofNat k.bits b).toNat=a &&& b:=by simp [kD ha,kD hb]
 simp only [execOp,hx,hy,binOp,Op.intBits,bv_nat,h2,wrap_lt hk h1];simp [V.eqG]
theorem bor (hM:M=2 ^ k.bits) (hk:k.signed=false) (hx:ev s x=.int k (a:Nat):=by exact rfl) (hy:ev s y=.int k (b:Nat):=by exact rfl) (ha:a<M:=by first | omega | exact Nat.lt_trans (byte_lt _) (by decide)) (hb:b<M:=by first | omega | exact Nat.lt_trans (byte_lt _) (by decide)) :
  OpV P ⟨d,.binOp .or t x y u,ty,pos,af,g⟩ s h (.int k ((a ||| b:Nat):Int)):=fun w _=>by
 subst hM;have h1:a ||| b<2 ^ k.bits:=Nat.or_lt_two_pow ha hb
 have h2:(BitVec.ofNat k.bits a ||| BitVec.ofNat k.bits b).toNat=a ||| b:=by simp [kD ha,kD hb]
 simp only [execOp,hx,hy,binOp,Op.intBits,bv_nat,h2,wrap_lt hk h1];simp [V.eqG]
theorem bandI {z1 z2:Int} (a b:Nat) (hx:ev s x=.int .i64 z1:=by exact rfl) (hy:ev s y=.int .i64 z2:=by exact rfl) (hab:z1=a/\z2=b/\a<9223372036854775808/\b<9223372036854775808:=by omega) :
  OpV P ⟨d,.binOp .and t x y u,ty,pos,af,g⟩ s h (.int .i64 ((a &&& b:Nat):Int)):=fun w _=>by
 obtain ⟨rfl,rfl,ha,hb⟩:=hab;have h1:a &&& b<2 ^ 63:=Nat.and_lt_two_pow a hb;have h2:(BitVec.ofNat 64 a &&& BitVec.ofNat 64 b).toNat=a &&& b:=by simp [kD (show a<2 ^ 64 by omega),kD (show b<2 ^ 64 by omega)]
 have h3:IntKind.i64.wrap ((a &&& b:Nat):Int)=((a &&& b:Nat):Int):=IntWalk.i64_in _ (by omega);have h4:(BitVec.ofInt IntKind.i64.bits (a:Int) &&& BitVec.ofInt IntKind.i64.bits (b:Int)).toNat=a &&& b:=by rw [bv_nat,bv_nat];exact h2
 simp only [execOp,hx,hy,binOp,Op.intBits,h4,h3];simp [V.eqG]
theorem addn (hM:M=2 ^ k.bits) (hk:k.signed=false) (hx:ev s x=.int k (a:Nat):=by exact rfl) (hy:ev s y=.int k (b:Nat):=by exact rfl) :
  OpV P ⟨d,.binOp .add t x y u,ty,pos,af,g⟩ s h (.int k (((a+b)%M:Nat):Int)):=by
 subst hM;have:=V.add_w (P:=P) (h:=h) (d:=d) (ty:=ty) (pos:=pos) (af:=af) (g:=g) (t:=t) (u:=u) hx hy;rwa [<-Int.natCast_add,wrap_nat hk] at this
theorem muln (hM:M=2 ^ k.bits) (hk:k.signed=false) (hx:ev s x=.int k (a:Nat):=by exact rfl) (hy:ev s y=.int k (b:Nat):=by exact rfl) :
  OpV P ⟨d,.binOp .mul t x y u,ty,pos,af,g⟩ s h (.int k (((a*b)%M:Nat):Int)):=by
 subst hM;have:=V.mul_w (P:=P) (h:=h) (d:=d) (ty:=ty) (pos:=pos) (af:=af) (g:=g) (t:=t) (u:=u) hx hy;rwa [<-Int.natCast_mul,wrap_nat hk] at this
theorem shrn {ky:IntKind} (hM:M=2 ^ k.bits) (hx:ev s x=.int k (a:Nat):=by exact rfl) (hy:ev s y=.int ky (b:Nat):=by exact rfl) (ha:a<M:=by omega) :
  OpV P ⟨d,.binOp .shr t x y u,ty,pos,af,g⟩ s h (.int k ((a / 2 ^ b:Nat):Int)):=fun w _=>by
 subst hM;have h0:¬((b:Int)<0):=by omega
 have h1:(a:Int).fdiv (2 ^ min b k.bits)=((a / 2 ^ b:Nat):Int):=by
  have e:((2:Int) ^ min b k.bits)=((2 ^ min b k.bits:Nat):Int):=by simp
  rw [e,<-Int.ofNat_fdiv];congr 1;by_cases hb:b<=k.bits
  ·rw [Nat.min_eq_left hb]
  ·rw [Nat.min_eq_right (by omega),Nat.div_eq_of_lt ha,Nat.div_eq_of_lt (kP ha (Nat.pow_le_pow_right (by omega) (by omega)))]
 simp [execOp,hx,hy,V.eqG,binOp,Op.shift,h0,h1]
theorem shln {ky:IntKind} (hM:M=2 ^ k.bits) (hk:k.signed=false) (hx:ev s x=.int k (a:Nat):=by exact rfl) (hy:ev s y=.int ky (b:Nat):=by exact rfl) (hb:b<=k.bits:=by decide) :
  OpV P ⟨d,.binOp .shl t x y u,ty,pos,af,g⟩ s h (.int k ((a*2 ^ b%M:Nat):Int)):=fun w _=>by
 subst hM;have h0:¬((b:Int)<0):=by omega
 have h1:k.wrap ((a:Int)*2 ^ min b k.bits)=((a*2 ^ b%2 ^ k.bits:Nat):Int):=by
  rw [Nat.min_eq_left hb];have e:(a:Int)*2 ^ b=((a*2 ^ b:Nat):Int):=by simp
  rw [e,wrap_nat hk]
 simp [execOp,hx,hy,V.eqG,binOp,Op.shift,h0];simpa using h1
theorem remn (hx:ev s x=.int k (a:Nat):=by exact rfl) (hy:ev s y=.int k (b:Nat):=by exact rfl) (hb:1<=b:=by omega) :
  OpV P ⟨d,.binOp .rem t x y u,ty,pos,af,g⟩ s h (.int k ((a%b:Nat):Int)):=V.rem hx hy (by omega)
theorem cpl (hM:M=2 ^ k.bits) (hk:k.signed=false) (hx:ev s x=.int k (a:Nat):=by exact rfl) (ha:a<M:=by omega) :
  OpV P ⟨d,.unOp .xor t x,ty,pos,af,g⟩ s h (.int k ((M-1-a:Nat):Int)):=fun w _=>by
 subst hM;have h1:(BitVec.ofInt k.bits k.max ^^^ BitVec.ofInt k.bits (a:Int)).toNat=2 ^ k.bits-1-a:=by
  have e1:k.max=((2 ^ k.bits-1:Nat):Int):=by
   unfold IntKind.max;rw [Int.ofNat_sub (Nat.two_pow_pos _)];simp [hk]
  rw [e1,bv_nat,bv_nat];have e2:BitVec.ofNat k.bits (2 ^ k.bits-1)=BitVec.allOnes k.bits:=by
   apply BitVec.eq_of_toNat_eq;simp
  rw [e2,BitVec.allOnes_xor];simp [kD ha]
 have h2:2 ^ k.bits-1-a<2 ^ k.bits:=by have:=Nat.two_pow_pos k.bits;omega
 simp only [execOp,hx,Op.unary,hk,Op.intBits,Bool.false_eq_true,if_false];rw [h1,wrap_lt hk h2];rfl
end
theorem cvm {k':IntKind} {M:Nat} (hu:inB P u=some k') (ht:inB P t=some k) (hM:M=2 ^ k'.bits) (hk:k'.signed=false) (hx:ev s x=.int k (a:Nat):=by exact rfl) :
  OpV P ⟨d,.convert t u x,ty,pos,af,g⟩ s h (.int k' ((a%M:Nat):Int)):=by
 subst hM;exact V.convE hx hu ht (wrap_nat hk a)
theorem cvs {k':IntKind} {M:Nat} (hu:inB P u=some k') (ht:inB P t=some k) (hM:M=2 ^ k'.bits) (hk:k'.signed=false) (hx:ev s x=.int k (a:Nat):=by exact rfl) (ha:a<M:=by first | omega | exact Nat.lt_trans (byte_lt _) (by decide)) :
  OpV P ⟨d,.convert t u x,ty,pos,af,g⟩ s h (.int k' (a:Int)):=by
 subst hM;exact V.convE hx hu ht (wrap_lt hk ha)
theorem cvi (hu:inB P u=some .i64) (ht:inB P t=some k) (hx:ev s x=.int k (a:Nat):=by exact rfl) (ha:a<9223372036854775808:=by first | omega | exact Nat.lt_trans (byte_lt _) (by decide)) :
  OpV P ⟨d,.convert t u x,ty,pos,af,g⟩ s h (.int .i64 (a:Int)):=V.convE hx hu ht (IntWalk.i64_in _ (by omega))
theorem cvz {z:Int} (hu:inB P u=some .u64) (ht:inB P t=some .i64) (hx:ev s x=.int .i64 z:=by exact rfl) :
  OpV P ⟨d,.convert t u x,ty,pos,af,g⟩ s h (.int .u64 (((z%18446744073709551616).toNat:Nat):Int)):=V.convE hx hu ht (by
 have h0:(0:Int)<=z%18446744073709551616:=Int.emod_nonneg _ (by omega);rw [Int.toNat_of_nonneg h0];rfl)
theorem min2 {a b:Int} (hx:ev s x=.int .i64 a:=by exact rfl) (hy:ev s y=.int .i64 b:=by exact rfl):OpV P ⟨d,.call ⟨.builtin .min,#[x,y],#[t,u]⟩,ty,pos,af,g⟩ s h (.int .i64 (min a b)):=fun w _=>by
 have:min a b=if b<a then b else a:=by
  by_cases h:b<a
  ·rw [if_pos h];omega
  ·rw [if_neg h];omega
 rw [this];simp [execOp,resolve,invoke,builtin,hx,hy,Builtin.min_,Builtin.min2]
theorem max2 {a b:Int} (hx:ev s x=.int .i64 a:=by exact rfl) (hy:ev s y=.int .i64 b:=by exact rfl):OpV P ⟨d,.call ⟨.builtin .max,#[x,y],#[t,u]⟩,ty,pos,af,g⟩ s h (.int .i64 (max a b)):=fun w _=>by
 have:max a b=if b > a then b else a:=by
  by_cases h:b > a
  ·rw [if_pos h];omega
  ·rw [if_neg h];omega
 rw [this];simp [execOp,resolve,invoke,builtin,hx,hy,Builtin.max_,Builtin.max2]
end OpV
open Go
theorem OpA.mnz {P:Program} {s:Slots} {h0 h:Heap} {D:Nat->Prop} {M R:List Itm} {d:Option Tmp} {ty:TypeId} {pos:String} {af:Array Edge} {g:Option (Nat × Bool)} {x:Operand} {t e:TypeId} {ts ps:Array TypeId} {f:FuncId} {fn:Func} {z:Int} (n:Nat)
  (hf : P.funcs[f]? = some fn) (hb : fn.body = none) (hnm : ¬ fn.name = "runtime.NumGoroutine") (h1 : Extern.findNext fn = none) (h2 : Extern.find fn = some (Extern.BytealgMakeNoZero.makeNoZero ps #[t])) (ht : elB P t = some e) (ok : Hp h0 D M R h)
  (hx:ev s x=.int .i64 z:=by exact rfl) (hz:z=(n:Int)/\n<=140737488355328:=by omega) :
  OpA P ⟨d,.call ⟨.value (.func f),#[x],ts⟩,ty,pos,af,g⟩ s h (fun v h'=>∃b c cs,v=.slice (some ⟨b,0,none⟩) n c/\n<=c/\Hp h0 D (capI 1 e (some ⟨b,0,none⟩,n,c) cs::M) R h'/\Ext h h'):=fun E w at'=>by
 obtain ⟨rfl,hn⟩:=hz;obtain ⟨cs,hr,hc,hm⟩:=Lib.run_makeNoZero (P:=P) w ps t e (elB_iff ht) n (by omega);have hcm:=hm (by simp only [maxLen];omega);simp only [maxLen] at hcm;refine ⟨_,_,_,⟨h.size,cs.size,cs.toList.take n,rfl,hc,ok.newM (Ext.push _ (.cells cs e (0,0))) _ ?_ (fun j hj=>?_),Ext.push _ _⟩,(at'.drew.drew).alloc (.cells cs e (0,0)),?_⟩
 ·exact ⟨_,n,cs.size,rfl,hc,hcm,by simp [hc],.inr ⟨h.size,0,cs,(0,0),rfl,push_same _ _,by omega,fzOk_zero _,by simp⟩⟩
 ·obtain ⟨o,n',c',hv⟩:=hj;injection hv with h1;injection h1 with h1;injection h1 with h1;simp;omega
 ·simp [execOp,resolve,Deferred.ofValue,invoke,callFunc,hf,hnm,hb,h1,h2,hx];rw [hr];simp [at'.heap]
theorem run_storeAt {P:Program} {h:Heap} {k:Nat} {e:TypeId} {b o n c i:Nat} {xs vs:List Value} (r:Cap h k e (.slice (some ⟨b,o,none⟩) n c) xs) (hl:i+vs.length<=n*k) (h1:∀u∈vs,u.oneCell'=true) {E:Env} {w:World} (at':At E h w) :
  ∃h' w',Cap h' k e (.slice (some ⟨b,o,none⟩) n c) (spl xs i vs)/\Chg (fun x=>x=b) h h'/\At E h' w'/\(storeCells ⟨b,o+i,none⟩ vs).run P w=.ok () w':=by
 obtain ⟨a',n',c',hv,hn,hcm,hxl,hr⟩:=r;injection hv with g1 g2 g3;subst g1 g2 g3;rcases hr with ⟨hbad,_⟩ | ⟨b',o',cs,fz,hab,hb,hs,hf,hx⟩
 ·cases hbad
 injection hab with hab;injection hab with g1 g2;subst g1 g2;have hwb:w.heap[b]? = some (.cells cs e fz):=by rw [at'.heap];exact hb
 have hnk:n*k<=c*k:=qE _ hn;have hfit:o+i+vs.length<=cs.toList.length:=by simp;omega
 have hst:=run_storeCells_cells (P:=P) b (o+i) vs 0 w (fun j hj=>by rw [cell?_eq,cell_of hwb];simp;omega) (fun j hj=>frozen?_eq hwb hf (by omega)) h1;simp only [Nat.add_zero] at hst;rw [setCells_row b e fz vs (o+i) w cs hwb (by omega)] at hst;refine ⟨_,_,?_,hput_chg h b _,at'.setRow _ _,hst⟩;have hspl:i+vs.length<=xs.length:=by omega
 refine ⟨_,_,_,rfl,hn,hcm,by rw [spl_length hspl];exact hxl,.inr ⟨b,o,(spl cs.toList (o+i) vs).toArray,fz,rfl,hput_same hb,?_,?_,?_⟩⟩
 ·simp only [kF];rw [spl_length hfit];simpa using hs
 ·simp only [kF];rw [spl_length hfit];simpa using hf
 ·apply List.ext_getElem?;intro j;have hx':j<n*k->xs[j]? = cs.toList[o+j]?:=fun hj=>by rw [<-hx,List.getElem?_take,if_pos hj,List.getElem?_drop]
  rw [List.getElem?_take];split
  ·rename_i hj;rw [List.getElem?_drop];by_cases h2:j<i
   ·rw [spl_lt (by omega) hfit,spl_lt h2 hspl,hx' hj]
   ·by_cases h3:j<i+vs.length
    ·have e1:o+j=o+i+(j-i):=by omega
     have e2:spl xs i vs=spl xs i vs:=rfl;rw [e1,spl_mid (by omega) hfit];have:=spl_mid (cs:=xs) (vs:=vs) (o:=i) (j:=j-i) (by omega) hspl;rw [show i+(j-i)=j by omega] at this;rw [this]
    ·rw [spl_gt (by omega) hfit,spl_gt (by omega) hspl,hx' hj]
  ·rename_i hj;rw [List.getElem?_eq_none];rw [spl_length hspl];omega
theorem OpA.cpy {P:Program} {s:Slots} {h0 h:Heap} {D:Nat->Prop} {M R:List Itm} {d:Option Tmp} {ty:TypeId} {pos:String} {af:Array Edge} {g:Option (Nat × Bool)} {x y:Operand} {t t' e:TypeId} {b o n c k:Nat} {a':Option Addr} {m c':Nat} {xs ys:List Value} (i:Nat)
  (ht:elB P t=some e) (hk:szB P e=some k) (ok:Hp h0 D (capI k e (some ⟨b,o,none⟩,n,c) xs::M) R h) (hn:Sl h k (.slice a' m c') ys) (h1:∀u∈ys,u.oneCell'=true)
  (hx:ev s x=.slice (cutA (some ⟨b,o,none⟩) i c k) (n-i) (c-i)) (hy:ev s y=.slice a' m c':=by exact rfl) (him:i+m<=n:=by omega) :
  OpA P ⟨d,.call ⟨.builtin .copy,#[x,y],#[t,t']⟩,ty,pos,af,g⟩ s h (fun v h'=>v=.int .i64 (m:Int)/\Hp h0 D (capI k e (some ⟨b,o,none⟩,n,c) (spl xs (i*k) ys)::M) R h'/\Chg (fun j=>j=b) h h'):=fun E w at'=>by
 have hr0:=hn.cells;have hlim:i*k+ys.length<=n*k:=by rw [hr0.1,<-kV];exact qE _ him
 have hnc:n<=c:=Cap.le ok.m0;by_cases hic:c=i
 ·
  subst hic;have hm0:m=0:=by omega
  subst hm0;have hys:ys=[]:=qW (by simpa using hr0.1);subst hys;refine ⟨_,h,w,⟨rfl,?_,Chg.refl _ _⟩,at',?_⟩
  ·have:spl xs (c*k) []=xs:=by simp [spl]
   rw [this];exact ok
  ·have hf:(Builtin.firstCells k 0 (.slice a' 0 c')).run P w=.ok #[] w:=by cases a'<;>simp [Builtin.firstCells,loadCells,loadCellsFrom]
   have hc:cutA (some ⟨b,o,none⟩) c c k=some ⟨b,o,none⟩:=by unfold cutA;rw [if_pos rfl]
   rw [hc] at hx;simp [execOp,resolve,invoke,builtin,hx,hy,Builtin.copy_,run_und (elB_iff ht),Builtin.lenOf,run_szB hk,hf,goInt,storeCells]
 ·obtain ⟨h',w',hcap,hchg,at2,hr⟩:=run_storeAt (P:=P) ok.m0 hlim h1 at';refine ⟨_,h',w',⟨rfl,ok.upd hchg (fun j e=>by subst e;exact ⟨o,n,c,rfl⟩) _ hcap (fun _ x=>.inl x),hchg⟩,at2,?_⟩;rw [cutA_some hic] at hx;have hmin:Nat.min m (n-i)=m:=Nat.min_eq_left (by omega);have hf:(Builtin.firstCells k m (.slice a' m c')).run P w=.ok ys.toArray w:=by
   by_cases hm0:m=0
   ·subst hm0;have:ys=[]:=qW (by simpa using hr0.1);subst this;cases a'<;>simp [Builtin.firstCells,loadCells,loadCellsFrom]
   ·obtain ⟨b',o',rfl,hcell⟩:=hr0.2 (by omega);exact run_firstCells_some w k m ⟨b',o',none⟩ m c' ys hr0.1 (fun j v hj=>by rw [Addr.add_lit,cell?_eq,at'.heap];exact hcell j v hj)
  simp [execOp,resolve,invoke,builtin,hx,hy,Builtin.copy_,run_und (elB_iff ht),Builtin.lenOf,hmin,run_szB hk,hf,hr,goInt]
theorem OpA.cp0 {P:Program} {s:Slots} {h0 h:Heap} {D:Nat->Prop} {M R:List Itm} {d:Option Tmp} {ty:TypeId} {pos:String} {af:Array Edge} {g:Option (Nat × Bool)} {x y:Operand} {t t' e:TypeId} {b o n c k:Nat} {a':Option Addr} {m c':Nat} {xs ys:List Value}
  (ht:elB P t=some e) (hk:szB P e=some k) (ok:Hp h0 D (capI k e (some ⟨b,o,none⟩,n,c) xs::M) R h) (hn:Sl h k (.slice a' m c') ys) (h1:∀u∈ys,u.oneCell'=true)
  (hx:ev s x=.slice (some ⟨b,o,none⟩) n c:=by exact rfl) (hy:ev s y=.slice a' m c':=by exact rfl) (him:m<=n:=by omega) :
  OpA P ⟨d,.call ⟨.builtin .copy,#[x,y],#[t,t']⟩,ty,pos,af,g⟩ s h (fun v h'=>v=.int .i64 (m:Int)/\Hp h0 D (capI k e (some ⟨b,o,none⟩,n,c) (ys++xs.drop ys.length)::M) R h'/\Chg (fun j=>j=b) h h'):=
 OpA.mk (OpA.cpy (t':=t') 0 ht hk ok hn h1 (by rw [hx];unfold cutA;split<;>simp [Addr.add_zero']) hy (by omega)) fun v h' q=>by
  have e:spl xs (0*k) ys=ys++xs.drop ys.length:=by simp [spl]
  rw [e] at q;exact q
theorem OpA.mks {P:Program} {s:Slots} {h0 h:Heap} {D:Nat->Prop} {M R:List Itm} {d:Option Tmp} {ty:TypeId} {pos:String} {af:Array Edge} {g:Option (Nat × Bool)} {x y:Operand} {t e:TypeId} {k bytes:Nat} {z:Value} {z1 z2:Int} (n m:Nat)
  (ht:elB P t=some e) (hk:szB P e=some k) (hb:byB P e=some bytes) (hz:zrB P e=some z) (ok:Hp h0 D M R h)
  (hx:ev s x=.int .i64 z1:=by exact rfl) (hy:ev s y=.int .i64 z2:=by exact rfl) (hnm:z1=(n:Int)/\z2=(m:Int)/\n<=m/\m*bytes<=281474976710656/\m<=9223372036854775807:=by omega) :
  OpA P ⟨d,.makeSlice t x y,ty,pos,af,g⟩ s h (fun v h'=>∃b,v=.slice (some ⟨b,0,none⟩) n m/\Hp h0 D (capI k e (some ⟨b,0,none⟩,n,m) ((List.range (n*k)).map (z.cells[· % z.cells.size]!))::M) R h'/\Ext h h'):=fun E w at'=>by
 obtain ⟨rfl,rfl,h1,h2,h3⟩:=hnm;obtain ⟨w',at2,hr⟩:=V.makeSlice (P:=P) (s:=s) (h:=h) (d:=d) (ty:=ty) (pos:=pos) (af:=af) (g:=g) hx hy ht hk hb hz h1 h2 h3 E w at';have hnk:n*k<=m*k:=qE _ h1;refine ⟨_,_,w',⟨h.size,rfl,ok.newM (Ext.push _ _) _ ?_ (fun j hj=>?_),Ext.push _ _⟩,at2,hr⟩
 ·refine ⟨_,n,m,rfl,h1,h3,by simp,.inr ⟨h.size,0,_,(0,0),rfl,push_same _ _,by simp,fzOk_zero _,?_⟩⟩;apply List.ext_getElem?;intro j;rw [kY,List.getElem?_take];by_cases hj:j<n*k
  ·rw [if_pos hj];simp [hj,kP hj hnk]
  ·rw [if_neg hj];simp [hj]
 ·obtain ⟨o,n',c',hv⟩:=hj;injection hv with h1;injection h1 with h1;injection h1 with h1;simp;omega
theorem RdL.cut {α:Type} [Rep α] {h:Heap} {F E:Nat->Prop} {a:Option Addr} {n c:Nat} {l:List α} (r:RdL h F E (a,n,c) l) {i j:Nat} (hij:i<=j) (hj:j<=n):RdL h F E (cutA a i c (Rep.k α),j-i,c-i) ((l.drop i).take (j-i)):=by
 have hn:n=l.length:=r.n;have hnc:n<=c:=r.c;have hm:c<=9223372036854775807:=r.m;refine ⟨by simp;omega,by show j-i<=c-i;omega,by show c-i<=_;omega,fun hp=>?_⟩;have hp':0<j-i:=by simp at hp;omega
 obtain ⟨b,o,e,hb,hc⟩:=r.at' (by omega);simp only at e;subst e;refine ⟨b,o+i*Rep.k α,cutA_some (by omega),hb,fun q hq=>?_⟩;have hq':q<j-i:=by simp at hq;omega
 obtain ⟨cs,h1,h2⟩:=hc (i+q) (by omega);refine ⟨cs,by simpa using h1,fun w v hw=>?_⟩;have:=h2 w v hw;rwa [kV,<-Nat.add_assoc] at this
theorem zeros8 (n:Nat):(List.range (n*1)).map ((Value.int .u8 0).cells[· % (Value.int .u8 0).cells.size]!)=(List.replicate n (0:UInt8)).map bv:=by
 apply List.ext_getElem?;intro j;by_cases hj:j<n
 ·simp [hj,Value.cells,bv,Nat.mod_one]
 ·simp [hj]
theorem Cap.lenB {h:Heap} {e:TypeId} {a:Option Addr} {n c:Nat} {l:List UInt8} (r:Cap h 1 e (.slice a n c) (l.map bv)):n=l.length:=by
 have:=r.sl.cells.1;simpa using this.symm
theorem Own.formB {h h':Heap} {e:TypeId} {v:Value} {l:List UInt8} (o:Own h h' 1 e v (l.map bv)):∃a c,v=.slice a l.length c:=by
 obtain ⟨a,n,c,rfl⟩:=o.form3;exact ⟨a,c,by rw [o.cap.lenB]⟩
theorem Hp.lenB {h0 h:Heap} {D:Nat->Prop} {M R:List Itm} {e:TypeId} {a:Option Addr} {n c:Nat} {l:List UInt8} (ok:Hp h0 D (capI 1 e (a,n,c) (l.map bv)::M) R h):n=l.length:=Cap.lenB ok.m0
theorem RdL.pre {α:Type} [Rep α] {h:Heap} {F E:Nat->Prop} {a:Option Addr} {n c:Nat} {l l2:List α} (r:RdL h F E (a,n,c) l) (h2:l2 <+: l):RdL h F E (a,l2.length,c) l2:=by
 obtain ⟨m,rfl⟩:=h2;have hn:n=(l2++m).length:=r.n;have hc:n<=c:=r.c;rw [qA] at hn;refine ⟨rfl,by simp only;omega,r.m,fun hp=>?_⟩;obtain ⟨b,o,e,hb,hx⟩:=r.at' (by rw [qA];omega);refine ⟨b,o,e,hb,fun i hi=>?_⟩;have:=hx i (by rw [qA];omega);rwa [List.getElem_append_left hi] at this
section
variable {P:Program} {s:Slots} {h:Heap} {d:Option Tmp} {ty:TypeId} {pos:String} {af:Array Edge} {g:Option (Nat × Bool)} {x y:Operand} {t u:TypeId}
theorem OpV.addI {a b:Nat} (hx:ev s x=.int .i64 (a:Nat):=by exact rfl) (hy:ev s y=.int .i64 (b:Nat):=by exact rfl) (hr:a+b<=9223372036854775807:=by omega):OpV P ⟨d,.binOp .add t x y u,ty,pos,af,g⟩ s h (.int .i64 ((a+b:Nat):Int)):=by
 rw [Int.natCast_add];exact V.add hx hy (by omega)
theorem OpV.mulI {a b:Nat} (hx:ev s x=.int .i64 (a:Nat):=by exact rfl) (hy:ev s y=.int .i64 (b:Nat):=by exact rfl) (hr:a*b<=9223372036854775807:=by omega):OpV P ⟨d,.binOp .mul t x y u,ty,pos,af,g⟩ s h (.int .i64 ((a*b:Nat):Int)):=by
 rw [Int.natCast_mul];exact V.mul hx hy (by constructor<;>(have:=Int.natCast_mul a b;omega))
end
open Go
theorem Row.tk {h:Heap} {k:Nat} {a:Option Addr} {n m:Nat} {xs:List Value} (r:Row h k a n xs) (hm:m<=n):Row h k a m (xs.take (m*k)):=by
 have:=r.cut (l:=0) (q:=m) (m:=n+1) (by omega) (by omega);rwa [Nat.zero_mul,kY,show cutA a 0 (n+1) k=a from by unfold cutA;rw [if_neg (by omega)];cases a<;>simp [Addr.add_zero']] at this
section
variable {h0 h:Heap} {D:Nat->Prop} {M R:List Itm} {b k n:Nat} {t:TypeId} {cs:List Value}
variable {a c:Itm} {ys:List Value}
theorem Hp.bx (ok:Hp h0 D (boxI b t cs::M) R h) (q:cs=ys):Hp h0 D (boxI b t ys::M) R h:=q▸ok
end
def Rows (h:Heap):List SV->List (List UInt8)->Prop
 | [],[]=>True
 | x::xs,l::ls=>(∃F E,RdL h F E x l)/\Rows h xs ls
 | _,_=>False
@[reducible] def any_:Nat->Prop:=fun _=>True
theorem Rows.all {h:Heap} : ∀ {xs:List SV} {ls:List (List UInt8)},Rows h xs ls->All2 (Rep.rd h any_) (xs.map fun x=>[sv x]) ls
 | [],[],_=>⟨rfl,fun i hi=>by simp at hi⟩
 | x::xs,l::ls,⟨⟨F,E,r⟩,hr⟩=>by
  have ih:=Rows.all hr;refine ⟨by simpa using ih.1,fun i hi hj=>?_⟩;cases i with
  | zero=>exact ⟨x,rfl,r.mono (fun _ _=>trivial) (fun _ _=>trivial)⟩
  | succ i=>exact ih.2 i (by simpa using hi) (by simpa using hj)
 | [],_::_,h=>h.elim
 | _::_,[],h=>h.elim
theorem flat_sing (xs:List SV):(xs.map fun x=>[sv x]).flatten=xs.map sv:=by induction xs with
 | nil=>rfl
 | cons x xs ih=>simp [ih]
theorem RdL.rows {h:Heap} {e:TypeId} {v:SV} {xs:List SV} {ls:List (List UInt8)} (c:Cap h 1 e (sv v) (xs.map sv)) (r:Rows h xs ls):RdL h any_ any_ v ls:=
 (RdL.of_cap (css:=xs.map fun x=>[sv x]) (by rw [flat_sing];exact c) r.all).mono (fun _ _=>trivial) (fun _ h=>h)
theorem RdL.ofCapB {h:Heap} {e:TypeId} {v:SV} {l:List UInt8} (c:Cap h 1 e (sv v) (l.map bv)):RdL h any_ any_ v l:=(RdL.of_cap1 (f:=bv) rfl (fun _ _ _=>rfl) c).mono (fun _ _=>trivial) (fun _ h=>h)
open Go
structure Acc {α:Type} [Rep α] (h:Heap) (e:TypeId) (x8 x3:SV) (E:Nat->Prop) (all l:List α):Prop where
 cap:∃css,Cap h (Rep.k α) e (sv x8) css.flatten/\All2 (Rep.rd h E) css all
 l3:RdL h (blkC (sv x3)) E x3 l
 ord:∀b o n c o' n' c',x3=(some ⟨b,o,none⟩,n,c)->x8=(some ⟨b,o',none⟩,n',c')->0<n->o+n*Rep.k α<=o'+n'*Rep.k α
 apart:∀j,E j->¬blkC (sv x8) j
section
variable {α:Type} [Rep α] {h h' h0:Heap} {e:TypeId} {x8 x3:SV} {E D G:Nat->Prop} {all l:List α} {M R:List Itm} {b:Itm}
theorem Acc.st (c:Chg G h h') (d:∀j,(blkC (sv x8) j\/blkC (sv x3) j\/E j)->¬G j) (a:Acc h e x8 x3 E all l):Acc h' e x8 x3 E all l:=
 ⟨let ⟨css,h1,h2⟩:=a.cap;⟨css,h1.chg c (fun j hj=>d j (.inl hj)),h2.mono fun _ _ q=>Rep.st c (fun j hj=>d j (.inr (.inr hj))) q⟩,a.l3.st c (fun j hj=>d j (.inr (.inl hj))) (fun j hj=>d j (.inr (.inr hj))),a.ord,a.apart⟩
@[reducible] def accI (e:TypeId) (x8 x3:SV) (E:Nat->Prop) (all l:List α):Itm:=⟨fun h=>Acc h e x8 x3 E all l,fun j=>blkC (sv x8) j\/blkC (sv x3) j\/E j,fun _ _ _ c d a=>a.st c d⟩
theorem Acc.len (a:Acc h e x8 x3 E all l):x8.2.1=all.length:=by
 obtain ⟨css,h1,h2⟩:=a.cap;exact (RdL.of_cap h1 h2).n
theorem Acc.rd (a:Acc h e x8 x3 E all l):RdL h (blkC (sv x8)) E x8 all:=by
 obtain ⟨css,h1,h2⟩:=a.cap;exact RdL.of_cap h1 h2
theorem Hp.accNil (ok:Hp h0 D M R h) (e:TypeId) (α:Type) [Rep α]:Hp h0 D (accI e (none,0,0) (none,0,0) none_ ([]:List α) []::M) R h:=
 ok.newM (Ext.refl h) _ ⟨⟨[],Cap.nil _ _ _,All2.nil⟩,RdL.nil _ _ _,fun _ _ _ _ _ _ _ h=>(by cases h),fun _ f=>f.elim⟩ (fun j hj=>by
  rcases hj with ⟨o,n,c,e⟩ | ⟨o,n,c,e⟩ | f
  ·cases e
  ·cases e
  ·exact f.elim)
theorem RdL.clip (r:RdL h G E x8 l):RdL h G E (x8.1,x8.2.1,x8.2.1) l:=⟨r.n,qR _,kN r.c r.m,r.at'⟩
theorem Acc.app {e:TypeId} {ys:List Value} {cs:List Value} {v':Value} {css:List (List Value)} {a:α} {bF:Nat->Prop} (c0:Acc h e x8 x3 E all l) (h2:All2 (Rep.rd h E) css all) (hr:Rep.rd h bF cs a) (hb:∀j,bF j->¬blkC (sv x8) j) (hbs:∀j,bF j->j<h.size) (hes:∀j,E j->j<h.size)
  (q:Appended h (Rep.k α) e (sv x8) ys v' h') (hy:ys=css.flatten++cs):∃x',v'=sv x'/\Acc h' e x' x3 (fun j=>E j\/bF j) (all++[a]) l:=by
 obtain ⟨x',hx'⟩:=q.cap.form;subst hx';have hk:=Rep.kpos (α:=α);refine ⟨x',rfl,⟨css++[cs],?_,?_⟩,?_,?_,?_⟩
 ·have:=q.cap;rw [hy] at this;simpa using this
 ·exact All2.append (h2.mono fun _ _ r=>Rep.mono (fun _ h=>.inl h) (Rep.st q.chg c0.apart r)) (All2.cons (Rep.mono (fun _ h=>.inr h) (Rep.st q.chg hb hr)) All2.nil)
 ·refine ⟨c0.l3.n,c0.l3.c,c0.l3.m,fun hp=>?_⟩;obtain ⟨b,o,e1,hbb,hc⟩:=c0.l3.at' hp;refine ⟨b,o,e1,hbb,fun i hi=>?_⟩;obtain ⟨cs1,r1,hcell⟩:=hc i hi;refine ⟨cs1,Rep.mono (fun _ h=>.inl h) (Rep.st q.chg c0.apart r1),fun j v hj=>q.kept b _ v (hcell j v hj) fun o8 n8 c8 hv=>?_⟩;have hjk:j<Rep.k α:=by have:=(List.getElem?_eq_some_iff.1 hj).1;rwa [Rep.len r1] at this
  have hn3:=c0.l3.n;have h9:=c0.ord b o x3.2.1 x3.2.2 o8 n8 c8 (by rw [<-e1]) (by
   obtain ⟨x8a,x8n,x8c⟩:=x8;injection hv with g1 g2 g3;simp only at g1 g2 g3;rw [g1,g2,g3]) (by omega)
  have h10:(i+1)*Rep.k α<=x3.2.1*Rep.k α:=qE _ (by omega);rw [kV] at h10;omega
 ·intro b o n c o' n' c' e1 e2 hn;have hbl:b<h.size:=by
   have hl:0<l.length:=by have:=c0.l3.n;rw [e1] at this;simp only at this;omega
   obtain ⟨b1,o1,e3,_,hc⟩:=c0.l3.at' hl;rw [e1] at e3;injection e3 with e3;injection e3 with e3 e4;subst e3 e4;obtain ⟨cs1,r1,hcell⟩:=hc 0 hl;have hl1:=Rep.len r1;exact cell_lt (hcell 0 (cs1[0]'(by omega)) (by simp))
  obtain ⟨a8,n8,c8⟩:=x8;have hl2:ys.length=(n8+1)*Rep.k α:=by
   rw [hy,qA,flatten_len (k:=Rep.k α) (fun c hc=>by
    obtain ⟨i,hi,rfl⟩:=qO.1 hc;exact Rep.len (h2.2 i hi (by have:=h2.1;omega))),Rep.len hr,kV,Nat.one_mul]
   have h3:=c0.len;have h4:=h2.1;simp only at h3;rw [h3,h4]
  rcases Nat.lt_or_ge c8 (n8+1) with hlt | hge
  ·have:=q.grown a8 n8 c8 (n8+1) rfl hl2 hlt b ⟨o',n',c',by rw [e2]⟩;omega
  ·have h5:=q.inplace a8 n8 c8 (n8+1) rfl hl2 hge;rw [e2] at h5;injection h5 with g1 g2 g3;simp only at g1 g2 g3;have h6:=c0.ord b o n c o' n8 c8 e1 (by rw [<-g1]) hn;have h7:n8*Rep.k α<=n'*Rep.k α:=qE _ (by omega);omega
 ·intro j hj hbj;have hjs:j<h.size:=hj.elim (hes j) (hbs j);rcases q.place j hbj with h3 | h3
  ·exact hj.elim (fun h=>c0.apart j h h3) (fun h=>hb j h h3)
  ·omega
end
theorem OpA.appA {α:Type} [Rep α] {P:Program} {s:Slots} {h0 h:Heap} {D:Nat->Prop} {M R:List Itm} {d:Option Tmp} {ty:TypeId} {pos:String} {af:Array Edge} {g:Option (Nat × Bool)} {x y:Operand} {t e:TypeId} {k bytes:Nat} {z:Value} {a8:Option Addr} {n8 c8:Nat} {x3:SV} {E:Nat->Prop} {all l:List α} {b:Itm} {nv:Value} {cs:List Value} (a:α)
  (ht:elB P t=some e) (hk:szB P e=some (k+1)) (hby:byB P e=some (bytes+1)) (hz:zrB P e=some z) (ok:Hp h0 D (accI e (a8,n8,c8) x3 E all l::b::M) R h) (hn:Sl h (k+1) nv cs) (hr:Rep.rd h b.F cs a)
  (hfit:(all.length+1)*(k+1)*(bytes+1)<=140737488355328) (hx:ev s x=.slice a8 n8 c8:=by exact rfl) (hy:ev s y=nv:=by exact rfl) (hzk:z.cells.size=k+1:=by exact rfl) (hka:Rep.k α=k+1:=by exact rfl) :
  OpA P ⟨d,.call ⟨.builtin .append,#[x,y],#[t,t]⟩,ty,pos,af,g⟩ s h (fun v' h'=>∃a' n' m',v'=.slice a' n' m'/\Hp h0 D (accI e (a',n',m') x3 (fun j=>E j\/b.F j) (all++[a]) l::M) R h'):=by
 have c0:Acc h e (a8,n8,c8) x3 E all l:=ok.m0;obtain ⟨css,h1,h2⟩:=c0.cap;have hmm:=kK.1 ok.mm;have hbf:∀j,b.F j->j<h.size:=fun j hj=>((ok.m b (by simp)).2 j hj).1;have hef:∀j,E j->j<h.size:=fun j hj=>((ok.m _ qX).2 j (.inr (.inr hj))).1;have hbx:∀j,b.F j->¬blkC (sv (a8,n8,c8)) j:=fun j hj h3=>hmm.1 b qX j (.inl h3) hj;have hlen:css.flatten.length=all.length*(k+1):=by
  rw [flatten_len (k:=Rep.k α) (fun c hc=>by
    obtain ⟨i,hi,rfl⟩:=qO.1 hc;exact Rep.len (h2.2 i hi (by have:=h2.1;omega))),h2.1,hka]
 have hcl:cs.length=k+1:=by rw [Rep.len hr,hka]
 rw [hka] at h1;refine OpA.mk (V.append hx hy ht hk hby hz hzk h1 hn (Rep.one hr) (by rw [hlen,hcl];rw [kV,Nat.one_mul] at hfit;exact hfit)) fun v' h' q=>?_;have q':Appended h (Rep.k α) e (sv (a8,n8,c8)) (css.flatten++cs) v' h':=by rw [hka];exact q
 obtain ⟨x',rfl,hacc⟩:=Acc.app c0 h2 hr hbx hbf hef q' rfl;refine ⟨x'.1,x'.2.1,x'.2.2,rfl,?_⟩;have ok2:=ok.fuse ⟨fun _=>True,fun j=>(blkC (sv (a8,n8,c8)) j\/blkC (sv x3) j\/E j)\/b.F j,fun _ _ _ _ _ _=>trivial⟩ trivial (fun j hj=>hj);refine ok2.upd q.chg (fun j hj=>.inl (.inl hj)) _ hacc (fun j hj=>?_);rcases hj with h3 | h3 | h3 | h3
 ·rcases q.place j h3 with h4 | h4
  ·exact .inl (.inl (.inl h4))
  ·exact .inr ⟨h4,q.cap.lt h3⟩
 ·exact .inl (.inl (.inr (.inl h3)))
 ·exact .inl (.inl (.inr (.inr h3)))
 ·exact .inl (.inr h3)
theorem All2.len_flat {α:Type} [Rep α] {h:Heap} {E:Nat->Prop} {css:List (List Value)} {l:List α} (r:All2 (Rep.rd h E) css l):css.flatten.length=l.length*Rep.k α:=by
 rw [flatten_len (k:=Rep.k α) (fun c hc=>by
  obtain ⟨i,hi,rfl⟩:=qO.1 hc;exact Rep.len (r.2 i hi (by have:=r.1;omega))),r.1]
theorem All2.one {α:Type} [Rep α] {h:Heap} {E:Nat->Prop} {css:List (List Value)} {l:List α} (r:All2 (Rep.rd h E) css l):∀u∈css.flatten,u.oneCell'=true:=fun u hu=>by
 obtain ⟨cs,hcs,hu⟩:=List.mem_flatten.1 hu;obtain ⟨i,hi,rfl⟩:=qO.1 hcs;exact Rep.one (r.2 i hi (by have:=r.1;omega)) u hu
open Go
def Pln (h:Heap) (v:Value):Prop:=∀b,blkC v b->∃cs e,h[b]? = some (.cells cs e (0,0))
@[reducible] def plI (k:Nat) (e:TypeId) (x:SV) (xs:List Value):Itm:=⟨fun h=>Cap h k e (sv x) xs/\Pln h (sv x),blkC (sv x),fun _ _ _ c d hp=>⟨hp.1.chg c d,fun b hb=>let ⟨cs,e,q⟩:=hp.2 b hb;⟨cs,e,c.block q (d b hb)⟩⟩⟩
section
variable {h0 h:Heap} {D:Nat->Prop} {M R:List Itm} {k n c m i:Nat} {e:TypeId} {a:Option Addr} {xs ys:List Value}
theorem Hp.plC (ok:Hp h0 D (plI k e (a,n,c) xs::M) R h):Hp h0 D (capI k e (a,n,c) xs::M) R h:=ok.re _ ok.m0.1 fun _ x=>x
theorem Hp.plNil (ok:Hp h0 D M R h) (k:Nat) (e:TypeId):Hp h0 D (plI k e (none,0,0) []::M) R h:=
 (ok.nilC (k:=k) (e:=e)).re _ ⟨.nil _ _ _,fun _ ⟨_,_,_,e⟩=>by cases e⟩ fun _ x=>x
theorem Hp.upR (ok:Hp h0 D (capI k e (a,n,c) xs::M) R h) (h1:n<=m) (h2:m<=c):∃ys,ys.length=(m-n)*k/\Hp h0 D (capI k e (a,m,c) (xs++ys)::M) R h:=by
 have c0:Cap h k e (.slice a n c) xs:=ok.m0;obtain ⟨a',n',c',hv,hn,hcm,hl,hr⟩:=c0;injection hv with e1 e2 e3;subst e1 e2 e3;have hsub:(m-n)*k+n*k=m*k:=by rw [<-kV];congr 1;omega
 rcases hr with ⟨rfl,rfl⟩ | ⟨b,o,cs,fz,rfl,hb,hs,hf,hx⟩
 ·obtain rfl:m=0:=by omega
  obtain rfl:n=0:=by omega
  exact ⟨[],by simp,by rw [kX];exact ok⟩
 ·have hmc:m*k<=c*k:=qE _ h2;have hsz:cs.toList.length=cs.size:=Array.length_toList;have hA:((m-n)*k)=m*k-n*k:=by rw [<-hsub];exact (Nat.add_sub_cancel ..).symm
  have hnm:n*k<=m*k:=qE _ h1;generalize (m-n)*k=A at hA⊢;have hys:(((cs.toList.drop o).drop (n*k)).take A).length=A:=by rw [qJ,qH,qH,hsz];omega
  have hxl:xs.length=n*k:=hl;refine ⟨((cs.toList.drop o).drop (n*k)).take A,hys,ok.re _ ⟨_,_,_,rfl,h2,hcm,by show _=m*k;rw [qA,hys,hxl];omega,.inr ⟨b,o,cs,fz,rfl,hb,hs,hf,?_⟩⟩ fun j ⟨o',n',c',e'⟩=>by injection e' with e1 e2 e3;exact ⟨o',n,c,by rw [<-e1]⟩⟩;rw [<-hx,<-List.take_add,show n*k+A=m*k by omega]
theorem Hp.dnR (ok:Hp h0 D (capI k e (a,n,c) xs::M) R h) (h1:m<=n):Hp h0 D (capI k e (a,m,c) (xs.take (m*k))::M) R h:=
 ok.re _ (ok.m0.pre h1) fun j ⟨o',n',c',e'⟩=>by injection e' with e1 e2 e3;exact ⟨o',n,c,by rw [<-e1]⟩
end
theorem Cap.cutS {h:Heap} {k n c i:Nat} {e:TypeId} {a:Option Addr} {xs:List Value} (r:Cap h k e (.slice a n c) xs) (hi:i<=n):Sl h k (.slice (cutA a i c k) (n-i) (c-i)) (xs.drop (i*k)):=by
 have h1:=r.le;have h2:=r.bd;have h3:=r.sl.cells.cut (l:=i) (q:=n-i) (m:=c) (by omega) h1;have h4:=r.sl.cells.1;rw [qY (by rw [qH,h4,<-Nat.sub_mul];exact qR _)] at h3;exact ⟨_,_,_,rfl,by omega,by omega,h3⟩
theorem Cap.at0 {h:Heap} {k n c b o j:Nat} {e:TypeId} {xs:List Value} (r:Cap h k e (.slice (some ⟨b,o,none⟩) n c) xs) (hk:0<k) (hj:j<n):∃cs fz,h[b]? = some (.cells cs e fz)/\o+j*k<cs.size/\fzOk fz cs.size:=by
 obtain ⟨a',n',c',hv,hn,hcm,hl,hr⟩:=r;injection hv with e1 e2 e3;subst e1 e2 e3;rcases hr with ⟨hbad,_⟩ | ⟨b',o',cs,fz,hab,hb,hs,hf,hx⟩
 ·cases hbad
 ·injection hab with hab;injection hab with h1 h2;subst h1 h2;have h3:(j+1)*k<=c*k:=qE _ (by omega);rw [Nat.succ_mul] at h3;exact ⟨cs,fz,hb,by omega,hf⟩
section
variable {xs ys zs:List Value} {i n m k:Nat} (hxl:xs.length=n*k) (hym:ys.length=m*k) (hi:i<=n)
include hxl hi
theorem ins_cut:((xs++zs).drop (i*k)).take ((n-i)*k)=xs.drop (i*k):=by
 have h1:i*k<=n*k:=qE _ hi;rw [List.drop_append_of_le_length (by omega),kG (by rw [qH,hxl,<-Nat.sub_mul];exact qR _),qY (by rw [qH,hxl,<-Nat.sub_mul];exact qR _)]
include hym
theorem ins_end (h:i=n):xs++ys=xs.take (i*k)++ys++xs.drop (i*k):=by
 rw [h,<-hxl,List.take_length,List.drop_length,kX]
theorem ins_grow (hz:zs.length=(n+m-i)*k):spl (spl (xs.take (i*k)++zs) (i*k) (ys.take (m*k))) ((i+m)*k) ((xs.drop (i*k)).take ((n-i)*k))=xs.take (i*k)++ys++xs.drop (i*k):=by
 have h1:i*k<=n*k:=qE _ hi;have h2:(n+m-i)*k=(n-i)*k+m*k:=by rw [<-kV];congr 1;omega
 have h3:(n-i)*k=n*k-i*k:=Nat.sub_mul ..;rw [qY (show ys.length<=m*k by omega),qY (show (xs.drop (i*k)).length<=(n-i)*k by rw [qH];omega),kV];generalize i*k=I at *;generalize m*k=J at *;have e1:spl (xs.take I++zs) I ys=(xs.take I++ys)++zs.drop J:=by
  unfold spl;rw [kG (by rw [qJ];omega),List.take_take,Nat.min_self,List.drop_append,qN (by rw [qJ];omega),kI,qJ,show I+ys.length-min I xs.length=J by omega]
 rw [e1];unfold spl;rw [kG (by rw [qA,qJ];omega),qY (by rw [qA,qJ];omega),@List.drop_eq_nil_of_le _ (xs.take I++ys++zs.drop J) _ (by simp only [qA,qJ,qH];omega),kX]
theorem ins_shift (hz:zs.length=m*k):spl (spl (xs++zs) ((i+m)*k) (((xs++zs).drop (i*k)).take ((n-i)*k))) (i*k) (ys.take (m*k))=xs.take (i*k)++ys++xs.drop (i*k):=by
 rw [ins_cut hxl hi];have h1:i*k<=n*k:=qE _ hi;rw [qY (show ys.length<=m*k by omega),kV];generalize i*k=I at *;generalize m*k=J at *;have e1:spl (xs++zs) (I+J) (xs.drop I)=(xs++zs).take (I+J)++xs.drop I:=by
  unfold spl;rw [@List.drop_eq_nil_of_le _ (xs++zs) _ (by simp only [qA,qH];omega),kX]
 rw [e1];unfold spl;rw [kG (by rw [qJ,qA];omega),List.take_take,show min I (I+J)=I by omega,kG (by omega),hym,List.drop_append,qN (by rw [qJ];omega),kI,qJ,qA,show I+J-min (I+J) (xs.length+zs.length)=0 by omega,kY]
end
section
variable {xs ys zs:List Value} {i j n m:Nat} (hxl:xs.length=n) (hym:ys.length=m) (hij:i<=j) (hjn:j<=n)
theorem rep_one {u:Value} (hx:∀u∈xs,u.oneCell'=true) (hy:∀u∈ys,u.oneCell'=true) (h:u∈spl xs (i*1) (ys.take (m*1))):u.oneCell'=true:=by
 unfold spl at h;rcases qD.1 h with h | h
 ·rcases qD.1 h with h | h
  ·exact hx u (qC h)
  ·exact hy u (qC h)
 ·exact hx u (kQ h)
include hxl in
theorem rep_pre {h:Heap} {e:TypeId} {a:Option Addr} {c:Nat} (r:Cap h 1 e (.slice a m c) (xs++zs)) (hnm:n<=m):Cap h 1 e (.slice a n c) xs:=by
 have:=r.pre hnm;rwa [Nat.mul_one,List.take_left' hxl] at this
include hxl hym hij hjn
theorem rep_grow (hz:zs.length=i+m+(n-j)-i):spl (spl (xs.take (i*1)++zs) (i*1) (ys.take (m*1))) ((i+m)*1) ((xs.drop (j*1)).take ((n-j)*1))=xs.take i++ys++xs.drop j:=by
 simp only [Nat.mul_one];rw [qY (show ys.length<=m by omega),qY (show (xs.drop j).length<=n-j by rw [qH];omega)];have e1:spl (xs.take i++zs) i ys=(xs.take i++ys)++zs.drop m:=by
  unfold spl;rw [kG (by rw [qJ];omega),List.take_take,Nat.min_self,List.drop_append,qN (by rw [qJ];omega),kI,qJ,show i+ys.length-min i xs.length=m by omega]
 rw [e1];unfold spl;rw [kG (by rw [qA,qJ];omega),qY (by rw [qA,qJ];omega),@List.drop_eq_nil_of_le _ (xs.take i++ys++zs.drop m) _ (by simp only [qA,qJ,qH];omega),kX]
theorem rep_in (h:i+m<=j):spl (spl xs (i*1) (ys.take (m*1))) ((i+m)*1) (((spl xs (i*1) (ys.take (m*1))).drop (j*1)).take ((n-j)*1))=(xs.take i++ys++xs.drop j)++xs.drop (i+m+(n-j)):=by
 simp only [Nat.mul_one];rw [qY (show ys.length<=m by omega)];have e1:spl xs i ys=(xs.take i++ys)++xs.drop (i+m):=by unfold spl;rw [hym]
 have hl:(xs.take i++ys).length=i+m:=by rw [qA,qJ];omega
 have e2:((spl xs i ys).drop j).take (n-j)=xs.drop j:=by
  rw [e1,List.drop_append,qN (by omega),kI,hl,List.drop_drop,show i+m+(j-(i+m))=j by omega,qY (by rw [qH];omega)]
 rw [e2,e1];unfold spl;rw [kG (by omega),qY (by omega),@List.drop_append _ (xs.take i++ys),@List.drop_eq_nil_of_le _ (xs.take i++ys) _ (by omega),kI,hl,List.drop_drop,qH,show i+m+(i+m+(xs.length-j)-(i+m))=i+m+(n-j) by omega]
theorem rep_cut:((xs.take i++ys++xs.drop j)++xs.drop (i+m+(n-j))).take ((i+m+(n-j))*1)=xs.take i++ys++xs.drop j:=by
 rw [Nat.mul_one];exact List.take_left' (by simp only [qA,qJ,qH];omega)
theorem rep_shift (hz:zs.length=i+m+(n-j)-n) (h:j<i+m):spl (spl (xs++zs) ((i+m)*1) ((xs.drop (j*1)).take ((n-j)*1))) (i*1) (ys.take (m*1))=xs.take i++ys++xs.drop j:=by
 simp only [Nat.mul_one];rw [qY (show (xs.drop j).length<=n-j by rw [qH];omega),qY (show ys.length<=m by omega)];have e1:spl (xs++zs) (i+m) (xs.drop j)=(xs++zs).take (i+m)++xs.drop j:=by
  unfold spl;rw [@List.drop_eq_nil_of_le _ (xs++zs) _ (by simp only [qA,qH];omega),kX]
 rw [e1];unfold spl;rw [kG (by rw [qJ,qA];omega),List.take_take,show min i (i+m)=i by omega,kG (by omega),hym,List.drop_append,qN (by rw [qJ];omega),kI,qJ,qA,show i+m-min (i+m) (xs.length+zs.length)=0 by omega,kY]
end
theorem OpA.cpG {P:Program} {s:Slots} {h0 h:Heap} {D:Nat->Prop} {M R:List Itm} {d:Option Tmp} {ty:TypeId} {pos:String} {af:Array Edge} {g:Option (Nat × Bool)} {x y:Operand} {t t' e:TypeId} {b o n c k q:Nat} {a':Option Addr} {m m0 c':Nat} {xs ys:List Value} (i:Nat)
  (ht:elB P t=some e) (hk:szB P e=some k) (ok:Hp h0 D (capI k e (some ⟨b,o,none⟩,n,c) xs::M) R h) (hn:Sl h k (.slice a' m0 c') ys) (h1:∀u∈ys.take (m*k),u.oneCell'=true)
  (hx:ev s x=.slice (cutA (some ⟨b,o,none⟩) i c k) q (c-i)) (hy:ev s y=.slice a' m0 c':=by exact rfl) (hm:min m0 q=m:=by omega) (hi:i+q<=n:=by omega) :
  OpA P ⟨d,.call ⟨.builtin .copy,#[x,y],#[t,t']⟩,ty,pos,af,g⟩ s h (fun v h'=>v=.int .i64 (m:Int)/\Hp h0 D (capI k e (some ⟨b,o,none⟩,n,c) (spl xs (i*k) (ys.take (m*k)))::M) R h'/\Chg (fun j=>j=b) h h'):=fun E w at'=>by
 have hr0:Row h k a' m (ys.take (m*k)):=hn.cells.tk (by omega);obtain ⟨zs,hzs⟩:∃zs,zs=ys.take (m*k):=⟨_,rfl⟩;rw [<-hzs] at hr0 h1⊢;have hlim:i*k+zs.length<=n*k:=by rw [hr0.1,<-kV];exact qE _ (by omega)
 obtain ⟨h',w',hcap,hchg,at2,hr⟩:=run_storeAt (P:=P) ok.m0 hlim h1 at';have hmin:Nat.min m0 q=m:=hm;by_cases hm0:m=0
 ·subst hm0;have hz0:zs=[]:=qW (by simpa using hr0.1);subst hz0;have hs0:spl xs (i*k) []=xs:=by simp [spl]
  rw [hs0];refine ⟨_,h,w,⟨rfl,ok,.refl _ _⟩,at',?_⟩;have hf:(Builtin.firstCells k 0 (.slice a' m0 c')).run P w=.ok #[] w:=by
   cases a'<;>simp [Builtin.firstCells,loadCells,loadCellsFrom]
  generalize cutA (some ⟨b,o,none⟩) i c k=A at hx;cases A with
  | none=>simp [execOp,resolve,invoke,builtin,hx,hy,Builtin.copy_,run_und (elB_iff ht),Builtin.lenOf,hmin,run_szB hk,hf,goInt]
  | some A=>simp [execOp,resolve,invoke,builtin,hx,hy,Builtin.copy_,run_und (elB_iff ht),Builtin.lenOf,hmin,run_szB hk,hf,goInt,storeCells]
 ·refine ⟨_,h',w',⟨rfl,ok.upd hchg (fun j e=>by subst e;exact ⟨o,n,c,rfl⟩) _ hcap (fun _ x=>.inl x),hchg⟩,at2,?_⟩;have hf:(Builtin.firstCells k m (.slice a' m0 c')).run P w=.ok zs.toArray w:=by
   obtain ⟨b',o',rfl,hcell⟩:=hr0.2 (by omega);exact run_firstCells_some w k m ⟨b',o',none⟩ m0 c' zs hr0.1 (fun j v hj=>by rw [Addr.add_lit,cell?_eq,at'.heap];exact hcell j v hj)
  have hnc:n<=c:=Cap.le ok.m0;rw [cutA_some (by omega)] at hx;simp [execOp,resolve,invoke,builtin,hx,hy,Builtin.copy_,run_und (elB_iff ht),Builtin.lenOf,hmin,run_szB hk,hf,hr,goInt]
theorem OpA.clrU {P:Program} {s:Slots} {h0 h:Heap} {D:Nat->Prop} {M R:List Itm} {d:Option Tmp} {ty:TypeId} {pos:String} {af:Array Edge} {g:Option (Nat × Bool)} {x:Operand} {t e:TypeId} {a:Option Addr} {n c k q:Nat} {z:Value} {xs:List Value} (i:Nat)
  (ht:elB P t=some e) (hz:zrB P e=some z) (ok:Hp h0 D (capI k e (a,n,c) xs::M) R h) (hx:ev s x=.slice (cutA a i c k) q (c-i)) (hzk:z.cells.size=k:=by exact rfl) (hz1:z.cells.toList.all (fun v=>v.oneCell')=true:=by exact rfl) (hni:n<=i:=by omega) (hic:i+q<=c:=by omega) :
  OpA P ⟨d,.call ⟨.builtin .clear,#[x],#[t]⟩,ty,pos,af,g⟩ s h (fun v h'=>v=.tuple #[]/\Hp h0 D (capI k e (a,n,c) xs::M) R h'):=fun E w at'=>by
 by_cases hq:q=0
 ·subst hq;refine ⟨.tuple #[],h,w,⟨rfl,ok⟩,at',?_⟩;have:∀(ao:Option Addr) (m:Nat),(Builtin.clear_ #[t] ty #[Value.slice ao 0 m]).run P w=Result.ok (.tuple #[]) w:=fun ao m=>by
   cases ao<;>simp [Builtin.clear_,run_und (elB_iff ht)]
  simp [execOp,resolve,invoke,builtin,hx,this]
 ·obtain ⟨q,rfl⟩:∃r,q=r+1:=⟨q-1,by omega⟩;have hcap:Cap h k e (.slice a n c) xs:=ok.m0;obtain ⟨zs,hc⟩:=hcap.sub (l:=i) (q:=q+1) (by omega) (by omega);have hzl:(Builtin.zeroCells z.cells (q+1)).toList.length=(q+1)*k:=by rw [<-hzk];simp [Builtin.zeroCells]
  have hone:∀u∈(Builtin.zeroCells z.cells (q+1)).toList,u.oneCell'=true:=fun u hu=>by
   have:u∈z.cells:=by
    simp [Builtin.zeroCells] at hu;obtain ⟨i,hi,rfl⟩:=hu;have h0:0<z.cells.size:=Nat.pos_of_ne_zero fun e=>by rw [e] at hi;omega
    rw [getElem!_pos z.cells _ (Nat.mod_lt i h0)];exact Array.getElem_mem _
   exact List.all_eq_true.1 hz1 u (by simpa using this)
  obtain ⟨a1,n1,c1,hv,hnc,_,hl,hr⟩:=id hcap;injection hv with e1 e2 e3;subst e1 e2 e3;rcases hr with ⟨rfl,rfl⟩ | ⟨b,o,cs,fz,rfl,_⟩
  ·omega
  ·rw [cutA_some (by omega)] at hx hc;obtain ⟨h',w',hst,at2,hr⟩:=run_storeSl (P:=P) hc (vs:=(Builtin.zeroCells z.cells (q+1)).toList) (by rw [hzl];exact qR _) hone at';refine ⟨.tuple #[],h',w',⟨rfl,ok.upd hst.chg (fun j ⟨o',n',c',e'⟩=>by injection e' with e1;injection e1 with e1;injection e1 with e1 e2;subst e1;exact ⟨o,n,c,rfl⟩) _ (hcap.re hst.shape ?_) (fun _ x=>.inl x)⟩,at2,?_⟩
   ·intro b' o' j v hbo hj hv;injection hbo with hbo;injection hbo with h1 h2;subst h1 h2;refine hst.kept _ _ _ hv fun o' n' c' e'=>.inl ?_;injection e' with e1;injection e1 with e1;injection e1 with e1 e2;subst e2;have:n*k<=i*k:=qE _ hni;omega
   ·simp [execOp,resolve,invoke,builtin,hx,Builtin.clear_,run_und (elB_iff ht),run_zrB hz,hr]
theorem OpA.apm {P:Program} {s:Slots} {h0 h:Heap} {D:Nat->Prop} {M R:List Itm} {d:Option Tmp} {ty:TypeId} {pos:String} {af:Array Edge} {g:Option (Nat × Bool)} {x y:Operand} {t tn e:TypeId} {kn kq:IntKind} {k bytes:Nat} {z:Value} {a:Option Addr} {n c q:Nat} {mz:Int} {xs:List Value} (m:Nat)
  (ht:elB P t=some e) (htn:inB P tn=some kn) (hk:szB P e=some (k+1)) (hby:byB P e=some (bytes+1)) (hz:zrB P e=some z) (ok:Hp h0 D (capI (k+1) e (a,n,c) xs::M) R h) (hx:ev s x=.slice a q c) (hy:ev s y=.int kq mz) (hmz:mz=m) (hq:q<=n) (hm0:0<m) (hg:c<q+m) (hfit:(q+m)*(bytes+1)<=140737488355328) (hzk:z.cells.size=k+1:=by exact rfl) :
  OpA P ⟨d,.call ⟨.builtin .append,#[x,y],#[t,tn]⟩,ty,pos,af,g⟩ s h (fun v' h'=>∃b' c' zs,v'=.slice (some ⟨b',0,none⟩) (q+m) c'/\zs.length=m*(k+1)/\Hp h0 D (capI (k+1) e (some ⟨b',0,none⟩,q+m,c') (xs.take (q*(k+1))++zs)::capI (k+1) e (a,n,c) xs::M) R h'):=fun E w at'=>by
 obtain ⟨i,hi,hik⟩:=szB_iff hk;have hib:i.bytes=bytes+1:=by
  obtain ⟨i',hi',e'⟩:=byB_iff hby;rw [hi] at hi';injection hi' with hi';subst hi';exact e'
 have hiz:i.zero=some z:=by
  obtain ⟨i',hi',e'⟩:=zrB_iff hz;rw [hi] at hi';injection hi' with hi';subst hi';exact e'
 subst hmz;have hut:=elB_iff ht;have hutn:=inB_iff htn;have hcp:Cap h (k+1) e (.slice a q c) (xs.take (q*(k+1))):=Cap.pre ok.m0 hq;have hr0:=hcp.sl.cells;have hbb:(q+m)*1<=(q+m)*(bytes+1):=Nat.mul_le_mul_left _ (by omega);have hmb:m*(bytes+1)<=(q+m)*(bytes+1):=qE _ (by omega);have hold:(Builtin.firstCells i.size q (.slice a q c)).run P w.drew=.ok (xs.take (q*(k+1))).toArray w.drew:=by
  by_cases hq0:q=0
  ·subst hq0;rw [Nat.zero_mul,kM];cases a<;>simp [Builtin.firstCells,loadCells,loadCellsFrom]
  ·obtain ⟨b',o',rfl,hcell⟩:=hr0.2 (by omega);exact run_firstCells_some w.drew i.size q ⟨b',o',none⟩ q c (xs.take (q*(k+1))) (by rw [hr0.1,hik]) (fun j v hj=>by rw [Addr.add_lit,cell?_eq,show w.drew.heap=w.heap from rfl,at'.heap];exact hcell j v hj)
 have hrun:=Lib.run_append_grow_zeros (P:=P) w t tn ty e i z kq kn hut hutn hi hiz a q c _ hold m hm0 (by omega) hg (by omega) (by rw [hib];omega) (growslice_fits (by omega) (by rw [hib];omega));have hge:=grownCap_ge w (q+m) c e;have hcm:=grownCap_le_maxLen w (q+m) c e (by simp only [maxLen];omega);simp only [maxLen] at hcm;rw [at'.heap] at hrun;have hsz:(Builtin.zeroCells z.cells m).size=m*(k+1):=by rw [size_zeroCells,hzk]
 generalize grownCap w (q+m) c e=G at hrun hge hcm;obtain ⟨CS,hCS⟩:∃CS,CS=(xs.take (q*(k+1))).toArray++Builtin.zeroCells z.cells m++Builtin.zeroCells z.cells (G-(q+m)):=⟨_,rfl⟩;rw [<-hCS] at hrun;refine ⟨.slice (some ⟨h.size,0,none⟩) (q+m) G,h.push (.cells CS e (0,0)),_,⟨h.size,G,(Builtin.zeroCells z.cells m).toList,rfl,by rw [Array.length_toList,hsz],ok.newM (Ext.push _ _) _ ⟨_,q+m,_,rfl,hge,hcm,?_,.inr ⟨h.size,0,CS,(0,0),rfl,push_same _ _,?_,fzOk_zero _,?_⟩⟩ fun j ⟨o',n',c',e'⟩=>?_⟩,(at'.drew).alloc _,by simp [execOp,resolve,invoke,builtin,hx,hy,hrun]⟩
 ·show _=(q+m)*(k+1);rw [qA,hr0.1,Array.length_toList,hsz,kV]
 ·have h1:(xs.take (q*(k+1))).length=q*(k+1):=hr0.1;simp only [hCS,Array.size_append,kF,size_zeroCells,hzk,h1,<-kV];rw [Nat.zero_add];apply Nat.le_of_eq;congr 1;show G=_;omega
 ·have h1:(xs.take (q*(k+1))).length=q*(k+1):=hr0.1;simp only [hCS,kY,Array.toList_append];have:(q+m)*(k+1)=(xs.take (q*(k+1))++(Builtin.zeroCells z.cells m).toList).length:=by rw [qA,h1,Array.length_toList,hsz,kV]
  show List.take ((q+m)*(k+1)) _=_;rw [this];exact List.take_left
 ·injection e' with e1;injection e1 with e1;injection e1 with e1;simp;omega
theorem OpA.appG {P:Program} {s:Slots} {h0 h:Heap} {D:Nat->Prop} {M R:List Itm} {d:Option Tmp} {ty:TypeId} {pos:String} {af:Array Edge} {g:Option (Nat × Bool)} {x y:Operand} {t e:TypeId} {k bytes:Nat} {z nv:Value} {a:Option Addr} {n c q:Nat} {xs news:List Value} (m:Nat)
  (ht:elB P t=some e) (hk:szB P e=some (k+1)) (hby:byB P e=some (bytes+1)) (hz:zrB P e=some z) (ok:Hp h0 D (capI (k+1) e (a,n,c) xs::M) R h) (hq:q<=n)
  (hn:Sl h (k+1) nv news) (h1:∀u∈news,u.oneCell'=true) (hm:news.length=m*(k+1)) (hb1:bytes+1<=1000) (hb2:(q+m)*(k+1)<=140000000000) (hx:ev s x=.slice a q c) (hy:ev s y=nv) (hzk:z.cells.size=k+1:=by exact rfl) :
  OpA P ⟨d,.call ⟨.builtin .append,#[x,y],#[t,t]⟩,ty,pos,af,g⟩ s h (fun v' h'=>∃a' c',v'=.slice a' (q+m) c'/\(q+m<=c->a=a'/\c=c')/\Hp h0 D (capI (k+1) e (a',q+m,c') (xs.take (q*(k+1))++news)::M) R h'):=by
 have hcp:Cap h (k+1) e (.slice a q c) (xs.take (q*(k+1))):=Cap.pre ok.m0 hq;have hl:(xs.take (q*(k+1))++news).length=(q+m)*(k+1):=by rw [qA,hcp.sl.cells.1,hm,kV]
 have hfit:((xs.take (q*(k+1))).length+news.length)*(bytes+1)<=140737488355328:=by
  rw [<-qA,hl];exact kN (Nat.mul_le_mul hb2 hb1) (by decide)
 refine OpA.mk (V.append hx hy ht hk hby hz hzk hcp hn h1 hfit) fun v' h' p=>?_;obtain ⟨a',n',c',rfl,_⟩:=id p.cap;obtain rfl:n'=q+m:=by
  have h2:=p.cap.sl.cells.1;rw [hl] at h2;exact (kU (by omega) h2).symm
 refine ⟨a',c',rfl,fun h=>?_,ok.upd p.chg (fun j ⟨o',n1,c1,e'⟩=>by injection e' with e1;exact ⟨o',n,c,by rw [<-e1]⟩) _ p.cap fun j hj=>(p.place j hj).elim (fun ⟨o',n1,c1,e'⟩=>.inl (by injection e' with e1;exact ⟨o',n,c,by rw [<-e1]⟩)) fun h=>.inr ⟨h,p.cap.lt hj⟩⟩;have:=p.inplace a q c (q+m) rfl hl h;injection this with e1 e2 e3;exact ⟨e1.symm,e3.symm⟩
theorem Hp.ownR {h0 h:Heap} {D:Nat->Prop} {M R:List Itm} {a:Itm} (ok:Hp h0 D (a::M) R h):∀j,a.F j->D j\/h0.size<=j:=fun j hj=>((ok.m a qX).2 j hj).2
theorem Cap.i64R {h:Heap} {e:TypeId} {l:List Int} {b o n c:Nat} (r:Cap h 1 e (.slice (some ⟨b,o,none⟩) n c) (l.map iv)) {i:Nat} (hi:i<l.length):cell h b (o+i)=some (.int .i64 l[i]):=by
 obtain ⟨b',o',he,hc⟩:=r.sl.cells.pos (by have:=r.sl.cells.1;simp at this;omega);injection he with he;injection he with e1 e2;subst e1 e2;exact hc i _ (map_at hi)
theorem OpA.alF {P:Program} {s:Slots} {h0 h:Heap} {D:Nat->Prop} {M R:List Itm} {d:Option Tmp} {ty t:TypeId} {pos:String} {af:Array Edge} {g:Option (Nat × Bool)} (hz:zrB P t=some .nilFunc) (ok:Hp h0 D M R h):OpA P ⟨d,.alloc t,ty,pos,af,g⟩ s h (Bx h h0 D t [.nilFunc] M R):=OpE.bx (V.alloc hz rfl) ok
theorem Hp.thawR {h0 h:Heap} {D:Nat->Prop} {M:List Itm} {a:Itm} (ok:Hp h0 D M [a] h) (ha:∀j,a.F j->D j\/h0.size<=j):Hp h0 D (a::M) [] h:=
 ⟨ok.chg,fun i hi=>by
  rcases qK.1 hi with rfl | hi
  ·have:=ok.r _ qX;exact ⟨this.1,fun j hj=>⟨this.2 j hj,ha j hj⟩⟩
  ·exact ok.m i hi,by simp,kK.2 ⟨fun b hb j hj hb2=>ok.mr b hb a qX j hb2 hj,ok.mm⟩,by simp⟩
theorem OpA.appP {P:Program} {s:Slots} {h0 h:Heap} {D:Nat->Prop} {M R:List Itm} {d:Option Tmp} {ty:TypeId} {pos:String} {af:Array Edge} {g:Option (Nat × Bool)} {x y:Operand} {t e:TypeId} {k bytes:Nat} {z nv:Value} {a:Option Addr} {n c:Nat} {xs news:List Value} (m:Nat)
  (ht:elB P t=some e) (hk:szB P e=some (k+1)) (hby:byB P e=some (bytes+1)) (hz:zrB P e=some z) (ok:Hp h0 D (plI (k+1) e (a,n,c) xs::M) R h)
  (hn:Sl h (k+1) nv news) (h1:∀u∈news,u.oneCell'=true) (hm:news.length=m*(k+1)) (hb1:bytes+1<=1000) (hb2:(n+m)*(k+1)<=140000000000) (hx:ev s x=.slice a n c) (hy:ev s y=nv) (hzk:z.cells.size=k+1:=by exact rfl) :
  OpA P ⟨d,.call ⟨.builtin .append,#[x,y],#[t,t]⟩,ty,pos,af,g⟩ s h (fun v' h'=>∃a' c',v'=.slice a' (n+m) c'/\Hp h0 D (plI (k+1) e (a',n+m,c') (xs++news)::M) R h'):=by
 have hcp:Cap h (k+1) e (.slice a n c) xs:=ok.m0.1;have hpl:Pln h (.slice a n c):=ok.m0.2;have hl:(xs++news).length=(n+m)*(k+1):=by rw [qA,hcp.sl.cells.1,hm,kV]
 have hfit:(xs.length+news.length)*(bytes+1)<=140737488355328:=by
  rw [<-qA,hl];exact kN (Nat.mul_le_mul hb2 hb1) (by decide)
 refine OpA.mk (V.append hx hy ht hk hby hz hzk hcp hn h1 hfit) fun v' h' p=>?_;obtain ⟨a',n',c',rfl,_⟩:=id p.cap;obtain rfl:n'=n+m:=by
  have h2:=p.cap.sl.cells.1;rw [hl] at h2;exact (kU (by omega) h2).symm
 refine ⟨a',c',rfl,ok.upd p.chg (fun _ x=>x) _ ⟨p.cap,fun b hb=>?_⟩ fun j hj=>(p.place j hj).imp id fun h=>⟨h,p.cap.lt hj⟩⟩;rcases p.fz0 b hb with h2 | ⟨cs,h2⟩
 ·obtain ⟨cs,e',h3⟩:=hpl b h2;obtain ⟨cs',h4,_⟩:=p.shape b cs e' _ h3;exact ⟨cs',e',h4⟩
 ·exact ⟨cs,e,h2⟩
theorem Hp.locM2 {h0 h:Heap} {D:Nat->Prop} {M R:List Itm} {a b:Itm} (ok:Hp h0 D (a::b::M) R h):Hp h a.F [a] [b] h:=
 ⟨Chg.refl _ _,fun i hi=>by rw [qS] at hi;subst hi;exact ⟨ok.m0,fun j hj=>⟨((ok.m _ qX).2 j hj).1,.inl hj⟩⟩,fun i hi=>by rw [qS] at hi;subst hi;have:=ok.m i (by simp);exact ⟨this.1,fun j hj=>(this.2 j hj).1⟩,List.pairwise_singleton _ _,fun x hx y hy j h1 h2=>by
  rw [qS] at hx hy;subst hx hy;exact (kK.1 ok.mm).1 _ qX j h1 h2⟩
theorem run_ovl {P:Program} (w:World) (tS tR e:TypeId) (ht:P.underlying tS=some (.slice e)) (size:Nat) (hz:∀w,(Go.sizeOf e).run P w=.ok size w)
  (a b:Addr) (la ca lb cb:Nat) (hne:a.block≠b.block) (tA tB:TypeId) (kA kB:Nat)
  (hsa:w.shape? a.block=some (tA,kA)) (hsb:w.shape? b.block=some (tB,kB)) (hkA:kA≠0) (hkB:kB≠0)
  (hfa:w.frozen? a=false) (hfb:w.frozen? b=false) (hfe:w.frozen? { block:=a.block,off:=kA } = false\/w.frozen? { block:=b.block,off:=kB } = false) :
  (Extern.SlicesOverlaps.overlaps #[tS,tS] #[tR] #[.slice (some a) la ca,.slice (some b) lb cb]).run P w=.ok (.bool false) w:=by
 have hnb:(a.block != b.block)=true:=by simpa using hne
 have hnb':(a.block == b.block)=false:=by simpa using hne
 change Sem.run P (α:=Value) (do
  let some t := (#[tS, tS] : Array TypeId)[0]? | stuck "slices.overlaps: no parameter types"
  let .slice elem <- underlying t | stuck "slices.overlaps: slice type expected"
  let size <-sizeOf elem
  match (some a:Option Addr),(some b:Option Addr) with
  | some a,some b=>
   if la=0\/lb=0\/size=0 then pure (Value.bool false)
   else if a.block != b.block && (<-frozen a) && (<-frozen b) then unsupported .addressObserved
   else do
    if a.block != b.block then do
     noView a;noView b
     if <- mayBeOne a b then return Value.bool ((<- choose (.extern "sameAddr.stringBytes" 2)) == 1)
    pure (Value.bool (a.block == b.block && a.off<b.off+lb*size && b.off<a.off+la*size))
  | _,_=>pure (Value.bool false)) w=_
 by_cases h0:la=0\/lb=0\/size=0
 ·simp [run_underlying ht,hz,h0]
 ·cases kB with
  | zero=>exact absurd rfl hkB
  | succ kB=>cases kA with
   | zero=>exact absurd rfl hkA
   | succ kA=>
    rcases hfe with hfe | hfe
    ·simp [run_underlying ht,hz,h0,hnb,hnb',frozen,noView,viewAt,mayBeOne,stringish,shape,Sem.run,hsa,hsb,hfa,hfe]
    ·cases hq:w.frozen? { block:=a.block,off:=kA+1 }<;>simp [run_underlying ht,hz,h0,hnb,hnb',frozen,noView,viewAt,mayBeOne,stringish,shape,Sem.run,hsa,hsb,hfa,hfb,hfe,hq]
theorem OpA.ovl {P:Program} {s:Slots} {h0 h:Heap} {D:Nat->Prop} {M R:List Itm} {d:Option Tmp} {ty:TypeId} {pos:String} {af:Array Edge} {g:Option (Nat × Bool)} {x y:Operand} {tS tR e eA eB:TypeId} {ts:Array TypeId} {f:FuncId} {fn:Func} {k ba oa la ca bb ob lb cb:Nat} {csA csB:Array Value} {fzA fzB:Nat × Nat}
  (hf : P.funcs[f]? = some fn) (hb : fn.body = none) (hnm : ¬ fn.name = "runtime.NumGoroutine") (h1 : Extern.findNext fn = none) (h2 : Extern.find fn = some (Extern.SlicesOverlaps.overlaps #[tS, tS] #[tR])) (ht : elB P tS = some e) (hk : szB P e = some k) (ok : Hp h0 D M R h)
  (hA:h[ba]? = some (.cells csA eA fzA)) (hoa:oa<csA.size) (hfa:fzOk fzA csA.size) (hB:h[bb]? = some (.cells csB eB fzB)) (hob:ob<csB.size) (hfb:fzOk fzB csB.size) (hp:fzA=(0,0)\/fzB=(0,0)) (hne:ba≠bb)
  {A1 A:Option Addr} (hx:ev s x=.slice A1 la ca) (hxA:A1=some ⟨ba,oa,none⟩) (hy:ev s y=.slice A lb cb) (hyA:A=some ⟨bb,ob,none⟩) :
  OpA P ⟨d,.call ⟨.value (.func f),#[x,y],ts⟩,ty,pos,af,g⟩ s h (fun v h'=>v=.bool false/\Hp h0 D M R h'):=fun E w at'=>by
 subst hxA hyA;have hwA:w.heap[ba]? = some (.cells csA eA fzA):=by rw [at'.heap];exact hA
 have hwB:w.heap[bb]? = some (.cells csB eB fzB):=by rw [at'.heap];exact hB
 have hr:=run_ovl (P:=P) w tS tR e (elB_iff ht) k (fun w=>run_szB hk w) ⟨ba,oa,none⟩ ⟨bb,ob,none⟩ la ca lb cb hne eA eB csA.size csB.size (by simp [World.shape?,hwA]) (by simp [World.shape?,hwB]) (by omega) (by omega) (frozen?_eq hwA hfa hoa) (frozen?_eq hwB hfb hob) (by
  rcases hp with rfl | rfl
  ·left;simp [World.frozen?,hwA]
  ·right;simp [World.frozen?,hwB])
 refine ⟨_,h,w,⟨rfl,ok⟩,at',?_⟩;simp [execOp,resolve,Deferred.ofValue,invoke,callFunc,hf,hnm,hb,h1,h2,hx,hy,hr]
end Go.HL
namespace Go.Proofs.YtfegfklipbnhjaaGreat
open Go Go.HL
theorem mixed:Tryz.prog.follows .mixedOrders=true:=by kernel_rfl
namespace T
theorem ag1:agB Tryz.prog 1=some false:=by kernel_rfl
theorem ag2:agB Tryz.prog 2=some false:=by kernel_rfl
theorem sz2:szB Tryz.prog 2=some 1:=by kernel_rfl
theorem by2:byB Tryz.prog 2=some 8:=by kernel_rfl
theorem zr2:zrB Tryz.prog 2=some (.int .i64 0):=by kernel_rfl
theorem in2:inB Tryz.prog 2=some .i64:=by kernel_rfl
theorem ag3:agB Tryz.prog 3=some false:=by kernel_rfl
theorem sz3:szB Tryz.prog 3=some 1:=by kernel_rfl
theorem by3:byB Tryz.prog 3=some 8:=by kernel_rfl
theorem zr3:zrB Tryz.prog 3=some (.int .i64 0):=by kernel_rfl
theorem in3:inB Tryz.prog 3=some .i64:=by kernel_rfl
theorem ag4:agB Tryz.prog 4=some false:=by kernel_rfl
theorem sz4:szB Tryz.prog 4=some 1:=by kernel_rfl
theorem zr4:zrB Tryz.prog 4=some (.bool false):=by kernel_rfl
theorem bo4:boB Tryz.prog 4=true:=by kernel_rfl
theorem ag5:agB Tryz.prog 5=some false:=by kernel_rfl
theorem sz5:szB Tryz.prog 5=some 1:=by kernel_rfl
theorem by5:byB Tryz.prog 5=some 1:=by kernel_rfl
theorem zr5:zrB Tryz.prog 5=some (.int .u8 0):=by kernel_rfl
theorem in5:inB Tryz.prog 5=some .u8:=by kernel_rfl
theorem st9:stB Tryz.prog 9=true:=by kernel_rfl
theorem el22:elB Tryz.prog 22=some 54:=by kernel_rfl
theorem ag24:agB Tryz.prog 24=some false:=by kernel_rfl
theorem pt24:ptB Tryz.prog 24=some 136:=by kernel_rfl
theorem el28:elB Tryz.prog 28=some 37:=by kernel_rfl
theorem ag35:agB Tryz.prog 35=some false:=by kernel_rfl
theorem sz35:szB Tryz.prog 35=some 1:=by kernel_rfl
theorem by35:byB Tryz.prog 35=some 24:=by kernel_rfl
theorem zr35:zrB Tryz.prog 35=some (.slice none 0 0):=by kernel_rfl
theorem el35:elB Tryz.prog 35=some 5:=by kernel_rfl
theorem ag37:agB Tryz.prog 37=some true:=by kernel_rfl
theorem sz37:szB Tryz.prog 37=some 2:=by kernel_rfl
theorem by37:byB Tryz.prog 37=some 32:=by kernel_rfl
theorem zr37:zrB Tryz.prog 37=some (.agg #[(.int .i64 0),(.slice none 0 0)]):=by kernel_rfl
theorem pl37:V.plB Tryz.prog 37=some [(0,1),(1,1)]:=by kernel_rfl
theorem fd37_0:fdB Tryz.prog 37 0=some (0,2,0+1):=by kernel_rfl
theorem ag39:agB Tryz.prog 39=some false:=by kernel_rfl
theorem sz39:szB Tryz.prog 39=some 1:=by kernel_rfl
theorem zr39:zrB Tryz.prog 39=some (.int .i64 0):=by kernel_rfl
theorem pt44:ptB Tryz.prog 44=some 124:=by kernel_rfl
theorem sz54:szB Tryz.prog 54=some 4:=by kernel_rfl
theorem fd54_0:fdB Tryz.prog 54 0=some (0,3,0+1):=by kernel_rfl
theorem fd54_1:fdB Tryz.prog 54 1=some (1,2,0+1):=by kernel_rfl
theorem fd54_2:fdB Tryz.prog 54 2=some (2,3,0+1):=by kernel_rfl
theorem fd54_3:fdB Tryz.prog 54 3=some (3,5,0+1):=by kernel_rfl
theorem ag79:agB Tryz.prog 79=some false:=by kernel_rfl
theorem sz79:szB Tryz.prog 79=some 1:=by kernel_rfl
theorem el79:elB Tryz.prog 79=some 35:=by kernel_rfl
theorem ag93:agB Tryz.prog 93=some false:=by kernel_rfl
theorem sz93:szB Tryz.prog 93=some 1:=by kernel_rfl
theorem zr93:zrB Tryz.prog 93=some (.slice none 0 0):=by kernel_rfl
theorem el93:elB Tryz.prog 93=some 3:=by kernel_rfl
theorem ag97:agB Tryz.prog 97=some true:=by kernel_rfl
theorem sz97:szB Tryz.prog 97=some 6:=by kernel_rfl
theorem zr97:zrB Tryz.prog 97=some (.agg #[(.int .i64 0),(.int .i64 0),(.int .i64 0),(.int .i64 0),(.int .i64 0),(.int .i64 0)]):=by kernel_rfl
theorem pl97:V.plB Tryz.prog 97=some [(0,1),(1,1),(2,1),(3,1),(4,1),(5,1)]:=by kernel_rfl
theorem fd97_0:fdB Tryz.prog 97 0=some (0,3,0+1):=by kernel_rfl
theorem fd97_1:fdB Tryz.prog 97 1=some (1,3,0+1):=by kernel_rfl
theorem fd97_2:fdB Tryz.prog 97 2=some (2,3,0+1):=by kernel_rfl
theorem fd97_3:fdB Tryz.prog 97 3=some (3,3,0+1):=by kernel_rfl
theorem fd97_4:fdB Tryz.prog 97 4=some (4,3,0+1):=by kernel_rfl
theorem fd97_5:fdB Tryz.prog 97 5=some (5,3,0+1):=by kernel_rfl
theorem ag102:agB Tryz.prog 102=some false:=by kernel_rfl
theorem pt102:ptB Tryz.prog 102=some 175:=by kernel_rfl
theorem zr105:zrB Tryz.prog 105=some (.agg #[(.int .i64 0),(.bool false),(.int .i64 0)]):=by kernel_rfl
theorem pl105:V.plB Tryz.prog 105=some [(0,1),(1,1),(2,1)]:=by kernel_rfl
theorem fd105_0:fdB Tryz.prog 105 0=some (0,3,0+1):=by kernel_rfl
theorem fd105_1:fdB Tryz.prog 105 1=some (1,4,0+1):=by kernel_rfl
theorem fd105_2:fdB Tryz.prog 105 2=some (2,3,0+1):=by kernel_rfl
theorem ag113:agB Tryz.prog 113=some true:=by kernel_rfl
theorem sz113:szB Tryz.prog 113=some 5:=by kernel_rfl
theorem by113:byB Tryz.prog 113=some 56:=by kernel_rfl
theorem zr113:zrB Tryz.prog 113=some (.agg #[(.int .i64 0),(.int .i64 0),(.int .i64 0),(.slice none 0 0),(.int .i64 0)]):=by kernel_rfl
theorem pl113:V.plB Tryz.prog 113=some [(0,1),(1,1),(2,1),(3,1),(4,1)]:=by kernel_rfl
theorem fd113_0:fdB Tryz.prog 113 0=some (0,2,0+1):=by kernel_rfl
theorem fd113_1:fdB Tryz.prog 113 1=some (1,3,0+1):=by kernel_rfl
theorem fd113_2:fdB Tryz.prog 113 2=some (2,3,0+1):=by kernel_rfl
theorem fd113_3:fdB Tryz.prog 113 3=some (3,35,0+1):=by kernel_rfl
theorem fd113_4:fdB Tryz.prog 113 4=some (4,3,0+1):=by kernel_rfl
theorem ag114:agB Tryz.prog 114=some false:=by kernel_rfl
theorem sz114:szB Tryz.prog 114=some 1:=by kernel_rfl
theorem el114:elB Tryz.prog 114=some 113:=by kernel_rfl
theorem ag116:agB Tryz.prog 116=some true:=by kernel_rfl
theorem sz116:szB Tryz.prog 116=some 3:=by kernel_rfl
theorem by116:byB Tryz.prog 116=some 40:=by kernel_rfl
theorem zr116:zrB Tryz.prog 116=some (.agg #[(.int .i64 0),(.slice none 0 0),(.int .i64 0)]):=by kernel_rfl
theorem pl116:V.plB Tryz.prog 116=some [(0,1),(1,1),(2,1)]:=by kernel_rfl
theorem fd116_0:fdB Tryz.prog 116 0=some (0,3,0+1):=by kernel_rfl
theorem fd116_1:fdB Tryz.prog 116 1=some (1,114,0+1):=by kernel_rfl
theorem fd116_2:fdB Tryz.prog 116 2=some (2,3,0+1):=by kernel_rfl
theorem zr124:zrB Tryz.prog 124=some (.agg #[(.pointer none),(.int .i64 0),(.bool false),(.int .i64 0)]):=by kernel_rfl
theorem pl124:V.plB Tryz.prog 124=some [(0,1),(1,1),(2,1),(3,1)]:=by kernel_rfl
theorem fd124_0:fdB Tryz.prog 124 0=some (0,24,0+1):=by kernel_rfl
theorem fd124_1:fdB Tryz.prog 124 1=some (1,3,0+1):=by kernel_rfl
theorem fd124_2:fdB Tryz.prog 124 2=some (2,4,0+1):=by kernel_rfl
theorem fd124_3:fdB Tryz.prog 124 3=some (3,2,0+1):=by kernel_rfl
theorem ag128:agB Tryz.prog 128=some false:=by kernel_rfl
theorem mp128:mpB Tryz.prog 128=some (3,35):=by kernel_rfl
theorem sz130:szB Tryz.prog 130=some 2:=by kernel_rfl
theorem zr130:zrB Tryz.prog 130=some (.agg #[(.int .i64 0),(.map none)]):=by kernel_rfl
theorem pl130:V.plB Tryz.prog 130=some [(0,1),(1,1)]:=by kernel_rfl
theorem fd130_0:fdB Tryz.prog 130 0=some (0,3,0+1):=by kernel_rfl
theorem fd130_1:fdB Tryz.prog 130 1=some (1,128,0+1):=by kernel_rfl
theorem ag132:agB Tryz.prog 132=some false:=by kernel_rfl
theorem pt133:ptB Tryz.prog 133=some 220:=by kernel_rfl
theorem zr136:zrB Tryz.prog 136=some (.agg #[.nilIface,(.pointer none),(.int .i64 0),(.bool false),(.int .i64 0),(.map none),(.slice none 0 0),(.bool false)]):=by kernel_rfl
theorem pl136:V.plB Tryz.prog 136=some [(0,1),(1,1),(2,1),(3,1),(4,2),(6,1),(7,1)]:=by kernel_rfl
theorem fd136_0:fdB Tryz.prog 136 0=some (0,132,0+1):=by kernel_rfl
theorem fd136_2:fdB Tryz.prog 136 2=some (2,3,0+1):=by kernel_rfl
theorem fd136_3:fdB Tryz.prog 136 3=some (3,4,0+1):=by kernel_rfl
theorem fd136_4:fdB Tryz.prog 136 4=some (4,130,1+1):=by kernel_rfl
theorem fd136_6:fdB Tryz.prog 136 6=some (7,4,0+1):=by kernel_rfl
theorem el145:elB Tryz.prog 145=some 2:=by kernel_rfl
theorem el150:elB Tryz.prog 150=some 154:=by kernel_rfl
theorem ag154:agB Tryz.prog 154=some true:=by kernel_rfl
theorem sz154:szB Tryz.prog 154=some 5:=by kernel_rfl
theorem by154:byB Tryz.prog 154=some 56:=by kernel_rfl
theorem zr154:zrB Tryz.prog 154=some (.agg #[(.int .i64 0),(.int .i64 0),(.int .i64 0),(.slice none 0 0),(.int .i64 0)]):=by kernel_rfl
theorem pl154:V.plB Tryz.prog 154=some [(0,1),(1,1),(2,3)]:=by kernel_rfl
theorem fd154_0:fdB Tryz.prog 154 0=some (0,3,0+1):=by kernel_rfl
theorem fd154_1:fdB Tryz.prog 154 1=some (1,3,0+1):=by kernel_rfl
theorem fd154_2:fdB Tryz.prog 154 2=some (2,116,2+1):=by kernel_rfl
theorem pt170:ptB Tryz.prog 170=some 229:=by kernel_rfl
theorem ag173:agB Tryz.prog 173=some false:=by kernel_rfl
theorem mp173:mpB Tryz.prog 173=some (9,268):=by kernel_rfl
theorem zr175:zrB Tryz.prog 175=some (.agg #[(.map none),(.bool false),(.int .i64 0),(.int .i64 0)]):=by kernel_rfl
theorem pl175:V.plB Tryz.prog 175=some [(0,1),(1,1),(2,1),(3,1)]:=by kernel_rfl
theorem fd175_0:fdB Tryz.prog 175 0=some (0,173,0+1):=by kernel_rfl
theorem fd175_1:fdB Tryz.prog 175 1=some (1,4,0+1):=by kernel_rfl
theorem fd175_2:fdB Tryz.prog 175 2=some (2,3,0+1):=by kernel_rfl
theorem fd175_3:fdB Tryz.prog 175 3=some (3,3,0+1):=by kernel_rfl
theorem ag201:agB Tryz.prog 201=some false:=by kernel_rfl
theorem sz201:szB Tryz.prog 201=some 1:=by kernel_rfl
theorem zr201:zrB Tryz.prog 201=some (.map none):=by kernel_rfl
theorem mp201:mpB Tryz.prog 201=some (3,3):=by kernel_rfl
theorem in206:inB Tryz.prog 206=some .u64:=by kernel_rfl
theorem in207:inB Tryz.prog 207=some .u64:=by kernel_rfl
theorem sz216:szB Tryz.prog 216=some 4:=by kernel_rfl
theorem zr216:zrB Tryz.prog 216=some (.agg #[(.int .i64 0),(.int .i64 0),(.int .u64 0),(.map none)]):=by kernel_rfl
theorem pl216:V.plB Tryz.prog 216=some [(0,1),(1,1),(2,1),(3,1)]:=by kernel_rfl
theorem fd218_0:fdB Tryz.prog 218 0=some (0,4,0+1):=by kernel_rfl
theorem fd218_1:fdB Tryz.prog 218 1=some (1,3,0+1):=by kernel_rfl
theorem zr220:zrB Tryz.prog 220=some (.agg #[(.int .i64 0),(.int .i64 0),(.int .u64 0),(.map none),(.bool false),(.int .i64 0),(.map none),(.pointer none),(.int .i64 0),(.int .i64 0),(.pointer none),(.bool false)]):=by kernel_rfl
theorem pl220:V.plB Tryz.prog 220=some [(0,4),(4,3),(7,1),(8,1),(9,1),(10,1),(11,1)]:=by kernel_rfl
theorem fd220_0:fdB Tryz.prog 220 0=some (0,216,3+1):=by kernel_rfl
theorem fd220_1:fdB Tryz.prog 220 1=some (4,218,2+1):=by kernel_rfl
theorem fd220_2:fdB Tryz.prog 220 2=some (7,102,0+1):=by kernel_rfl
theorem fd220_4:fdB Tryz.prog 220 4=some (9,3,0+1):=by kernel_rfl
theorem fd220_6:fdB Tryz.prog 220 6=some (11,4,0+1):=by kernel_rfl
theorem mp225:mpB Tryz.prog 225=some (3,4):=by kernel_rfl
theorem fd227_0:fdB Tryz.prog 227 0=some (0,4,0+1):=by kernel_rfl
theorem fd227_1:fdB Tryz.prog 227 1=some (1,3,0+1):=by kernel_rfl
theorem zr229:zrB Tryz.prog 229=some (.agg #[(.bool false),(.int .i64 0),(.int .i64 0),(.bool false),(.int .u64 0),(.map none),(.int .i64 0),(.pointer none),(.int .i64 0),(.pointer none),(.int .i64 0),(.int .i64 0),(.bool false)]):=by kernel_rfl
theorem pl229:V.plB Tryz.prog 229=some [(0,7),(7,1),(8,1),(9,1),(10,1),(11,1),(12,1)]:=by kernel_rfl
theorem fd229_0:fdB Tryz.prog 229 0=some (0,227,6+1):=by kernel_rfl
theorem fd229_4:fdB Tryz.prog 229 4=some (10,3,0+1):=by kernel_rfl
theorem fd229_6:fdB Tryz.prog 229 6=some (12,4,0+1):=by kernel_rfl
theorem pt246:ptB Tryz.prog 246=some 306:=by kernel_rfl
theorem ag260:agB Tryz.prog 260=some false:=by kernel_rfl
theorem sz260:szB Tryz.prog 260=some 1:=by kernel_rfl
theorem in260:inB Tryz.prog 260=some .u32:=by kernel_rfl
theorem zr267:zrB Tryz.prog 267=some (.agg #[(.slice none 0 0),(.int .i64 0),(.map none)]):=by kernel_rfl
theorem pl267:V.plB Tryz.prog 267=some [(0,1),(1,1),(2,1)]:=by kernel_rfl
theorem zr268:zrB Tryz.prog 268=some (.pointer none):=by kernel_rfl
theorem pt268:ptB Tryz.prog 268=some 272:=by kernel_rfl
theorem ag270:agB Tryz.prog 270=some false:=by kernel_rfl
theorem sz270:szB Tryz.prog 270=some 1:=by kernel_rfl
theorem el270:elB Tryz.prog 270=some 370:=by kernel_rfl
theorem zr272:zrB Tryz.prog 272=some (.agg #[(.slice none 0 0),(.slice none 0 0),(.bool false),(.bool false),(.slice none 0 0)]):=by kernel_rfl
theorem pl272:V.plB Tryz.prog 272=some [(0,1),(1,1),(2,1),(3,1),(4,1)]:=by kernel_rfl
theorem fd272_0:fdB Tryz.prog 272 0=some (0,35,0+1):=by kernel_rfl
theorem fd272_2:fdB Tryz.prog 272 2=some (2,4,0+1):=by kernel_rfl
theorem fd272_4:fdB Tryz.prog 272 4=some (4,270,0+1):=by kernel_rfl
theorem ag292:agB Tryz.prog 292=some false:=by kernel_rfl
theorem zr306:zrB Tryz.prog 306=some (.agg #[(.slice none 0 0),(.int .i64 0)]):=by kernel_rfl
theorem pl306:V.plB Tryz.prog 306=some [(0,1),(1,1)]:=by kernel_rfl
theorem fd306_0:fdB Tryz.prog 306 0=some (0,35,0+1):=by kernel_rfl
theorem fd306_1:fdB Tryz.prog 306 1=some (1,3,0+1):=by kernel_rfl
theorem ag318:agB Tryz.prog 318=some true:=by kernel_rfl
theorem sz318:szB Tryz.prog 318=some 16:=by kernel_rfl
theorem zr318:zrB Tryz.prog 318=some (.agg #[(.int .u32 0),(.int .u32 0),(.int .u32 0),(.int .u32 0),(.int .u32 0),(.int .u32 0),(.int .u32 0),(.int .u32 0),(.int .u32 0),(.int .u32 0),(.int .u32 0),(.int .u32 0),(.int .u32 0),(.int .u32 0),(.int .u32 0),(.int .u32 0)]):=by kernel_rfl
theorem ar318:arB Tryz.prog 318=some (16,260):=by kernel_rfl
theorem el337:elB Tryz.prog 337=some 116:=by kernel_rfl
theorem zr352:zrB Tryz.prog 352=some (.agg #[(.slice none 0 0),(.int .i64 0),(.int .i64 0)]):=by kernel_rfl
theorem pl352:V.plB Tryz.prog 352=some [(0,1),(1,1),(2,1)]:=by kernel_rfl
theorem fd352_0:fdB Tryz.prog 352 0=some (0,35,0+1):=by kernel_rfl
theorem fd352_1:fdB Tryz.prog 352 1=some (1,3,0+1):=by kernel_rfl
theorem fd352_2:fdB Tryz.prog 352 2=some (2,39,0+1):=by kernel_rfl
theorem ag370:agB Tryz.prog 370=some true:=by kernel_rfl
theorem sz370:szB Tryz.prog 370=some 3:=by kernel_rfl
theorem by370:byB Tryz.prog 370=some 40:=by kernel_rfl
theorem zr370:zrB Tryz.prog 370=some (.agg #[(.int .i64 0),(.int .i64 0),(.slice none 0 0)]):=by kernel_rfl
theorem pl370:V.plB Tryz.prog 370=some [(0,1),(1,1),(2,1)]:=by kernel_rfl
theorem fd370_0:fdB Tryz.prog 370 0=some (0,3,0+1):=by kernel_rfl
theorem fd370_1:fdB Tryz.prog 370 1=some (1,3,0+1):=by kernel_rfl
theorem fd370_2:fdB Tryz.prog 370 2=some (2,35,0+1):=by kernel_rfl
theorem ag374:agB Tryz.prog 374=some false:=by kernel_rfl
theorem sz374:szB Tryz.prog 374=some 1:=by kernel_rfl
theorem zr374:zrB Tryz.prog 374=some .nilFunc:=by kernel_rfl
end T
end Go.Proofs.YtfegfklipbnhjaaGreat
