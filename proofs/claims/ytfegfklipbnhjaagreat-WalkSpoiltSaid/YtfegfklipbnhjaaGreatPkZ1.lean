/- A small logic of heaps and slots over the model: what a call leaves, told by a relation; the rules of code and of regions. Conditions: none. What each operation of the model yields, as rules of the logic. Conditions: those that each rule names. Slices as lists of cells, and heaps that agree but for some blocks. Conditions: those that each fact names. Slices with their capacity, append, copy and new blocks. Conditions: those that each fact names. The operations that make or turn memory, as rules of the logic. Conditions: those that each rule names. Stores into slices and the operations on maps, as rules of the logic. Conditions: those that each rule names. Loops over maps, as rules of the logic. Conditions: those that each rule names. Arrays of integers, as rules of the logic. Conditions: those that each rule names. -/
import Derived.WalkKit
import Derived.Deep.Quiet
import Derived.OrdersHeld
import Derived.StillTail
import Derived.RangeFuncIn
import Derived.RangeFuncRecord
import Derived.RangeFuncSeq
import Derived.OrdersIn
import Derived.TacticsIn
import Derived.ArgAppend
import Derived.MapKept
import Derived.Maps.RangeRun
import Derived.ChangeKeysEq
set_option maxRecDepth 100000
set_option maxHeartbeats 2000000
set_option linter.all false
@[reducible] def Go.Value.J (x:Int):Go.Value:=.int .i64 x
@[reducible] def Go.Value.P (b:Nat):Go.Value:=.pointer (some ⟨b,0,none⟩)
@[reducible] def Go.Value.N:Go.Value:=.slice none 0 0
@[reducible] def Go.HL.nS (h:Array Go.Obj) (F:Nat→Prop):Nat→Prop:=fun j=>F j∧j<h.size
namespace Go.Shelf
end Go.Shelf
namespace Go
def qA:=@List.length_append
def qQ:=@List.mem_cons_of_mem
def qX:=@List.mem_cons_self
def qZ:=@List.append_assoc
def qV:=@List.length_cons
def qJ:=@List.length_take
def qW:=@List.eq_nil_of_length_eq_zero
def qY:=@List.take_of_length_le
def qK:=@List.mem_cons
def qH:=@List.length_drop
def qG:=@List.take_succ_eq_append_getElem
def qE:=@Nat.mul_le_mul_right
def qU:=@List.mem_append_left
def qS:=@List.mem_singleton
def qT:=@List.take_append_drop
def qP:=@List.getElem_mem
def qM:=@List.length_map
def qN:=@List.drop_eq_nil_of_le
def qB:=@List.length_nil
def qC:=@List.mem_of_mem_take
def qD:=@List.mem_append
def qF:=@List.drop_eq_getElem_cons
def qI:=@List.mem_append_right
def qL:=@Nat.zero_le
def qO:=@List.mem_iff_getElem
def qR:=@Nat.le_refl
def kQ:=@List.mem_of_mem_drop
def kX:=@List.append_nil
def kZ:=@List.take_succ_cons
def kV:=@Nat.add_mul
def kJ:=@List.map_append
def kW:=@List.length_replicate
def kY:=@List.drop_zero
def kK:=@List.pairwise_cons
def kH:=@List.drop_succ_cons
def kG:=@List.take_append_of_le_length
def kE:=@List.map_cons
def kU:=@Nat.eq_of_mul_eq_mul_right
def kS:=@List.mem_map
def kT:=@List.nodup_append
def kP:=@Nat.lt_of_lt_of_le
def kM:=@List.take_zero
def kN:=@Nat.le_trans
def kC:=@List.length_pos_iff
def kD:=@Nat.mod_eq_of_lt
def kF:=@List.size_toArray
def kI:=@List.nil_append
end Go
namespace Go.HL
open Go
abbrev Heap:=Array Obj
abbrev Slots:=Nat->Value
structure Env where
 os:Os
 tape:Nat->Question->Nat
 output:Array (Nat × ByteArray)
 ds:List Deferred:=[]
structure At (E:Env) (h:Heap) (w:World):Prop where
 heap:w.heap=h
 os:w.os=E.os
 tape:w.tape=E.tape
 output:w.output=E.output
def Env.of (w:World):Env:=⟨w.os,w.tape,w.output,[]⟩
theorem At.self (w:World):At (Env.of w) w.heap w:=⟨rfl,rfl,rfl,rfl⟩
@[reducible] def upd (s:Slots) (d:Nat) (v:Value):Slots:=fun i=>bif Nat.beq i d then v else s i
@[reducible] def ev (s:Slots):Operand->Value
 | .tmp t=>s t
 | .const v=>v
 | .global g=>.pointer (some ⟨g,0,none⟩)
 | .func f=>.func (.func f) #[] #[]
theorem upd_self {s:Slots} {d:Nat} {v:Value} (h:s d=v):upd s d v=s:=by
 funext i;unfold upd;cases hb:Nat.beq i d with
 | true=>have:=Nat.eq_of_beq_eq_true hb;subst this;simp [h]
 | false=>rfl
def frm:List (Nat × Value)->Slots->Slots
 | [],s=>s
 | p::l,s=>upd (frm l s) p.1 p.2
def Has (s:Slots):List (Nat × Value)->Prop
 | []=>True
 | p::l=>s p.1=p.2/\Has s l
theorem frm_of {s:Slots} : ∀ {l:List (Nat × Value)},Has s l->frm l s=s
 | [],_=>rfl
 | p::l,h=>by
  unfold frm;rw [frm_of h.2];exact upd_self h.1
structure Rel (ds:List Deferred) (n:Nat) (s:Slots) (a:Act):Prop where
 size:a.tmps.size=n
 get:∀i,a.tmps.getD i undef=s i
 defers:a.defers=ds
theorem Rel.eval {ds:List Deferred} {n:Nat} {s:Slots} {a:Act} (r:Rel ds n s a) (x:Operand):a.eval x=ev s x:=by
 cases x<;>simp [Act.eval,ev]
 have:=r.get;simpa using this _
theorem Rel.eval' {ds:List Deferred} {n:Nat} {s:Slots} {a:Act} (r:Rel ds n s a):a.eval=ev s:=funext r.eval
theorem Rel.put {ds:List Deferred} {n:Nat} {s:Slots} {a:Act} (r:Rel ds n s a) {d:Nat} (v:Value) (hd:Nat.blt d n=true):Rel ds n (upd s d v) (a.put (some d) v):=by
 have hdn:d<n:=by simpa [Nat.blt_eq] using hd
 refine ⟨by simp [Act.put,r.size],fun i=>?_,by simp [Act.put,r.defers]⟩;have hg:=r.get i;unfold upd;cases hb:Nat.beq i d with
 | true=>
  have:=Nat.eq_of_beq_eq_true hb;subst this;simp [Act.put,r.size,hdn]
 | false=>
  have hne:d≠i:=fun e=>by subst e;simp at hb
  simp [Act.put,hne];simpa using hg
def thn (K:Slots->Heap->Prop) (Q:Exit->Slots->Heap->Prop):Exit->Slots->Heap->Prop
 | .normal,s,h=>K s h
 | e,s,h=>Q e s h
def inBlk (id:Nat) (Q:Exit->Slots->Heap->Prop):Exit->Slots->Heap->Prop
 | .exit id',s,h=>bif Nat.beq id' id then Q .normal s h else Q (.exit id') s h
 | e,s,h=>Q e s h
def nrm (K:Slots->Heap->Prop):Exit->Slots->Heap->Prop
 | .normal,s,h=>K s h
 | _,_,_=>False
def Lift (E:Env) (n:Nat) (Q:Exit->Slots->Heap->Prop) (e:Exit) (a:Act) (w:World):Prop:=
 ∃s h,Rel E.ds n s a/\At E h w/\Q e s h
theorem Lift.mono {E:Env} {n:Nat} {Q Q':Exit->Slots->Heap->Prop} (hq:∀e s h,Q e s h->Q' e s h) {e:Exit} {a:Act} {w:World} (h:Lift E n Q e a w):Lift E n Q' e a w:=
 let ⟨s,h',r,at',q⟩:=h;⟨s,h',r,at',hq _ _ _ q⟩
def fc (ro:Option Nat):Fence:={ Fence.wide with round:=ro }
def HW (ro:Option Nat) (P:Program) (n:Nat) (c:Code) (Q:Exit->Slots->Heap->Prop) (s:Slots) (h:Heap):Prop:=
 ∀E a w,Rel E.ds n s a->At E h w->c.wpIn (fc ro) 0 P (Lift E n Q) a w
section rules
variable {ro:Option Nat} {P:Program} {n:Nat} {Q:Exit->Slots->Heap->Prop} {s:Slots} {h:Heap}
theorem HW.mono {c:Code} {Q':Exit->Slots->Heap->Prop} (hc:HW ro P n c Q s h) (hq:∀e s h,Q e s h->Q' e s h):HW ro P n c Q' s h:=
 fun E a w r at'=>wpIn_mono (hc E a w r at') fun _ _ _=>Lift.mono hq
theorem HW.skip (hq:Q .normal s h):HW ro P n .skip Q s h:=fun _ _ _ r at'=>wpIn_skip ⟨s,h,r,at',hq⟩
theorem HW.exit {id:Nat} (hq:Q (.exit id) s h):HW ro P n (.exit id) Q s h:=fun _ _ _ r at'=>wpIn_exit ⟨s,h,r,at',hq⟩
theorem HW.ret (hq:Q .ret s h):HW ro P n .ret Q s h:=fun _ _ _ r at'=>wpIn_ret ⟨s,h,r,at',hq⟩
theorem HW.seq {x y:Code} (hx:∀K:Slots->Heap->Prop,(∀s h,HW ro P n y Q s h->K s h)->HW ro P n x (thn K Q) s h):HW ro P n (.seq x y) Q s h:=by
 intro E a w r at';refine wpIn_seq (wpIn_mono (hx (HW ro P n y Q) (fun _ _ h=>h) E a w r at') ?_);rintro e a' w' ⟨s',h',r',at2,q⟩;cases e with
 | normal=>exact q E a' w' r' at2
 | exit id=>exact ⟨s',h',r',at2,q⟩
 | goto l=>exact ⟨s',h',r',at2,q⟩
 | ret=>exact ⟨s',h',r',at2,q⟩
 | panic c=>exact ⟨s',h',r',at2,q⟩
 | outgrown=>exact ⟨s',h',r',at2,q⟩
theorem HW.cond {c:Operand} {x y:Code} {t:Bool} (hc:ev s c=.bool t) (ht:t=true->HW ro P n x Q s h) (hf:t=false->HW ro P n y Q s h):HW ro P n (.cond c x y) Q s h:=
 fun E a w r at'=>wpIn_cond_split (t:=t) (by rw [r.eval];exact hc) (fun e=>ht e E a w r at') (fun e=>hf e E a w r at')
theorem HW.cond_t {c:Operand} {x y:Code} (hc:ev s c=.bool true) (ht:HW ro P n x Q s h):HW ro P n (.cond c x y) Q s h:=HW.cond hc (fun _=>ht) (fun e=>by cases e)
theorem HW.cond_f {c:Operand} {x y:Code} (hc:ev s c=.bool false) (hf:HW ro P n y Q s h):HW ro P n (.cond c x y) Q s h:=HW.cond hc (fun e=>by cases e) (fun _=>hf)
theorem HW.condr {c:Operand} {x y:Code} {t:Bool} (hc:ev s c=.bool t) (hf:t=false->HW ro P n y Q s h) (ht:t=true->HW ro P n x Q s h):HW ro P n (.cond c x y) Q s h:=HW.cond hc ht hf
theorem HW.block {id:Nat} {c:Code} (hc:HW ro P n c (inBlk id Q) s h):HW ro P n (.block id c) Q s h:=by
 intro E a w r at';refine wpIn_block (wpIn_mono (hc E a w r at') ?_);rintro e a' w' ⟨s',h',r',at2,q⟩;cases e with
 | normal=>exact ⟨s',h',r',at2,q⟩
 | exit id'=>
  simp only [inBlk] at q;simp only [Exit.inBlock];by_cases hid:id'=id
  ·subst hid;simp only [Nat.beq_refl,cond_true] at q;simp only [if_true];exact ⟨s',h',r',at2,q⟩
  ·have:Nat.beq id' id=false:=by cases hb:Nat.beq id' id with
    | true=>exact absurd (Nat.eq_of_beq_eq_true hb) hid
    | false=>rfl
   simp only [this,cond_false] at q;simp only [hid,if_false];exact ⟨s',h',r',at2,q⟩
 | goto l=>exact ⟨s',h',r',at2,q⟩
 | ret=>exact ⟨s',h',r',at2,q⟩
 | panic c=>exact ⟨s',h',r',at2,q⟩
 | outgrown=>exact ⟨s',h',r',at2,q⟩
theorem HW.loop {c:Code} (I:Slots->Heap->Prop) (μ:Slots->Heap->Nat) (h0:I s h)
  (round:∀s h,I s h->∀J:Slots->Heap->Prop,(∀s' h',I s' h'->μ s' h'<μ s h->J s' h')->HW ro P n c (thn J Q) s h):HW ro P n (.loop c) Q s h:=by
 intro E a w r at';refine wpIn_loop (fun a w=>∃s h,Rel E.ds n s a/\At E h w/\I s h) (fun a w=>μ (fun i=>a.tmps.getD i undef) w.heap) ⟨s,h,r,at',h0⟩ ?_;rintro a w ⟨s,h,r,at',hI⟩;have e1:(fun i=>a.tmps.getD i undef)=s:=funext r.get;have e2:=at'.heap;simp only [e1,e2];refine wpIn_mono (round s h hI (fun s' h'=>I s' h'/\μ s' h'<μ s h) (fun _ _ a b=>⟨a,b⟩) E a w r at') ?_;rintro e a' w' ⟨s',h',r',at2,q⟩;cases e with
 | normal=>
  refine ⟨⟨s',h',r',at2,q.1⟩,?_⟩;have e1:(fun i=>a'.tmps.getD i undef)=s':=funext r'.get;have e2:=at2.heap;simp only [e1,e2];exact q.2
 | exit id=>exact ⟨s',h',r',at2,q⟩
 | goto l=>exact ⟨s',h',r',at2,q⟩
 | ret=>exact ⟨s',h',r',at2,q⟩
 | panic c=>exact ⟨s',h',r',at2,q⟩
 | outgrown=>exact ⟨s',h',r',at2,q⟩
theorem exists_least {p:Nat->Prop} (h:∃m,p m):∃m,p m/\∀k,p k->m<=k:=by
 obtain ⟨m,hm⟩:=h;induction m using Nat.strongRecOn with
 | ind m ih=>
  by_cases hk:∃k,k<m/\p k
  ·obtain ⟨k,hkm,hpk⟩:=hk;exact ih k hkm hpk
  ·exact ⟨m,hm,fun k hp=>Nat.le_of_not_lt fun hlt=>hk ⟨k,hlt,hp⟩⟩
noncomputable def least (p:Nat->Prop):Nat:=Classical.epsilon fun m=>p m/\∀k,p k->m<=k
theorem least_spec {p:Nat->Prop} (h:∃m,p m):p (least p)/\∀k,p k->least p<=k:=Classical.epsilon_spec (exists_least h)
theorem HW.loopm {c:Code} (I:Nat->Slots->Heap->Prop) (h0:∃m,I m s h)
  (round:∀m s h,I m s h->∀J:Slots->Heap->Prop,(∀m' s' h',I m' s' h'->m'<m->J s' h')->HW ro P n c (thn J Q) s h):HW ro P n (.loop c) Q s h:=by
 refine HW.loop (fun s h=>∃m,I m s h) (fun s h=>least fun m=>I m s h) h0 fun s h hI J hJ=>?_;have hl:=least_spec hI;exact round _ s h hl.1 J fun m' s' h' hi hlt=>hJ s' h' ⟨m',hi⟩ (Nat.lt_of_le_of_lt ((least_spec ⟨m',hi⟩).2 m' hi) hlt)
theorem HW.frame {c:Code} {l:List (Nat × Value)} (hs:Has s l) (hc:∀τ,HW ro P n c Q (frm l τ) h):HW ro P n c Q s h:=by
 have:=hc s;rwa [frm_of hs] at this
end rules
def OpV (P:Program) (o:Oper) (s:Slots) (h:Heap) (v:Value):Prop:=
 ∀w:World,w.heap=h->(execOp (ev s) o).run P w=.ok (.value v) w
def OpE (P:Program) (o:Oper) (s:Slots) (h:Heap) (v:Value) (h':Heap):Prop:=
 ∀E w,At E h w->∃w',At E h' w'/\(execOp (ev s) o).run P w=.ok (.value v) w'
def OpA (P:Program) (o:Oper) (s:Slots) (h:Heap) (R:Value->Heap->Prop):Prop:=
 ∀E w,At E h w->∃v h' w',R v h'/\At E h' w'/\(execOp (ev s) o).run P w=.ok (.value v) w'
def OpU (P:Program) (o:Oper) (s:Slots) (h:Heap) (h':Heap):Prop:=
 ∀E w,At E h w->∃w',At E h' w'/\(execOp (ev s) o).run P w=.ok .skip w'
def Callable (P : Program) (f : FuncId) : Prop := ∃ fn, P.funcs[f]? = some fn /\ (fn.name == "runtime.NumGoroutine") = false /\ fn.body.isNone = false
def HC (P:Program) (f:FuncId) (args:Array Value) (h:Heap) (R:Value->Heap->Prop):Prop:=
 Callable P f/\∀E w,At E h w->Calls P f args w fun e w'=>∃v h',e=.returned v/\At E h' w'/\R v h'
theorem HC.mono {P:Program} {f:FuncId} {args:Array Value} {h:Heap} {R R':Value->Heap->Prop} (hc:HC P f args h R) (hr:∀v h',R v h'->R' v h'):HC P f args h R':=
 ⟨hc.1,fun E w at'=>(hc.2 E w at').mono fun _ _ ⟨v,h',e,a,r⟩=>⟨v,h',e,a,hr _ _ r⟩⟩
def OpC (P:Program) (o:Oper) (s:Slots) (h:Heap) (f:FuncId) (args:Array Value):Prop:=
 ∀w:World,w.heap=h->Callable P f->(execOp (ev s) o).run P w=.ok (.enter f args) w
def wants (ops:Array Oper) (o:Oper) (s:Slots):Bool:=
 match o.guard with
 | none=>true
 | some (j,want)=>match (ops[j]?).bind (·.dst) with
  | some d=>match s d with
   | .bool b=>b == want
   | _=>false
  | none=>false
theorem Rel.wanted {ds:List Deferred} {n:Nat} {s:Slots} {a:Act} (r:Rel ds n s a) (ops:Array Oper) (o:Oper):Region.wanted o (yielded ops a.tmps)=wants ops o s:=by
 unfold Region.wanted wants yielded;cases hg:o.guard with
 | none=>rfl
 | some p=>
  obtain ⟨j,want⟩:=p;simp only;cases hd:(ops[j]?).bind (·.dst) with
  | none=>simp
  | some d=>
   simp only [Option.bind_some];have hgd:=r.get d;by_cases hlt:d<a.tmps.size
   ·have:a.tmps[d]? = some (s d):=by
     rw [<-hgd];simp [hlt]
    rw [this];cases s d<;>simp<;>cases want<;>rename_i b<;>cases b<;>rfl
   ·have hn:a.tmps[d]? = none:=Array.getElem?_eq_none (Nat.le_of_not_lt hlt);have:s d=undef:=by rw [<-hgd];simp [hn]
    rw [hn,this];simp [undef]
def HO (P:Program) (n:Nat) (ops:Array Oper) (l:List Oper) (K:Slots->Heap->Prop) (s:Slots) (h:Heap):Prop:=
 ∀E a w,Rel E.ds n s a->At E h w->wpList P ops (Lift E n (nrm K)) l a w
section ops
variable {P:Program} {n:Nat} {ops:Array Oper} {l:List Oper} {o:Oper} {K:Slots->Heap->Prop} {s:Slots} {h:Heap}
theorem HO.nil (hk:K s h):HO P n ops [] K s h:=fun _ _ _ r at'=>⟨s,h,r,at',hk⟩
theorem HO.step (hw:wants ops o s=true) (hs:∀E a w,Rel E.ds n s a->At E h w->o.wp P a w (wpList P ops (Lift E n (nrm K)) l) (Lift E n (nrm K))):HO P n ops (o::l) K s h:=by
 intro E a w r at';unfold wpList;rw [r.wanted,hw];exact .inl (hs E a w r at')
theorem HO.v {v:Value} (hv:OpV P o s h v) (hw:wants ops o s=true) (d:Nat) (hd:o.dst=some d) (hn:Nat.blt d n=true) (hk:HO P n ops l K (upd s d v) h):HO P n ops (o::l) K s h:=
 HO.step hw fun E a w r at'=>by
  unfold Oper.wp;rw [r.eval',hv w at'.heap];simp only [Oper.upon,hd];exact hk E _ w (r.put v hn) at'
theorem HO.e {v:Value} {h':Heap} (hv:OpE P o s h v h') (hw:wants ops o s=true) (d:Nat) (hd:o.dst=some d) (hn:Nat.blt d n=true) (hk:HO P n ops l K (upd s d v) h'):HO P n ops (o::l) K s h:=
 HO.step hw fun E a w r at'=>by
  obtain ⟨w',at2,hr⟩:=hv E w at';unfold Oper.wp;rw [r.eval',hr];simp only [Oper.upon,hd];exact hk E _ w' (r.put v hn) at2
theorem HO.a {R:Value->Heap->Prop} (hv:OpA P o s h R) (hw:wants ops o s=true) (d:Nat) (hd:o.dst=some d) (hn:Nat.blt d n=true) (hk:∀v h',R v h'->HO P n ops l K (upd s d v) h'):HO P n ops (o::l) K s h:=
 HO.step hw fun E a w r at'=>by
  obtain ⟨v,h',w',hR,at2,hr⟩:=hv E w at';unfold Oper.wp;rw [r.eval',hr];simp only [Oper.upon,hd];exact hk v h' hR E _ w' (r.put v hn) at2
theorem HO.a0 {R:Value->Heap->Prop} (hv:OpA P o s h R) (hw:wants ops o s=true) (hd:o.dst=none) (hk:∀v h',R v h'->HO P n ops l K s h'):HO P n ops (o::l) K s h:=
 HO.step hw fun E a w r at'=>by
  obtain ⟨v,h',w',hR,at2,hr⟩:=hv E w at';unfold Oper.wp;rw [r.eval',hr];simp only [Oper.upon,hd,Act.put];exact hk v h' hR E _ w' r at2
theorem HO.c {f:FuncId} {args:Array Value} {R:Value->Heap->Prop} (hv:OpC P o s h f args) (hw:wants ops o s=true) (d:Nat) (hd:o.dst=some d) (hn:Nat.blt d n=true)
  (hc:HC P f args h R) (hk:∀v h',R v h'->HO P n ops l K (upd s d v) h'):HO P n ops (o::l) K s h:=
 HO.step hw fun E a w r at'=>by
  unfold Oper.wp;rw [r.eval',hv w at'.heap hc.1];simp only [Oper.upon];refine (hc.2 E w at').mono ?_;rintro e w' ⟨v,h',rfl,at2,hR⟩;simp only [hd];exact hk v h' hR E _ w' (r.put v hn) at2
theorem HO.spl {b:Bool} {d:Nat} (ht:b=true->HO P n ops l K (upd s d (.bool true)) h) (hf:b=false->HO P n ops l K (upd s d (.bool false)) h):HO P n ops l K (upd s d (.bool b)) h:=by
 cases b
 ·exact hf rfl
 ·exact ht rfl
theorem HO.no (hw:wants ops o s=false) (d:Nat) (hd:o.dst=some d) (hn:Nat.blt d n=true) (hk:HO P n ops l K (upd s d undef) h):HO P n ops (o::l) K s h:=by
 intro E a w r at';unfold wpList;rw [r.wanted,hw,hd];exact hk E _ w (r.put undef hn) at'
end ops
def nd (l:List Oper):Bool:=l.all fun o=>match o.op with | .defer _=>false | _=>true
def ndr:Option Nat->List Oper->Bool
 | none,_=>true
 | some _,l=>nd l
theorem sem_fc {ro:Option Nat} {l:List Oper} (h:ndr ro l=true):∀o∈l,∀ρ,o.semAt ro ρ=execOp ρ o:=by
 intro o ho ρ;cases ro with
 | none=>rfl
 | some k=>
  refine Oper.semAt_eq _ _ _ fun c e=>?_;have h2:=List.all_eq_true.1 (show nd l=true from h) o ho;rw [e] at h2;cases h2
theorem not_lets {E:Env} {n:Nat} {K:Slots->Heap->Prop} : ¬LetsOut (Lift E n (nrm K)):=fun ⟨_,_,_,_,_,_,q⟩=>q
theorem oper_in {ro:Option Nat} {m:Nat} {P:Program} {o:Oper} {a:Act} {w:World} {K K':Act->World->Prop} {Q:Exit->Act->World->Prop} (hs:∀ρ,o.semAt ro ρ=execOp ρ o) (hK:∀a w,K a w->K' a w) (h:o.wp P a w K Q):o.wpIn (fc ro) m P a w K' Q:=by
 refine ⟨fun _ _=>trivial,?_⟩;unfold Oper.wp at h;rw [show (fc ro).round=ro from rfl,hs];revert h;generalize (execOp a.eval o).run P w=res;intro h;cases res with
 | halt x w'=>cases x<;>exact h
 | ok x w'=>
  cases x with
  | value v=>exact hK _ _ h
  | skip=>exact hK _ _ h
  | defer d=>exact hK _ _ h
  | enter f args=>
   refine ⟨fun e=>(by cases e),?_⟩;refine (callsIn_wide (n:=m-1)).2 (Calls.mono (show Calls P f args w' _ from h) ?_);rintro e w'' q;cases e with
   | returned v=>exact hK _ _ q
   | panicked c=>exact q
   | outgrown=>exact q
  | row row args=>exact ⟨fun e=>(by cases e),fun c cs _=>let ⟨v,w'',q,st⟩:=(show Rows P row args w' _ from h) c cs;⟨v,w'',hK _ _ q,stepsIn_wide.2 st⟩⟩
  | round l f tmps x y=>exact h.elim
  | _=>exact h
theorem wpOps_in {ro:Option Nat} {m:Nat} {P:Program} {ops:Array Oper} {Q:Exit->Act->World->Prop} (hQ:¬LetsOut Q) (hn:∀o∈ops.toList,∀ρ,o.semAt ro ρ=execOp ρ o):∀(l:List Nat) (a:Act) (w:World),wpOps P ops Q l a w->wpOpsIn (fc ro) m P ops Q l a w
 | [],_,_,h=>h
 | i::l,a,w,h=>by
  unfold wpOps at h;unfold wpOpsIn;cases ho:ops[i]? with
  | none=>rw [ho] at h;exact wpOps_in hQ hn l a w h
  | some o=>
   rw [ho] at h;simp only at h⊢;split
   ·rename_i hw;rw [if_pos hw] at h;rcases h with h | h
    ·exact oper_in (hn o (by obtain ⟨hi,e⟩:=Array.getElem?_eq_some_iff.1 ho;rw [<-e];simp)) (wpOps_in hQ hn l) h
    ·exact absurd h.2 hQ
   ·rename_i hw;rw [if_neg hw] at h;exact ⟨fun _ _=>trivial,wpOps_in hQ hn l _ w h⟩
theorem region_any {ro:Option Nat} {m:Nat} {P:Program} {id:Nat} {ops:Array Oper} {Q:Exit->Act->World->Prop} {a:Act} {w:World} (hm:P.follows .mixedOrders=true) (hQ:¬LetsOut Q) (hn:∀o∈ops.toList,∀ρ,o.semAt ro ρ=execOp ρ o) (h:wpAny P .any ops Q ops.size (Array.replicate ops.size false) a { w with drawn:=w.drawn+1 }):(Code.region id ops true).wpIn (fc ro) m P Q a w:=
 wpIn_region_draw fun t=>wpOps_in hQ hn _ _ _ (by
  simp only [Region.schedule,hm,Bool.true_or,if_true];exact wpAny_sound ops.size t _ a _ h)
theorem nrm_lift {E:Env} {n:Nat} {Q:Exit->Slots->Heap->Prop} {e:Exit} {a:Act} {w:World} (h:Lift E n (nrm fun s h=>Q .normal s h) e a w):Lift E n Q e a w:=Lift.mono (fun e s h q=>by
 cases e with
 | normal=>exact q
 | exit id=>exact q.elim
 | goto l=>exact q.elim
 | ret=>exact q.elim
 | panic c=>exact q.elim
 | outgrown=>exact q.elim) h
theorem HW.region {ro:Option Nat} {P:Program} {n id:Nat} {l:List Oper} {Q:Exit->Slots->Heap->Prop} {s:Slots} {h:Heap} (hk:HO P n l.toArray l (fun s h=>Q .normal s h) s h) (hnd:ndr ro l=true:=by exact rfl):HW ro P n (.region id l.toArray false) Q s h:=by
 intro E a w r at';refine wpIn_mono (wpIn_region (wpOps_in not_lets (by simpa using sem_fc hnd) _ _ _ ?_)) fun _ _ _=>nrm_lift;rw [List.range_eq_range',show l.toArray.size=l.length by simp,wpOps_eq_wpList l 0 (by simp)];exact hk E a w r at'
def HQ (P:Program) (n:Nat) (ops:Array Oper) (l:List Oper) (K:Slots->Heap->Prop) (s:Slots) (h:Heap):Prop:=
 ∀E a,Rel E.ds n s a->wpQuiet P ops (At E h) (fun a'=>∃s',Rel E.ds n s' a'/\K s' h) l a
section quiet
variable {P:Program} {n:Nat} {ops:Array Oper} {l:List Oper} {o:Oper} {K:Slots->Heap->Prop} {s:Slots} {h:Heap}
theorem HQ.nil (hk:K s h):HQ P n ops [] K s h:=fun _ _ r=>⟨s,r,hk⟩
theorem HQ.v {v:Value} (hv:OpV P o s h v) (hw:wants ops o s=true) (d:Nat) (hd:o.dst=some d) (hn:Nat.blt d n=true) (hk:HQ P n ops l K (upd s d v) h):HQ P n ops (o::l) K s h:=by
 intro E a r;unfold wpQuiet;rw [r.wanted,hw,if_pos rfl];refine ⟨v,fun w at'=>?_,?_⟩
 ·unfold Oper.quietAt;rw [r.eval',hv w at'.heap];exact ⟨rfl,rfl⟩
 ·rw [hd];exact hk E _ (r.put v hn)
theorem HQ.c {v:Value} {f:FuncId} {args:Array Value} (hv:OpC P o s h f args) (hw:wants ops o s=true) (d:Nat) (hd:o.dst=some d) (hn:Nat.blt d n=true)
  (hc:HC P f args h (fun v' h'=>v'=v/\h'=h)) (hk:HQ P n ops l K (upd s d v) h):HQ P n ops (o::l) K s h:=by
 intro E a r;unfold wpQuiet;rw [r.wanted,hw,if_pos rfl];refine ⟨v,fun w at'=>?_,?_⟩
 ·unfold Oper.quietAt;rw [r.eval',hv w at'.heap hc.1];refine ⟨rfl,(hc.2 E w at').mono ?_⟩;rintro e w' ⟨v',h',rfl,at2,rfl,rfl⟩;exact ⟨rfl,at2⟩
 ·rw [hd];exact hk E _ (r.put v hn)
theorem HQ.spl {b:Bool} {d:Nat} (ht:b=true->HQ P n ops l K (upd s d (.bool true)) h) (hf:b=false->HQ P n ops l K (upd s d (.bool false)) h):HQ P n ops l K (upd s d (.bool b)) h:=by
 cases b
 ·exact hf rfl
 ·exact ht rfl
theorem HQ.no (hw:wants ops o s=false) (d:Nat) (hd:o.dst=some d) (hn:Nat.blt d n=true) (hk:HQ P n ops l K (upd s d undef) h):HQ P n ops (o::l) K s h:=by
 intro E a r;unfold wpQuiet;rw [r.wanted,hw,hd];exact hk E _ (r.put undef hn)
end quiet
theorem wpQuiet_mono {P:Program} {ops:Array Oper} {C:World->Prop} {Q Q':Act->Prop} (hq:∀a,Q a->Q' a):∀(l:List Oper) (a:Act),wpQuiet P ops C Q l a->wpQuiet P ops C Q' l a
 | [],a,h=>hq a h
 | o::l,a,h=>by
  unfold wpQuiet at h⊢;split
  ·rename_i hw;rw [if_pos hw] at h;exact Oper.quiet_mono (wpQuiet_mono hq l) h
  ·rename_i hw;rw [if_neg hw] at h;exact wpQuiet_mono hq l _ h
theorem HW.quiet {ro:Option Nat} {P:Program} {n id:Nat} {l:List Oper} {Q:Exit->Slots->Heap->Prop} {s:Slots} {h:Heap} (hm:P.follows .mixedOrders=true) (hB:Region.lexB .any l.toArray=true)
  (hk:HQ P n l.toArray l (fun s h=>Q .normal s h) s h) (hnd:ndr ro l=true:=by exact rfl):HW ro P n (.region id l.toArray true) Q s h:=by
 intro E a w r at';have hB':=hB;simp only [Region.lexB,Bool.and_eq_true] at hB';refine wpIn_mono (region_any (Q:=Lift E n (nrm fun s h=>Q .normal s h)) hm not_lets (by simpa using sem_fc hnd) (wpAny_of_quiet (C:=At E h) (Q:=fun a'=>∀w',At E h w'->Lift E n (nrm fun s h=>Q .normal s h) .normal a' w') (fun _ w' hw' h=>h w' hw') _ _ _ _ ⟨at'.heap,at'.os,at'.tape,at'.output⟩ ?_)) fun _ _ _=>nrm_lift;have e:(l.toArray).toList=l:=by simp
 have h2:wpQuiet P l.toArray (At E h) (fun a'=>∀w',At E h w'->Lift E n (nrm fun s h=>Q .normal s h) .normal a' w') l a:=by
  refine wpQuiet_mono (fun a'=>?_) l a (hk E a r);rintro ⟨s',r',k⟩ w' at2;exact ⟨s',h,r',at2,k⟩
 have h3:=wpAnyQ_lex (C:=At E h) (md:=.any) hB'.1 l.toArray.toList 0 (Array.replicate l.toArray.size false) a (by simp) (by simpa using hB'.2) (by rw [e];exact h2);simpa using h3
def HT (P:Program) (n:Nat) (ops:Array Oper) (l:List Oper) (K:Slots->Heap->Prop) (s:Slots) (h:Heap):Prop:=
 ∀ds a w,Rel ds n s a->w.heap=h->wpStill P ops w (fun a'=>∃s',Rel ds n s' a'/\K s' h) l a
section head
variable {P:Program} {n:Nat} {ops:Array Oper} {l:List Oper} {o:Oper} {K:Slots->Heap->Prop} {s:Slots} {h:Heap}
theorem HT.nil (hk:K s h):HT P n ops [] K s h:=fun _ _ _ r _=>⟨s,r,hk⟩
theorem HT.v {v:Value} (hv:OpV P o s h v) (hw:wants ops o s=true) (d:Nat) (hd:o.dst=some d) (hn:Nat.blt d n=true) (hk:HT P n ops l K (upd s d v) h):HT P n ops (o::l) K s h:=by
 intro ds a w r hh;unfold wpStill;rw [r.wanted,hw,if_pos rfl];unfold Oper.still;rw [r.eval',hv w hh];exact ⟨rfl,by rw [hd];exact hk _ _ w (r.put v hn) hh⟩
theorem HT.no (hw:wants ops o s=false) (d:Nat) (hd:o.dst=some d) (hn:Nat.blt d n=true) (hk:HT P n ops l K (upd s d undef) h):HT P n ops (o::l) K s h:=by
 intro ds a w r hh;unfold wpStill;rw [r.wanted,hw,hd];exact hk _ _ w (r.put undef hn) hh
theorem wpStill_mono' {w:World} {Q Q':Act->Prop} (hq:∀a,Q a->Q' a):∀(l:List Oper) (a:Act),wpStill P ops w Q l a->wpStill P ops w Q' l a
 | [],a,h=>hq a h
 | o::l,a,h=>by
  unfold wpStill at h⊢;split
  ·rename_i hw;rw [if_pos hw] at h;unfold Oper.still Oper.stillUpon at h⊢;revert h;generalize (execOp a.eval o).run P w=r;intro h;cases r with
   | ok n w'=>
    cases n<;>simp only at h⊢<;>try exact h
    ·exact ⟨h.1,wpStill_mono' hq l _ h.2⟩
    ·exact ⟨h.1,wpStill_mono' hq l _ h.2⟩
    ·exact ⟨h.1,let ⟨v,h1,h2⟩:=h.2;⟨v,h1,wpStill_mono' hq l _ h2⟩⟩
   | halt x w'=>exact h
  ·rename_i hw;rw [if_neg hw] at h;exact wpStill_mono' hq l _ h
end head
theorem any_tail {P:Program} {Q:Exit->Act->World->Prop} {a:Act} {w:World} {l:List Oper} (q:Nat) (hB:Region.lexTailB .any l.toArray q=true)
  (h:wpStill P l.toArray w (fun a'=>wpList P l.toArray Q (l.drop q) a' w) (l.take q) a):wpAny P .any l.toArray Q l.toArray.size (Array.replicate l.toArray.size false) a w:=by
 simp only [Region.lexTailB,Bool.and_eq_true,decide_eq_true_eq] at hB;obtain ⟨⟨⟨⟨hsel,hn⟩,hs⟩,hc⟩,hlex⟩:=hB;have hlt:q<l.length:=by simpa using hn
 have h1:(l.take q).length=q:=by rw [qJ];omega
 have h2:(l.drop q).length=l.toArray.size-q:=by simp
 have hin:HeadInv .any l.toArray q (Array.replicate l.toArray.size false):=⟨by simp,fun j oj _ hl=>(by rw [getD_replicate_false] at hl;cases hl),fun t _ ht=>getD_in (by simpa using ht) (getD_replicate_false _ _)⟩;have H:=wpAnyL_lex (md:=.any) (g:=l.toArray.size-q) hsel hs hc hn (l.take q) 0 _ a (fun j hj=>by
  rw [h1] at hj;simp [hj]) (by simpa using h1) hin (by rw [h1];exact hlex) h
 have r:=wpAny_of_head (Q':=Q) (g:=l.toArray.size-q) (fun listed a' hL=>by
  have:=wpAny_of_seq (md:=.any) (Q':=Q) (l.drop q) q listed a' w (fun j=>by simp [List.getElem?_drop]) (by rw [h2];exact hL.1) hL.2;rwa [h2] at this) _ _ _ H
 rw [h1,show q+(l.toArray.size-q)=l.toArray.size by omega] at r;exact r
theorem HW.tail {ro:Option Nat} {P:Program} {n id:Nat} {l:List Oper} {Q:Exit->Slots->Heap->Prop} {s:Slots} {h:Heap} (q:Nat) (hm:P.follows .mixedOrders=true) (hB:Region.lexTailB .any l.toArray q=true)
  (hk:HT P n l.toArray (l.take q) (HO P n l.toArray (l.drop q) (fun s h=>Q .normal s h)) s h) (hnd:ndr ro l=true:=by exact rfl):HW ro P n (.region id l.toArray true) Q s h:=by
 intro E a w r at';have at2:At E h { w with drawn:=w.drawn+1 }:=⟨at'.heap,at'.os,at'.tape,at'.output⟩;refine wpIn_mono (region_any (Q:=Lift E n (nrm fun s h=>Q .normal s h)) hm not_lets (by simpa using sem_fc hnd) (any_tail q hB (wpStill_mono' ?_ _ _ (hk _ a { w with drawn:=w.drawn+1 } r at'.heap)))) fun _ _ _=>nrm_lift;rintro a' ⟨s',r',k⟩;exact k E a' _ r' at2
def wpAnyS (P:Program) (ops:Array Oper) (Q:Exit->Act->World->Prop) (bar:Nat) (S:Bool->World->Prop):Nat->Array Bool->Act->World->Prop
 | 0,listed,a,w=>Region.ready .any ops listed=[]/\Q .normal a w
 | fuel+1,listed,a,w=>
  (Region.ready .any ops listed=[]->Q .normal a w)/\
  ∀i∈Region.ready .any ops listed,wpOp P ops Q i (fun a' w'=>S ((listed.setIfInBounds i true).getD bar false) w'/\wpAnyS P ops Q bar S fuel (listed.setIfInBounds i true) a' w') a w
section anyS
variable {P:Program} {ops:Array Oper} {Q:Exit->Act->World->Prop} {bar:Nat} {S:Bool->World->Prop}
theorem wpAny_of_S:∀(fuel:Nat) (listed:Array Bool) (a:Act) (w:World),wpAnyS P ops Q bar S fuel listed a w->wpAny P .any ops Q fuel listed a w
 | 0,_,_,_,h=>h
 | fuel+1,_,_,_,h=>⟨h.1,fun i hi=>wpOp_mono (fun a' w' h'=>wpAny_of_S fuel _ a' w' h'.2) (h.2 i hi)⟩
theorem flag_ne {listed:Array Bool} {i:Nat} (h:i≠bar):(listed.setIfInBounds i true).getD bar false=listed.getD bar false:=getD_set_ne false h
theorem wpAnyS_first {i:Nat} {oi:Oper} {v:Value} (hi:ops[i]? = some oi) (hsel:∀(j:Nat) (o:Oper) cs b,ops[j]? = some o->o.op≠.select cs b) (hib:i≠bar)
  (hQ:∀c a w,Q (.panic c) (a.put oi.dst v) w->Q (.panic c) a w) :
  ∀(fuel:Nat) (listed:Array Bool) (a:Act) (w:World),
   (∀j oj,ops[j]? = some oj->j≠i->listed.getD j true=false->(∀e∈oj.after,Region.binds .any e=true->e.on≠i)->oi.apart ops oj=true)->
   i∈Region.ready .any ops listed->YieldsIf P ops (fun w=>S (listed.getD bar false) w\/(Region.waitsFor .any ops bar i=false/\S true w)) oi v a->S (listed.getD bar false) w->
   wpAnyS P ops Q bar S fuel (listed.setIfInBounds i true) (a.put oi.dst v) w->wpAnyS P ops Q bar S (fuel+1) listed a w:=by
 intro fuel;induction fuel with
 | zero=>
  intro listed a w _ hr hy hS H;refine ⟨fun h=>(by rw [h] at hr;cases hr),fun j hj=>?_⟩;by_cases hji:j=i
  ·subst hji;exact hy.wpOp hi (.inl hS) ⟨by rw [flag_ne hib];exact hS,H⟩
  ·have:=ready_mono hj hji;rw [H.1] at this;cases this
 | succ fuel ih=>
  intro listed a w hfree hr hy hS H;refine ⟨fun h=>(by rw [h] at hr;cases hr),fun j hj=>?_⟩;by_cases hji:j=i
  ·subst hji;exact hy.wpOp hi (.inl hS) ⟨by rw [flag_ne hib];exact hS,H⟩
  ·have h1:=H.2 j (ready_mono hj hji);obtain ⟨hjun,oj,hoj,hall⟩:=mem_ready.1 hj;have hnot:∀e∈oj.after,Region.binds .any e=true->e.on≠i:=fun e he hb heq=>by
    have h1:=hall e he hb;have h0:=(mem_ready.1 hr).1;rw [heq] at h1;rcases Nat.lt_or_ge i listed.size with h' | h'
    ·simp [h'] at h0 h1;rw [h0] at h1;cases h1
    ·simp [Array.getElem?_eq_none h'] at h1
   have h2:=wpOp_putIf hoj (hfree j oj hoj hji hjun hnot) (fun cs b=>hsel i oi cs b hi) (fun cs b=>hsel j oj cs b hoj) hQ hy h1;have hfree':∀k ok,ops[k]? = some ok->k≠i->(listed.setIfInBounds j true).getD k true=false->
     (∀e∈ok.after,Region.binds .any e=true->e.on≠i)->oi.apart ops ok=true:=fun k ok hk hki hun hno=>by
    refine hfree k ok hk hki ?_ hno;by_cases hjk:j=k
    ·subst hjk;exact hjun
    ·rw [getD_set_ne true hjk] at hun;exact hun
   have hcomm:((listed.setIfInBounds i true).setIfInBounds j true).getD bar false=(listed.setIfInBounds j true).getD bar false:=by
    rw [Array.setIfInBounds_comm _ _ (Ne.symm hji)];exact flag_ne hib
   have hlower:∀w,(S ((listed.setIfInBounds j true).getD bar false) w\/(Region.waitsFor .any ops bar i=false/\S true w))->(S (listed.getD bar false) w\/(Region.waitsFor .any ops bar i=false/\S true w)):=fun w hw=>by
    rcases hw with hw | hw
    ·by_cases hjb:j=bar
     ·subst hjb;have hwf:Region.waitsFor .any ops j i=false:=by
       cases hq:Region.waitsFor .any ops j i with
       | false=>rfl
       | true=>
        obtain ⟨o',ho',e,he,hb,heo⟩:=Region.waitsFor_spec hq;rw [hoj] at ho';injection ho' with ho';subst ho';exact absurd heo (hnot e he hb)
      refine .inr ⟨hwf,?_⟩;have:(listed.setIfInBounds j true).getD j false=true\/(listed.setIfInBounds j true).getD j false=listed.getD j false:=by
       by_cases hlt:j<listed.size
       ·left;simp [hlt]
       ·right;simp [hlt]
      rcases this with h' | h'
      ·rw [h'] at hw;exact hw
      ·have hl:¬j<listed.size:=fun hlt=>by simp [hlt] at hjun;simp [hlt,hjun] at h'
       simp [Array.getElem?_eq_none (Nat.le_of_not_lt hl)] at hjun
     ·rw [flag_ne hjb] at hw;exact .inl hw
    ·exact .inr hw
   refine wpOp_mono (fun a' w' h3=>?_) h2;obtain ⟨hy',hS',hrest⟩:=h3;rw [hcomm] at hS';refine ⟨hS',ih (listed.setIfInBounds j true) a' w' hfree' (ready_mono hr (Ne.symm hji)) ?_ hS' ?_⟩
   ·exact hy'.imp (fun ⟨q1,q2⟩=>⟨q1,fun w hw=>q2 w (hlower w hw)⟩) id
   ·rw [Array.setIfInBounds_comm _ _ hji];exact hrest
end anyS
def HA (P:Program) (n:Nat) (ops:Array Oper) (bar:Nat) (S:Bool->Heap->Prop) (K:Slots->Heap->Prop) (fuel:Nat) (listed:Array Bool) (s:Slots) (h:Heap):Prop:=
 ∀E a w,Rel E.ds n s a->At E h w->wpAnyS P ops (Lift E n (nrm K)) bar (fun fl w'=>S fl w'.heap) fuel listed a w
section any
variable {P:Program} {n:Nat} {ops:Array Oper} {o:Oper} {bar:Nat} {S:Bool->Heap->Prop} {K:Slots->Heap->Prop} {fuel:Nat} {listed:Array Bool} {s:Slots} {h:Heap}
theorem HA.done (hr:Region.ready .any ops listed=[]) (hk:K s h):HA P n ops bar S K fuel listed s h:=
 fun _ _ _ r at'=>match fuel with
  | 0=>⟨hr,⟨s,h,r,at',hk⟩⟩
  | _+1=>⟨fun _=>⟨s,h,r,at',hk⟩,by rw [hr];simp⟩
theorem noPanic {E:Env} {K:Slots->Heap->Prop} {v:Value} {dst:Option Tmp} : ∀c a w,Lift E n (nrm K) (.panic c) (a.put dst v) w->Lift E n (nrm K) (.panic c) a w:=
 fun _ _ _ ⟨_,_,_,_,q⟩=>q.elim
theorem HA.take (i:Nat) {v:Value} (hi:ops[i]? = some o) (hs:Region.noSelect ops=true) (hf:Region.free .any ops listed i=true) (hr:(Region.ready .any ops listed).contains i=true) (hib:Nat.beq i bar=false)
  (hw:wants ops o s=true) (d:Nat) (hd:o.dst=some d) (hn:Nat.blt d n=true) (hS:S (listed.getD bar false) h) (hv:∀h',(S (listed.getD bar false) h'\/(Region.waitsFor .any ops bar i=false/\S true h'))->OpV P o s h' v)
  (hk:HA P n ops bar S K fuel (listed.setIfInBounds i true) (upd s d v) h):HA P n ops bar S K (fuel+1) listed s h:=by
 intro E a w r at';refine wpAnyS_first hi (Region.noSelect_spec hs) (fun e=>by subst e;simp at hib) noPanic _ _ _ _ (Region.free_spec hi hf) (by simpa using hr) (.inl ⟨by rw [r.wanted,hw],fun w' hw'=>by rw [r.eval'];exact hv _ hw' w' rfl⟩) (by rw [at'.heap];exact hS) ?_;rw [hd];exact hk E _ w (r.put v hn) at'
theorem HA.p (i:Nat) {v:Value} (hi:ops[i]? = some o) (hs:Region.noSelect ops=true) (hf:Region.free .any ops listed i=true) (hr:(Region.ready .any ops listed).contains i=true) (hib:Nat.beq i bar=false)
  (hw:wants ops o s=true) (d:Nat) (hd:o.dst=some d) (hn:Nat.blt d n=true) {fl:Bool} (hfl:listed.getD bar false=fl) (hS:S fl h) (hv:∀h',OpV P o s h' v)
  (hk:HA P n ops bar S K fuel (listed.setIfInBounds i true) (upd s d v) h):HA P n ops bar S K (fuel+1) listed s h:=
 HA.take i hi hs hf hr hib hw d hd hn (by rw [hfl];exact hS) (fun h' _=>hv h') hk
theorem HA.v (i:Nat) {v:Value} (hi:ops[i]? = some o) (hs:Region.noSelect ops=true) (hf:Region.free .any ops listed i=true) (hr:(Region.ready .any ops listed).contains i=true) (hib:Nat.beq i bar=false)
  (hw:wants ops o s=true) (d:Nat) (hd:o.dst=some d) (hn:Nat.blt d n=true) {fl:Bool} (hfl:listed.getD bar false=fl) (hS:S fl h) (hwt:Region.waitsFor .any ops bar i=true) (hv:∀h',S fl h'->OpV P o s h' v)
  (hk:HA P n ops bar S K fuel (listed.setIfInBounds i true) (upd s d v) h):HA P n ops bar S K (fuel+1) listed s h:=
 HA.take i hi hs hf hr hib hw d hd hn (by rw [hfl];exact hS) (fun h' hh=>hv h' (by rw [hfl,hwt] at hh;rcases hh with hh | ⟨e,_⟩;exact hh;cases e)) hk
theorem HA.w (i:Nat) {v:Value} (hi:ops[i]? = some o) (hs:Region.noSelect ops=true) (hf:Region.free .any ops listed i=true) (hr:(Region.ready .any ops listed).contains i=true) (hib:Nat.beq i bar=false)
  (hw:wants ops o s=true) (d:Nat) (hd:o.dst=some d) (hn:Nat.blt d n=true) {fl:Bool} (hfl:listed.getD bar false=fl) (hS:S fl h) (hv:∀fl h',S fl h'->OpV P o s h' v)
  (hk:HA P n ops bar S K fuel (listed.setIfInBounds i true) (upd s d v) h):HA P n ops bar S K (fuel+1) listed s h:=
 HA.take i hi hs hf hr hib hw d hd hn (by rw [hfl];exact hS) (fun h' hh=>by rcases hh with hh | ⟨_,hh⟩<;>exact hv _ h' hh) hk
theorem HA.spl {b:Bool} {d:Nat} (ht:b=true->HA P n ops bar S K fuel listed (upd s d (.bool true)) h) (hf:b=false->HA P n ops bar S K fuel listed (upd s d (.bool false)) h):HA P n ops bar S K fuel listed (upd s d (.bool b)) h:=by
 cases b
 ·exact hf rfl
 ·exact ht rfl
theorem HA.no (i:Nat) (hi:ops[i]? = some o) (hs:Region.noSelect ops=true) (hf:Region.free .any ops listed i=true) (hr:(Region.ready .any ops listed).contains i=true) (hib:Nat.beq i bar=false)
  (hw:wants ops o s=false) (d:Nat) (hd:o.dst=some d) (hn:Nat.blt d n=true) {fl:Bool} (hfl:listed.getD bar false=fl) (hS:S fl h)
  (hk:HA P n ops bar S K fuel (listed.setIfInBounds i true) (upd s d undef) h):HA P n ops bar S K (fuel+1) listed s h:=by
 intro E a w r at';refine wpAnyS_first hi (Region.noSelect_spec hs) (fun e=>by subst e;simp at hib) noPanic (v:=undef) _ _ _ _ (Region.free_spec hi hf) (by simpa using hr) (.inr ⟨by rw [r.wanted,hw],rfl⟩) (by rw [at'.heap,hfl];exact hS) ?_;rw [hd];exact hk E _ w (r.put undef hn) at'
def Up (P:Program) (n:Nat) (ops:Array Oper) (bar:Nat) (S:Bool->Heap->Prop) (K:Slots->Heap->Prop) (fuel:Nat) (listed:Array Bool) (i:Nat) (s:Slots) (h:Heap):Prop:=
 ∀E a w,Rel E.ds n s a->At E h w->wpOp P ops (Lift E n (nrm K)) i (fun a' w'=>S ((listed.setIfInBounds i true).getD bar false) w'.heap/\wpAnyS P ops (Lift E n (nrm K)) bar (fun fl w'=>S fl w'.heap) fuel (listed.setIfInBounds i true) a' w') a w
theorem all_of {E:Env} {a:Act} {w:World} {rs:List Nat} (hr:Region.ready .any ops listed=rs) (hne:rs≠[])
  (hk:∀i∈rs,wpOp P ops (Lift E n (nrm K)) i (fun a' w'=>S ((listed.setIfInBounds i true).getD bar false) w'.heap/\wpAnyS P ops (Lift E n (nrm K)) bar (fun fl w'=>S fl w'.heap) fuel (listed.setIfInBounds i true) a' w') a w) :
  wpAnyS P ops (Lift E n (nrm K)) bar (fun fl w'=>S fl w'.heap) (fuel+1) listed a w:=⟨fun h0=>absurd (hr▸h0) hne,hr▸hk⟩
theorem HA.one (i:Nat) (hr:Region.ready .any ops listed=[i]) (hk:Up P n ops bar S K fuel listed i s h):HA P n ops bar S K (fuel+1) listed s h:=
 fun E a w r at'=>all_of hr (by simp) fun j hj=>by
  rw [qS] at hj;subst hj;exact hk E a w r at'
theorem HA.two (i j:Nat) (hr:Region.ready .any ops listed=[i,j]) (hi:Up P n ops bar S K fuel listed i s h) (hj:Up P n ops bar S K fuel listed j s h):HA P n ops bar S K (fuel+1) listed s h:=
 fun E a w r at'=>all_of hr (by simp) fun k hk=>by
  rcases qK.1 hk with rfl | hk
  ·exact hi E a w r at'
  ·rw [qS] at hk;subst hk;exact hj E a w r at'
theorem Up.step {i:Nat} (hi:ops[i]? = some o) (hw:wants ops o s=true) (hs:∀E a w,Rel E.ds n s a->At E h w->o.wp P a w (fun a' w'=>S ((listed.setIfInBounds i true).getD bar false) w'.heap/\wpAnyS P ops (Lift E n (nrm K)) bar (fun fl w'=>S fl w'.heap) fuel (listed.setIfInBounds i true) a' w') (Lift E n (nrm K))) :
  Up P n ops bar S K fuel listed i s h:=by
 intro E a w r at';unfold wpOp;simp only [hi];rw [r.wanted,hw,if_pos rfl];exact .inl (hs E a w r at')
theorem Up.a {i:Nat} {R:Value->Heap->Prop} (hi:ops[i]? = some o) (hw:wants ops o s=true) (d:Nat) (hd:o.dst=some d) (hn:Nat.blt d n=true) (hv:OpA P o s h R) {fl:Bool} (hfl:(listed.setIfInBounds i true).getD bar false=fl)
  (hk:∀v h',R v h'->S fl h'/\HA P n ops bar S K fuel (listed.setIfInBounds i true) (upd s d v) h'):Up P n ops bar S K fuel listed i s h:=
 Up.step hi hw fun E a w r at'=>by
  obtain ⟨v,h',w',hR,at2,hr⟩:=hv E w at';unfold Oper.wp;rw [r.eval',hr];simp only [Oper.upon,hd,hfl];obtain ⟨k1,k2⟩:=hk v h' hR;exact ⟨by rw [at2.heap];exact k1,k2 E _ w' (r.put v hn) at2⟩
theorem Up.c {i:Nat} {f:FuncId} {args:Array Value} {R:Value->Heap->Prop} (hi:ops[i]? = some o) (hw:wants ops o s=true) (d:Nat) (hd:o.dst=some d) (hn:Nat.blt d n=true) (hv:OpC P o s h f args)
  (hc:HC P f args h R) {fl:Bool} (hfl:(listed.setIfInBounds i true).getD bar false=fl) (hk:∀v h',R v h'->S fl h'/\HA P n ops bar S K fuel (listed.setIfInBounds i true) (upd s d v) h'):Up P n ops bar S K fuel listed i s h:=
 Up.step hi hw fun E a w r at'=>by
  unfold Oper.wp;rw [r.eval',hv w at'.heap hc.1];simp only [Oper.upon];refine (hc.2 E w at').mono ?_;rintro e w' ⟨v,h',rfl,at2,hR⟩;simp only [hd,hfl];obtain ⟨k1,k2⟩:=hk v h' hR;exact ⟨by rw [at2.heap];exact k1,k2 E _ w' (r.put v hn) at2⟩
end any
theorem HW.any {ro:Option Nat} {P:Program} {n id:Nat} {l:List Oper} {Q:Exit->Slots->Heap->Prop} {s:Slots} {h:Heap} (bar:Nat) (S:Bool->Heap->Prop) (hm:P.follows .mixedOrders=true)
  (hk:HA P n l.toArray bar S (fun s h=>Q .normal s h) l.length (Array.replicate l.length false) s h) (hnd:ndr ro l=true:=by exact rfl):HW ro P n (.region id l.toArray true) Q s h:=by
 intro E a w r at';have hw:=hk E a { w with drawn:=w.drawn+1 } r ⟨at'.heap,at'.os,at'.tape,at'.output⟩;exact wpIn_mono (region_any hm not_lets (by simpa using sem_fc hnd) (wpAny_of_S _ _ _ _ (by simpa using hw))) fun _ _ _=>nrm_lift
@[reducible] def lst:List Value->Slots
 | [],_=>undef
 | v::_,0=>v
 | _::l,i+1=>lst l i
theorem lst_getD:∀(l:List Value) (i:Nat),l.getD i undef=lst l i
 | [],_=>rfl
 | _::_,0=>rfl
 | _::l,i+1=>by simpa using lst_getD l i
def Res (P:Program) (fn:Func) (s:Slots) (h:Heap) (v:Value):Prop:=
 ∀(tmps:Array Value) (w:World),(∀i,tmps.getD i undef=s i)->w.heap=h->(results fn tmps).run P w=.ok v w
def fin (P:Program) (fn:Func) (R:Value->Heap->Prop):Exit->Slots->Heap->Prop
 | .normal,s,h | .ret,s,h=>∃v,Res P fn s h v/\R v h
 | _,_,_=>False
theorem wp_body {P:Program} {fn:Func} {c:Code} {args:List Value} {h:Heap} {R:Value->Heap->Prop} (n:Nat) (hn:fn.ntmps=n) (hsz:Nat.ble args.length n=true) (hc:HW none P n c (fin P fn R) (lst args) h) {E:Env} {w:World} (at':At E h w) :
  c.wp P (bodyPost P fn fun e w'=>∃v h',e=.returned v/\At E h' w'/\R v h') { tmps:=args.toArray++Array.replicate (fn.ntmps-args.toArray.size) undef,defers:=[] } w:=by
 have hsz:=Nat.le_of_ble_eq_true hsz;subst hn;refine wp_mono (wpIn_wide.1 (hc { E with ds:=[] } _ w ⟨by simp;omega,fun i=>?_,rfl⟩ ⟨at'.heap,at'.os,at'.tape,at'.output⟩)) ?_
 ·rw [<-lst_getD];simp only [Array.getD_eq_getD_getElem?,Array.getElem?_append,List.getD_eq_getElem?_getD];by_cases hi:i<args.length
  ·simp [hi]
  ·simp only [kF,hi,if_false];rw [List.getElem?_eq_none (by omega)];by_cases hj:i-args.length<fn.ntmps-args.length
   ·rw [Array.getElem?_replicate,if_pos hj];rfl
   ·rw [Array.getElem?_replicate,if_neg hj]
 ·rintro e a' w' ⟨s',h',r',at2,q⟩;have at3:At E h' w':=⟨at2.heap,at2.os,at2.tape,at2.output⟩;cases e with
  | normal=>obtain ⟨v,hv,hR⟩:=q;exact ⟨r'.defers,v,hv _ _ r'.get at2.heap,v,h',rfl,at3,hR⟩
  | ret=>obtain ⟨v,hv,hR⟩:=q;exact ⟨r'.defers,v,hv _ _ r'.get at2.heap,v,h',rfl,at3,hR⟩
  | exit id=>exact q.elim
  | goto l=>exact q.elim
  | panic c=>exact q.elim
  | outgrown=>exact q.elim
theorem HC.body {P:Program} {f:FuncId} {fn:Func} {c:Code} {args:List Value} {h:Heap} {R:Value->Heap->Prop} (hf:P.funcs[f]? = some fn) (hb:fn.body=some c)
  (hname : (fn.name == "runtime.NumGoroutine") = false) (n : Nat) (hn : fn.ntmps = n) (hsz : Nat.ble args.length n = true) (hc : HW none P n c (fin P fn R) (lst args) h) : HC P f args.toArray h R :=
 ⟨⟨fn,hf,hname,by simp [hb]⟩,fun _ _ at'=>calls_of_wp hf hb (wp_body n hn hsz hc at')⟩
def LoadIs (P:Program) (h:Heap) (t:TypeId) (ad:Addr) (v:Value):Prop:=∀w:World,w.heap=h->(loadVar t ad).run P w=.ok v w
section res
variable {P:Program} {fn:Func} {s:Slots} {h:Heap}
theorem Res.none (hr:fn.results = #[]):Res P fn s h (.tuple #[]):=fun tmps w _ _=>by simp [results,hr]
theorem Res.one {t:Tmp} {v:Value} (hr:fn.results = #[.tmp t]) (hv:s t=v):Res P fn s h v:=fun tmps w hg _=>by
 have:=hg t;simp [results,hr];simp [hv] at this;exact this
theorem Res.two {t u:Tmp} {v1 v2:Value} (hr:fn.results = #[.tmp t,.tmp u]) (hv1:s t=v1) (hv2:s u=v2):Res P fn s h (.tuple #[v1,v2]):=fun tmps w hg _=>by
 have h1:=hg t;have h2:=hg u;simp [results,hr];simp at h1 h2;simp [h1,h2,hv1,hv2]
theorem Res.three {t u x:Tmp} {v1 v2 v3:Value} (hr:fn.results = #[.tmp t,.tmp u,.tmp x]) (hv1:s t=v1) (hv2:s u=v2) (hv3:s x=v3):Res P fn s h (.tuple #[v1,v2,v3]):=fun tmps w hg _=>by
 have h1:=hg t;have h2:=hg u;have h3:=hg x;simp [results,hr];simp at h1 h2 h3;simp [h1,h2,h3,hv1,hv2,hv3]
def ResVs (P:Program) (s:Slots) (h:Heap):List ResultVar->List Value->Prop
 | [],[]=>True
 | .tmp t::rs,v::vs=>s t=v/\ResVs P s h rs vs
 | .cell a t::rs,v::vs=>(∃ad,s a=.pointer (some ad)/\LoadIs P h t ad v)/\ResVs P s h rs vs
 | _,_=>False
def tup:List Value->Value
 | [v]=>v
 | vs=>.tuple vs.toArray
def resF (tmps:Array Value) (x:ResultVar):Sem Value:=
 match x with
 | .tmp t=>pure (tmps.getD t undef)
 | .cell a t=>do loadVar t (<-asAddr (tmps.getD a undef))
theorem run_results {tmps:Array Value} {w:World} (hg:∀i,tmps.getD i undef=s i) (hw:w.heap=h):∀ {rs:List ResultVar} {vs:List Value},ResVs P s h rs vs->
  (rs.mapM (resF tmps)).run P w=.ok vs w
 | [],[],_=>by simp
 | .tmp t::rs,v::vs,hr=>by
  have ih:=run_results hg hw hr.2;have e:(resF tmps (.tmp t)).run P w=.ok v w:=by
   unfold resF;dsimp only;rw [hg t,hr.1];rfl
  simp only [List.mapM_cons,Sem.run_bind,Sem.run_pure,Result.andThen_ok,e,ih]
 | .cell a t::rs,v::vs,hr=>by
  obtain ⟨⟨ad,h1,h2⟩,h3⟩:=hr;have ih:=run_results hg hw h3;have e:(resF tmps (.cell a t)).run P w=.ok v w:=by
   unfold resF;dsimp only;rw [hg a,h1];simp [asAddr,h2 w hw]
  simp only [List.mapM_cons,Sem.run_bind,Sem.run_pure,Result.andThen_ok,e,ih]
theorem Res.many {rs:List ResultVar} {vs:List Value} {v:Value} (hr:fn.results=rs.toArray) (hv:ResVs P s h rs vs) (ht:tup vs=v):Res P fn s h v:=fun tmps w hg hw=>by
 have hrun:=run_results hg hw hv;subst ht;have hd:results fn tmps=(do let vs <-rs.toArray.mapM (resF tmps);pure (if h:vs.size=1 then vs[0] else .tuple vs)):=by unfold results;rw [hr];rfl
 rw [hd,List.mapM_toArray];simp only [Sem.run_bind,Sem.run_map,hrun,Result.andThen_ok,Sem.run_pure];cases vs with
 | nil=>rfl
 | cons x l=>cases l<;>rfl
end res
open Go
def agB (P:Program) (t:TypeId):Option Bool:=(P.underlying t).map fun | .struct _=>true | .array _ _=>true | _=>false
def szB (P:Program) (t:TypeId):Option Nat:=(P.info? t).map (·.size)
def byB (P:Program) (t:TypeId):Option Nat:=(P.info? t).map (·.bytes)
def zrB (P:Program) (t:TypeId):Option Value:=(P.info? t).bind (·.zero)
def elB (P:Program) (t:TypeId):Option TypeId:=match P.underlying t with | some (.slice e)=>some e | _=>none
def arB (P:Program) (t:TypeId):Option (Nat × TypeId):=match P.underlying t with | some (.array n e)=>some (n,e) | _=>none
def mpB (P:Program) (t:TypeId):Option (TypeId × TypeId):=match P.underlying t with | some (.map k e)=>some (k,e) | _=>none
def ptB (P:Program) (t:TypeId):Option TypeId:=match P.underlying t with | some (.pointer e)=>some e | _=>none
def inB (P:Program) (t:TypeId):Option IntKind:=match P.underlying t with | some (.int k)=>some k | _=>none
def stB (P:Program) (t:TypeId):Bool:=match P.underlying t with | some .string=>true | _=>false
def boB (P:Program) (t:TypeId):Bool:=match P.underlying t with | some .bool=>true | _=>false
def fdB (P:Program) (t:TypeId) (f:Nat):Option (Nat × TypeId × Nat):=match P.underlying t with
 | some (.struct fs)=>(fs[f]?).bind fun x=>(P.info? x.type).map fun i=>(x.offset,x.type,i.size)
 | _=>none
theorem elB_iff {P:Program} {t e:TypeId} (h:elB P t=some e):P.underlying t=some (.slice e):=by
 unfold elB at h;split at h<;>simp_all
theorem arB_iff {P:Program} {t e:TypeId} {n:Nat} (h:arB P t=some (n,e)):P.underlying t=some (.array n e):=by
 unfold arB at h;split at h<;>simp_all
theorem mpB_iff {P:Program} {t k e:TypeId} (h:mpB P t=some (k,e)):P.underlying t=some (.map k e):=by
 unfold mpB at h;split at h<;>simp_all
theorem ptB_iff {P:Program} {t e:TypeId} (h:ptB P t=some e):P.underlying t=some (.pointer e):=by
 unfold ptB at h;split at h<;>simp_all
theorem inB_iff {P:Program} {t:TypeId} {k:IntKind} (h:inB P t=some k):P.underlying t=some (.int k):=by
 unfold inB at h;split at h<;>simp_all
theorem stB_iff {P:Program} {t:TypeId} (h:stB P t=true):P.underlying t=some .string:=by
 unfold stB at h;split at h<;>simp_all
theorem boB_iff {P:Program} {t:TypeId} (h:boB P t=true):P.underlying t=some .bool:=by
 unfold boB at h;split at h<;>simp_all
theorem szB_iff {P:Program} {t:TypeId} {k:Nat} (h:szB P t=some k):∃i,P.info? t=some i/\i.size=k:=by
 unfold szB at h;cases hi:P.info? t<;>simp_all
theorem byB_iff {P:Program} {t:TypeId} {k:Nat} (h:byB P t=some k):∃i,P.info? t=some i/\i.bytes=k:=by
 unfold byB at h;cases hi:P.info? t<;>simp_all
theorem zrB_iff {P:Program} {t:TypeId} {v:Value} (h:zrB P t=some v):∃i,P.info? t=some i/\i.zero=some v:=by
 unfold zrB at h;cases hi:P.info? t<;>simp_all
theorem fdB_iff {P:Program} {t ft:TypeId} {f off k:Nat} (h:fdB P t f=some (off,ft,k)):∃fs fd i,P.underlying t=some (.struct fs)/\fs[f]? = some fd/\fd.offset=off/\fd.type=ft/\P.info? ft=some i/\i.size=k:=by
 unfold fdB at h;split at h
 ·rename_i fs hu;cases hf:fs[f]? with
  | none=>simp [hf] at h
  | some fd=>
   simp only [hf,Option.bind_some] at h;cases hi:P.info? fd.type with
   | none=>simp [hi] at h
   | some i=>simp [hi] at h;obtain ⟨rfl,rfl,rfl⟩:=h;exact ⟨fs,fd,i,hu,hf,rfl,rfl,hi,rfl⟩
 ·cases h
theorem run_szB {P:Program} {t:TypeId} {k:Nat} (h:szB P t=some k) (w:World):(sizeOf t).run P w=.ok k w:=by
 obtain ⟨i,hi,rfl⟩:=szB_iff h;simp [sizeOf,typeInfo,hi]
theorem run_und {P:Program} {t:TypeId} {d:TypeDesc} (h:P.underlying t=some d) (w:World):(underlying t).run P w=.ok d w:=run_underlying h w
theorem run_zrB {P:Program} {t:TypeId} {v:Value} (h:zrB P t=some v) (w:World):(zeroValue t).run P w=.ok v w:=by
 obtain ⟨i,hi,hz⟩:=zrB_iff h;simp [zeroValue,typeInfo,hi,hz]
theorem run_agB {P:Program} {t:TypeId} {b:Bool} (h:agB P t=some b) (w:World):(isAgg t).run P w=.ok b w:=by
 unfold agB at h;cases hu:P.underlying t with
 | none=>simp [hu] at h
 | some d=>
  simp [hu] at h;subst h;cases d<;>simp [isAgg,run_underlying hu]
def cell (h:Heap) (b o:Nat):Option Value:=match h[b]? with | some (.cells c _ _)=>c[o]? | _=>none
theorem cell?_eq (w:World) (b o:Nat):w.cell? ⟨b,o,none⟩=cell w.heap b o:=by
 unfold World.cell? cell;split<;>simp_all
theorem cell_of {h:Heap} {b:Nat} {cs:Array Value} {t:TypeId} {fz:Nat × Nat} (hb:h[b]? = some (.cells cs t fz)) (o:Nat):cell h b o=cs[o]?:=by simp [cell,hb]
theorem cell_lt {h:Heap} {b o:Nat} {v:Value} (hc:cell h b o=some v):b<h.size:=by
 unfold cell at hc;split at hc
 ·rename_i hb;exact (Array.getElem?_eq_some_iff.1 hb).1
 ·cases hc
theorem cell_block {h h':Heap} {b:Nat} (hb:h'[b]? = h[b]?) (o:Nat):cell h' b o=cell h b o:=by simp [cell,hb]
theorem load_one {P:Program} {h:Heap} {t:TypeId} {b o:Nat} {v:Value} (ha:agB P t=some false) (hc:cell h b o=some v):LoadIs P h t ⟨b,o,none⟩ v:=by
 intro w hw;subst hw;have:=cell?_eq w b o;simp [loadVar,run_agB ha,load,Sem.run,this,hc]
theorem load_agg {P:Program} {h:Heap} {t:TypeId} {b o:Nat} (vs:List Value) (ha:agB P t=some true) (hs:szB P t=some vs.length) (hc:∀j v,vs[j]? = some v->cell h b (o+j)=some v) :
  LoadIs P h t ⟨b,o,none⟩ (.agg vs.toArray):=by
 intro w hw;subst hw;have:=run_loadCells_list (P:=P) (w:=w) ⟨b,o,none⟩ vs (fun j v hj=>by rw [Addr.add_lit,cell?_eq];exact hc j v hj);simp [loadVar,run_agB ha,run_szB hs,this]
namespace V
variable {P:Program} {s:Slots} {h:Heap} {d:Option Tmp} {ty:TypeId} {pos:String} {af:Array Edge} {g:Option (Nat × Bool)} {x y c:Operand} {t u:TypeId}
theorem move:OpV P ⟨d,.move x,ty,pos,af,g⟩ s h (ev s x):=fun w _=>by simp [execOp]
theorem assign:OpV P ⟨d,.assign x,ty,pos,af,g⟩ s h (ev s x):=fun w _=>by simp [execOp]
section mv
variable {v:Value}
theorem mvv (hx:ev s x=v):OpV P ⟨d,.move x,ty,pos,af,g⟩ s h v:=hx▸move
theorem asv (hx:ev s x=v):OpV P ⟨d,.assign x,ty,pos,af,g⟩ s h v:=hx▸assign
theorem mvI {k:IntKind} {a:Int} (hx:ev s x=.int k a):OpV P ⟨d,.move x,ty,pos,af,g⟩ s h (.int k a):=mvv hx
theorem mvB {b:Bool} (hx:ev s x=.bool b):OpV P ⟨d,.move x,ty,pos,af,g⟩ s h (.bool b):=mvv hx
theorem mvS {a:Option Addr} {n m:Nat} (hx:ev s x=.slice a n m):OpV P ⟨d,.move x,ty,pos,af,g⟩ s h (.slice a n m):=mvv hx
theorem mvP {a:Option Addr} (hx:ev s x=.pointer a):OpV P ⟨d,.move x,ty,pos,af,g⟩ s h (.pointer a):=mvv hx
theorem mvT {b:ByteArray} (hx:ev s x=.string b):OpV P ⟨d,.move x,ty,pos,af,g⟩ s h (.string b):=mvv hx
theorem mvM {r:Option Nat} (hx:ev s x=.map r):OpV P ⟨d,.move x,ty,pos,af,g⟩ s h (.map r):=mvv hx
theorem mvU {cs:Array Value} (hx:ev s x=.tuple cs):OpV P ⟨d,.move x,ty,pos,af,g⟩ s h (.tuple cs):=mvv hx
theorem asI {k:IntKind} {a:Int} (hx:ev s x=.int k a):OpV P ⟨d,.assign x,ty,pos,af,g⟩ s h (.int k a):=asv hx
theorem asB {b:Bool} (hx:ev s x=.bool b):OpV P ⟨d,.assign x,ty,pos,af,g⟩ s h (.bool b):=asv hx
theorem asS {a:Option Addr} {n m:Nat} (hx:ev s x=.slice a n m):OpV P ⟨d,.assign x,ty,pos,af,g⟩ s h (.slice a n m):=asv hx
theorem asP {a:Option Addr} (hx:ev s x=.pointer a):OpV P ⟨d,.assign x,ty,pos,af,g⟩ s h (.pointer a):=asv hx
theorem asM {r:Option Nat} (hx:ev s x=.map r):OpV P ⟨d,.assign x,ty,pos,af,g⟩ s h (.map r):=asv hx
end mv
theorem pick_t {b:Bool} (hc:ev s c=.bool true) (hx:ev s x=.bool b):OpV P ⟨d,.pick c x y,ty,pos,af,g⟩ s h (.bool b):=fun w _=>by simp [execOp,hc,asBool,hx]
theorem pick_f {b:Bool} (hc:ev s c=.bool false) (hy:ev s y=.bool b):OpV P ⟨d,.pick c x y,ty,pos,af,g⟩ s h (.bool b):=fun w _=>by simp [execOp,hc,asBool,hy]
theorem eqG {op:BinOp} {k:IntKind} {k':IntKind} {a b:Int} {w:World} : (eqGuard op t x y (.int k a) (.int k' b)).run P w=.ok () w:=by
 unfold eqGuard;cases op<;>simp
section ints
variable {k:IntKind} {a b:Int}
theorem add_w (hx:ev s x=.int k a) (hy:ev s y=.int k b):OpV P ⟨d,.binOp .add t x y u,ty,pos,af,g⟩ s h (.int k (k.wrap (a+b))):=fun w _=>by simp [execOp,hx,hy,eqG,binOp,Op.intArith]
theorem sub_w (hx:ev s x=.int k a) (hy:ev s y=.int k b):OpV P ⟨d,.binOp .sub t x y u,ty,pos,af,g⟩ s h (.int k (k.wrap (a-b))):=fun w _=>by simp [execOp,hx,hy,eqG,binOp,Op.intArith]
theorem mul_w (hx:ev s x=.int k a) (hy:ev s y=.int k b):OpV P ⟨d,.binOp .mul t x y u,ty,pos,af,g⟩ s h (.int k (k.wrap (a*b))):=fun w _=>by simp [execOp,hx,hy,eqG,binOp,Op.intArith]
theorem add (hx:ev s x=.int .i64 a) (hy:ev s y=.int .i64 b) (hr : -9223372036854775808<=a+b/\a+b<=9223372036854775807):OpV P ⟨d,.binOp .add t x y u,ty,pos,af,g⟩ s h (.int .i64 (a+b)):=by
 have:=add_w (P:=P) (h:=h) (d:=d) (ty:=ty) (pos:=pos) (af:=af) (g:=g) (t:=t) (u:=u) hx hy;rwa [IntWalk.i64_in _ hr] at this
theorem sub (hx:ev s x=.int .i64 a) (hy:ev s y=.int .i64 b) (hr : -9223372036854775808<=a-b/\a-b<=9223372036854775807):OpV P ⟨d,.binOp .sub t x y u,ty,pos,af,g⟩ s h (.int .i64 (a-b)):=by
 have:=sub_w (P:=P) (h:=h) (d:=d) (ty:=ty) (pos:=pos) (af:=af) (g:=g) (t:=t) (u:=u) hx hy;rwa [IntWalk.i64_in _ hr] at this
theorem mul (hx:ev s x=.int .i64 a) (hy:ev s y=.int .i64 b) (hr : -9223372036854775808<=a*b/\a*b<=9223372036854775807):OpV P ⟨d,.binOp .mul t x y u,ty,pos,af,g⟩ s h (.int .i64 (a*b)):=by
 have:=mul_w (P:=P) (h:=h) (d:=d) (ty:=ty) (pos:=pos) (af:=af) (g:=g) (t:=t) (u:=u) hx hy;rwa [IntWalk.i64_in _ hr] at this
theorem quo (hx:ev s x=.int .i64 a) (hy:ev s y=.int .i64 b) (hr:0<=a/\a<=9223372036854775807/\1<=b):OpV P ⟨d,.binOp .quo t x y u,ty,pos,af,g⟩ s h (.int .i64 (a / b)):=fun w _=>by
 have hb:b≠0:=by omega
 simp [execOp,hx,hy,eqG,binOp,Op.intDiv,hb,IntWalk.i64_quo a b hr]
theorem rem (hx:ev s x=.int k a) (hy:ev s y=.int k b) (hr:0<=a/\1<=b):OpV P ⟨d,.binOp .rem t x y u,ty,pos,af,g⟩ s h (.int k (a%b)):=fun w _=>by
 have hb:b≠0:=by omega
 simp [execOp,hx,hy,eqG,binOp,Op.intDiv,hb,IntWalk.rem_in a b hr.1]
theorem lss {r:Bool} (hx:ev s x=.int k a) (hy:ev s y=.int k b) (hr:decide (a<b)=r):OpV P ⟨d,.binOp .lss t x y u,ty,pos,af,g⟩ s h (.bool r):=fun w _=>by simp [execOp,hx,hy,eqG,binOp,Op.intCmp,<-hr]
theorem leq {r:Bool} (hx:ev s x=.int k a) (hy:ev s y=.int k b) (hr:decide (a<=b)=r):OpV P ⟨d,.binOp .leq t x y u,ty,pos,af,g⟩ s h (.bool r):=fun w _=>by simp [execOp,hx,hy,eqG,binOp,Op.intCmp,<-hr]
theorem gtr {r:Bool} (hx:ev s x=.int k a) (hy:ev s y=.int k b) (hr:decide (b<a)=r):OpV P ⟨d,.binOp .gtr t x y u,ty,pos,af,g⟩ s h (.bool r):=fun w _=>by simp [execOp,hx,hy,eqG,binOp,Op.intCmp,<-hr]
theorem geq {r:Bool} (hx:ev s x=.int k a) (hy:ev s y=.int k b) (hr:decide (b<=a)=r):OpV P ⟨d,.binOp .geq t x y u,ty,pos,af,g⟩ s h (.bool r):=fun w _=>by simp [execOp,hx,hy,eqG,binOp,Op.intCmp,<-hr]
theorem eql {r:Bool} (hx:ev s x=.int k a) (hy:ev s y=.int k b) (hr:decide (a=b)=r):OpV P ⟨d,.binOp .eql t x y u,ty,pos,af,g⟩ s h (.bool r):=fun w _=>by
 simp [execOp,hx,hy,eqG,binOp,Op.intCmp,<-hr];rw [Bool.eq_iff_iff];simp
theorem neq {r:Bool} (hx:ev s x=.int k a) (hy:ev s y=.int k b) (hr:decide (a≠b)=r):OpV P ⟨d,.binOp .neq t x y u,ty,pos,af,g⟩ s h (.bool r):=fun w _=>by
 simp [execOp,hx,hy,eqG,binOp,Op.intCmp,<-hr];rw [Bool.eq_iff_iff];simp
end ints
theorem not {b:Bool} (hx:ev s x=.bool b):OpV P ⟨d,.unOp .not t x,ty,pos,af,g⟩ s h (.bool (!b)):=fun w _=>by simp [execOp,hx,Op.unary]
theorem len {a:Option Addr} {n m:Nat} {e:TypeId} (hx:ev s x=.slice a n m) (ht:elB P t=some e):OpV P ⟨d,.call ⟨.builtin .len,#[x],#[t]⟩,ty,pos,af,g⟩ s h (.int .i64 n):=fun w _=>by
 simp [execOp,resolve,invoke,builtin,hx,Builtin.len_,goInt,run_und (elB_iff ht)]
theorem cap {a:Option Addr} {n m:Nat} {e:TypeId} (hx:ev s x=.slice a n m) (ht:elB P t=some e):OpV P ⟨d,.call ⟨.builtin .cap,#[x],#[t]⟩,ty,pos,af,g⟩ s h (.int .i64 m):=fun w _=>by
 simp [execOp,resolve,invoke,builtin,hx,Builtin.cap_,goInt,run_und (elB_iff ht)]
theorem nilCheck {ad:Addr} (hx:ev s x=.pointer (some ad)):OpV P ⟨d,.nilCheck x,ty,pos,af,g⟩ s h (.pointer (some ad)):=fun w _=>by simp [execOp,hx]
theorem fieldAddr {b o off k:Nat} {ft:TypeId} {f:Nat} (hx:ev s x=.pointer (some ⟨b,o,none⟩)) (hf:fdB P t f=some (off,ft,k+1)):OpV P ⟨d,.fieldAddr t x f,ty,pos,af,g⟩ s h (.pointer (some ⟨b,o+off,none⟩)):=fun w _=>by
 obtain ⟨fs,fd,i,h1,h2,rfl,rfl,h3,h4⟩:=fdB_iff hf;simp [execOp,hx,Instr.fieldAt,run_und h1,h2,Instr.sureAddr,fieldPlace,sizeOf,typeInfo,h3,h4,Addr.add_lit]
theorem indexAddr {b o n m k:Nat} {e:TypeId} {kk:IntKind} {i:Int} (hx:ev s x=.slice (some ⟨b,o,none⟩) n m) (hy:ev s y=.int kk i) (ht:elB P t=some e) (hk:szB P e=some k) (hi:0<=i/\i<n) :
  OpV P ⟨d,.indexAddr t x y,ty,pos,af,g⟩ s h (.pointer (some ⟨b,o+i.toNat*k,none⟩)):=fun w _=>by
 simp [execOp,hx,hy,Instr.indexAt,asIntOf,run_und (elB_iff ht),hi.1,hi.2,run_szB hk,Addr.add_lit]
theorem indexAddr1 {b o n m:Nat} {e:TypeId} {kk:IntKind} {i:Int} (hx:ev s x=.slice (some ⟨b,o,none⟩) n m) (hy:ev s y=.int kk i) (ht:elB P t=some e) (hk:szB P e=some 1) (hi:0<=i/\i<n) :
  OpV P ⟨d,.indexAddr t x y,ty,pos,af,g⟩ s h (.pointer (some ⟨b,o+i.toNat,none⟩)):=by
 have:=indexAddr (P:=P) (h:=h) (d:=d) (ty:=ty) (pos:=pos) (af:=af) (g:=g) hx hy ht hk hi;rwa [Nat.mul_one] at this
theorem load {b o:Nat} {v:Value} (hx:ev s x=.pointer (some ⟨b,o,none⟩)) (hl:LoadIs P h t ⟨b,o,none⟩ v):OpV P ⟨d,.load t x,ty,pos,af,g⟩ s h v:=fun w hw=>by
 simp [execOp,hx,Instr.loadAt,Instr.sureAddr,hl w hw]
theorem extract {vs:Array Value} {i:Nat} {v:Value} (hx:ev s x=.tuple vs) (hv:vs[i]? = some v):OpV P ⟨d,.extract x i,ty,pos,af,g⟩ s h v:=fun w _=>by
 simp [execOp,hx,Instr.extract,hv]
end V
theorem OpC.func {P:Program} {s:Slots} {h:Heap} {d:Option Tmp} {ty:TypeId} {pos:String} {af:Array Edge} {g:Option (Nat × Bool)} {f:FuncId} {l:List Operand} {ts:Array TypeId} :
  OpC P ⟨d,.call ⟨.value (.func f),l.toArray,ts⟩,ty,pos,af,g⟩ s h f (l.map (ev s)).toArray:=fun w _ hc=>by
 obtain ⟨fn,h1,h2,h3⟩:=hc;have h2' : ¬ fn.name = "runtime.NumGoroutine" := by simpa using h2
 have h3':¬fn.body=none:=by intro e;simp [e] at h3
 simp [execOp,resolve,Deferred.ofValue,invoke,callFunc,h1,h2',h3']
open Go
def Row (h:Heap) (k:Nat) (a:Option Addr) (n:Nat) (xs:List Value):Prop:=
 xs.length=n*k/\(0<n->∃b o,a=some ⟨b,o,none⟩/\∀i x,xs[i]? = some x->cell h b (o+i)=some x)
def blk (v:Value) (b:Nat):Prop:=∃o n c,v=.slice (some ⟨b,o,none⟩) n c/\0<n
def Sl (h:Heap) (k:Nat) (v:Value) (xs:List Value):Prop:=∃a n c,v=.slice a n c/\n<=c/\c<=9223372036854775807/\Row h k a n xs
def bv (x:UInt8):Value:=.int .u8 x.toNat
def iv (x:Int):Value:=.int .i64 x
def Bytes (h:Heap) (v:Value) (l:List UInt8):Prop:=Sl h 1 v (l.map bv)
def Ints (h:Heap) (v:Value) (l:List Int):Prop:=Sl h 1 v (l.map iv)
theorem Row.len {h:Heap} {a:Option Addr} {n:Nat} {xs:List Value} (r:Row h 1 a n xs):xs.length=n:=by simpa using r.1
theorem Row.pos {h:Heap} {k:Nat} {a:Option Addr} {n:Nat} {xs:List Value} (r:Row h k a n xs) (hn:0<n):∃b o,a=some ⟨b,o,none⟩/\∀i x,xs[i]? = some x->cell h b (o+i)=some x:=r.2 hn
structure Chg (F:Nat->Prop) (h h':Heap):Prop where
 size:h.size<=h'.size
 same:∀b,b<h.size->¬F b->h'[b]? = h[b]?
def none_:Nat->Prop:=fun _=>False
abbrev Ext (h h':Heap):Prop:=Chg none_ h h'
theorem Chg.refl (F:Nat->Prop) (h:Heap):Chg F h h:=⟨qR _,fun _ _ _=>rfl⟩
theorem Chg.trans {F:Nat->Prop} {a b c:Heap} (x:Chg F a b) (y:Chg F b c):Chg F a c:=
 ⟨kN x.size y.size,fun k hk hf=>(y.same k (kP hk x.size) hf).trans (x.same k hk hf)⟩
theorem Chg.trans' {F G:Nat->Prop} {a b c:Heap} (x:Chg F a b) (y:Chg G b c) (hg:∀k,k<a.size->G k->F k):Chg F a c:=
 ⟨kN x.size y.size,fun k hk hf=>(y.same k (kP hk x.size) (fun g=>hf (hg k hk g))).trans (x.same k hk hf)⟩
theorem Chg.mono {F G:Nat->Prop} {a b:Heap} (x:Chg F a b) (hg:∀k,k<a.size->F k->G k):Chg G a b:=⟨x.size,fun k hk hf=>x.same k hk (fun f=>hf (hg k hk f))⟩
theorem Ext.to {F:Nat->Prop} {a b:Heap} (x:Ext a b):Chg F a b:=x.mono fun _ _ f=>f.elim
theorem Ext.refl (h:Heap):Ext h h:=Chg.refl _ h
theorem Ext.push (h:Heap) (o:Obj):Ext h (h.push o):=⟨by simp,fun b hb _=>by rw [Array.getElem?_push,if_neg (by omega)]⟩
theorem Chg.cell {F:Nat->Prop} {h h':Heap} (x:Chg F h h') {b o:Nat} {v:Value} (hc:cell h b o=some v) (hf:¬F b):cell h' b o=some v:=by
 rw [cell_block (x.same b (cell_lt hc) hf)];exact hc
theorem Sl.chg {F:Nat->Prop} {h h':Heap} (x:Chg F h h') {k:Nat} {v:Value} {xs:List Value} (r:Sl h k v xs) (hf:∀b,blk v b->¬F b):Sl h' k v xs:=by
 obtain ⟨a,n,c,rfl,hc,hm,hr⟩:=r;refine ⟨a,n,c,rfl,hc,hm,hr.1,fun hn=>?_⟩;obtain ⟨b,o,rfl,hcell⟩:=hr.2 hn;exact ⟨b,o,rfl,fun i y hy=>x.cell (hcell i y hy) (hf b ⟨o,n,c,rfl,hn⟩)⟩
theorem Sl.nil (h:Heap) (k:Nat):Sl h k (.slice none 0 0) []:=⟨none,0,0,rfl,qR _,by omega,by simp,fun x=>absurd x (by omega)⟩
theorem map_at {α β:Type} {f:α->β} {l:List α} {k:Nat} (h:k<l.length):(l.map f)[k]? = some (f l[k]):=by simp [h]
theorem flat_len {α:Type} {f:α->List Value} {k:Nat} (hf:∀x,(f x).length=k):∀(l:List α),(l.flatMap f).length=l.length*k
 | []=>by simp
 | x::l=>by simp [flat_len hf l,hf x,kV];omega
theorem flat_at {α:Type} {f:α->List Value} {k:Nat} (hf:∀x,(f x).length=k):∀(l:List α) (i j:Nat) (hi:i<l.length),j<k->(l.flatMap f)[i*k+j]? = (f l[i])[j]?
 | x::l,0,j,_,hj=>by simp only [List.flatMap_cons,Nat.zero_mul,Nat.zero_add];rw [List.getElem?_append_left (by rw [hf];exact hj)];rfl
 | x::l,i+1,j,hi,hj=>by
  simp only [List.flatMap_cons];rw [List.getElem?_append_right (by rw [hf,kV];omega),hf];have:(i+1)*k+j-k=i*k+j:=by rw [kV];omega
  rw [this,flat_at hf l i j (by simpa using hi) hj];rfl
theorem cell_at {α:Type} {f:α->List Value} {k:Nat} (hf:∀x,(f x).length=k) {l:List α} {h:Heap} {b o:Nat} (hc:∀i x,(l.flatMap f)[i]? = some x->cell h b (o+i)=some x) {i j:Nat} {v:Value} (hi:i<l.length)
  (hv:(f l[i])[j]? = some v):cell h b (o+i*k+j)=some v:=by
 rw [Nat.add_assoc];refine hc _ _ ?_;rw [flat_at hf l i j hi (by rw [<-hf l[i]];exact (List.getElem?_eq_some_iff.1 hv).1)];exact hv
def All2 {α β:Type} (R:α->β->Prop) (l:List α) (m:List β):Prop:=l.length=m.length/\∀i (h1:i<l.length) (h2:i<m.length),R l[i] m[i]
theorem All2.nil {α β:Type} {R:α->β->Prop} : All2 R [] []:=⟨rfl,fun i h=>absurd h (by simp)⟩
theorem All2.mono {α β:Type} {R R':α->β->Prop} {l:List α} {m:List β} (h:All2 R l m) (hr:∀a b,R a b->R' a b):All2 R' l m:=⟨h.1,fun i h1 h2=>hr _ _ (h.2 i h1 h2)⟩
theorem All2.cons {α β:Type} {R:α->β->Prop} {a:α} {b:β} {l:List α} {m:List β} (h:R a b) (t:All2 R l m):All2 R (a::l) (b::m):=
 ⟨by simp [t.1],fun i h1 h2=>by
  cases i with
  | zero=>exact h
  | succ i=>exact t.2 i (by simpa using h1) (by simpa using h2)⟩
theorem All2.append {α β:Type} {R:α->β->Prop} {l l':List α} {m m':List β} (h:All2 R l m) (t:All2 R l' m'):All2 R (l++l') (m++m'):=
 ⟨by simp [h.1,t.1],fun i h1 h2=>by
  by_cases hi:i<l.length
  ·rw [List.getElem_append_left hi,List.getElem_append_left (h.1▸hi)];exact h.2 i hi (h.1▸hi)
  ·have hi':¬i<m.length:=h.1▸hi;rw [List.getElem_append_right (by omega),List.getElem_append_right (by omega)];have e:=h.1;have:=t.2 (i-l.length) (by simp at h1;omega) (by simp at h2;omega);simp only [e] at this⊢;exact this⟩
theorem take_next {α:Type} {l:List α} {k:Nat} (h:k<l.length):l.take (k+1)=l.take k++[l[k]]:=qG h
theorem cells0 {h:Heap} {b:Nat} {cs:List Value} {t:TypeId} {fz:Nat × Nat} (hb:h[b]? = some (.cells cs.toArray t fz)):∀j v,cs[j]? = some v->cell h b (0+j)=some v:=fun j v hj=>by
 rw [cell_of hb,Nat.zero_add];simpa using hj
def hput (h:Heap) (b:Nat) (cs:Array Value):Heap:=h.modify b fun
 | .cells _ e fz=>.cells cs e fz
 | x=>x
theorem hput_size (h:Heap) (b:Nat) (cs:Array Value):(hput h b cs).size=h.size:=by simp [hput]
theorem hput_same {h:Heap} {b:Nat} {cs cs':Array Value} {e:TypeId} {fz:Nat × Nat} (hb:h[b]? = some (.cells cs e fz)):(hput h b cs')[b]? = some (.cells cs' e fz):=by
 simp [hput,Array.getElem?_modify,hb]
theorem hput_other {h:Heap} {b b':Nat} {cs:Array Value} (hb:b'≠b):(hput h b cs)[b']? = h[b']?:=by
 simp [hput,Array.getElem?_modify,Ne.symm hb]
theorem hput_chg (h:Heap) (b:Nat) (cs:Array Value):Chg (fun x=>x=b) h (hput h b cs):=
 ⟨by rw [hput_size];exact qR _,fun b' _ hf=>hput_other hf⟩
theorem push_same (h:Heap) (o:Obj):(h.push o)[h.size]? = some o:=by simp
theorem push_other {h:Heap} {o:Obj} {b:Nat} {x:Obj} (hb:h[b]? = some x):(h.push o)[b]? = some x:=by
 have:=(Array.getElem?_eq_some_iff.1 hb).1;rw [Array.getElem?_push,if_neg (by omega)];exact hb
theorem block_lt {h:Heap} {b:Nat} {x:Obj} (hb:h[b]? = some x):b<h.size:=(Array.getElem?_eq_some_iff.1 hb).1
theorem Chg.block {F:Nat->Prop} {h h':Heap} (x:Chg F h h') {b:Nat} {o:Obj} (hb:h[b]? = some o) (hf:¬F b):h'[b]? = some o:=(x.same b (block_lt hb) hf).trans hb
theorem At.push {E:Env} {h:Heap} {w:World} (a:At E h w) (o:Obj):At E (h.push o) { w with heap:=w.heap.push o }:=⟨by simp [a.heap],a.os,a.tape,a.output⟩
theorem At.alloc {E:Env} {h:Heap} {w:World} (a:At E h w) (o:Obj):At E (h.push o) (w.alloc o):=a.push o
theorem At.drew {E:Env} {h:Heap} {w:World} (a:At E h w):At E h w.drew:=⟨a.heap,a.os,a.tape,a.output⟩
theorem At.setRow {E:Env} {h:Heap} {w:World} (a:At E h w) (b:Nat) (cs:Array Value):At E (hput h b cs) (w.setRow b cs):=⟨by rw [<-a.heap];rfl,a.os,a.tape,a.output⟩
def spl (cs:List Value) (o:Nat) (vs:List Value):List Value:=cs.take o++vs++cs.drop (o+vs.length)
theorem spl_length {cs vs:List Value} {o:Nat} (h:o+vs.length<=cs.length):(spl cs o vs).length=cs.length:=by simp [spl];omega
theorem spl_lt {cs vs:List Value} {o j:Nat} (hj:j<o) (h:o+vs.length<=cs.length):(spl cs o vs)[j]? = cs[j]?:=by
 unfold spl;rw [qZ,List.getElem?_append_left (by simp;omega),List.getElem?_take,if_pos hj]
theorem spl_mid {cs vs:List Value} {o j:Nat} (hj:j<vs.length) (h:o+vs.length<=cs.length):(spl cs o vs)[o+j]? = vs[j]?:=by
 unfold spl;rw [qZ,List.getElem?_append_right (by simp;omega),List.getElem?_append_left (by simp;omega)];congr 1;simp;omega
theorem spl_gt {cs vs:List Value} {o j:Nat} (hj:o+vs.length<=j) (h:o+vs.length<=cs.length):(spl cs o vs)[j]? = cs[j]?:=by
 unfold spl;rw [List.getElem?_append_right (by simp;omega),List.getElem?_drop];congr 1;simp;omega
theorem setCells_row (b:Nat) (e:TypeId) (fz:Nat × Nat):∀(vs:List Value) (o:Nat) (w:World) (cs:Array Value),w.heap[b]? = some (.cells cs e fz)->o+vs.length<=cs.size->
  w.setCells b o vs=w.setRow b (spl cs.toList o vs).toArray
 | [],o,w,cs,hb,_=>by
  simp only [World.setCells,spl,kX,qB,Nat.add_zero,qT,Array.toArray_toList];exact (setRow_self w b cs e fz hb).symm
 | v::vs,o,w,cs,hb,hl=>by
  simp only [qV] at hl;have hb':(w.setCell ⟨b,o,none⟩ v).heap[b]? = some (.cells (cs.setIfInBounds o v) e fz):=by
   simp [World.setCell,Array.getElem?_modify,hb]
  rw [World.setCells,setCells_row b e fz vs (o+1) _ _ hb' (by simp;omega)];unfold World.setRow World.setCell;simp only [World.mk.injEq,and_true];apply Array.ext_getElem?;intro i;simp only [Array.getElem?_modify];by_cases hi:b=i
  ·subst hi;simp only [if_true,hb,Option.map_some];congr 2;simp only [spl,Array.toList_setIfInBounds,qV];congr 1;have hol:o<cs.toList.length:=by simp;omega
   rw [List.set_eq_take_append_cons_drop,if_pos hol];rw [List.take_append,List.drop_append];have e1:List.take (o+1) (cs.toList.take o)=cs.toList.take o:=by rw [List.take_take];congr 1;omega
   have e2:o+1-(cs.toList.take o).length=1:=by simp;omega
   have e3:List.drop (o+1+vs.length) (cs.toList.take o)=[]:=by rw [List.drop_eq_nil_iff];simp;omega
   have e4:o+1+vs.length-(cs.toList.take o).length=vs.length+1:=by simp;omega
   rw [e1,e2,e3,e4];simp;congr 1;omega
  ·simp [hi]
def fzOk (fz:Nat × Nat) (n:Nat):Prop:=fz.1<=fz.2/\∀j,j<n->¬(fz.1<=j/\j<fz.2)
theorem fzOk_zero (n:Nat):fzOk (0,0) n:=⟨qR _,fun j _ h=>by omega⟩
def Cap (h:Heap) (k:Nat) (e:TypeId) (v:Value) (xs:List Value):Prop:=
 ∃a n c,v=.slice a n c/\n<=c/\c<=9223372036854775807/\xs.length=n*k/\
  ((a=none/\c=0)\/∃b o cs fz,a=some ⟨b,o,none⟩/\h[b]? = some (.cells cs e fz)/\o+c*k<=cs.size/\fzOk fz cs.size/\(cs.toList.drop o).take (n*k)=xs)
def blkC (v:Value) (b:Nat):Prop:=∃o n c,v=.slice (some ⟨b,o,none⟩) n c
theorem Cap.nil (h:Heap) (k:Nat) (e:TypeId):Cap h k e (.slice none 0 0) []:=⟨none,0,0,rfl,qR _,by omega,by simp,.inl ⟨rfl,rfl⟩⟩
theorem Cap.sl {h:Heap} {k:Nat} {e:TypeId} {v:Value} {xs:List Value} (c:Cap h k e v xs):Sl h k v xs:=by
 obtain ⟨a,n,c,rfl,hn,hc,hl,hr⟩:=c;refine ⟨a,n,c,rfl,hn,hc,hl,fun hp=>?_⟩;rcases hr with ⟨rfl,rfl⟩ | ⟨b,o,cs,fz,rfl,hb,hs,hf,hx⟩
 ·omega
 ·refine ⟨b,o,rfl,fun i x hi=>?_⟩;rw [cell_of hb,<-Array.getElem?_toList];rw [<-hx,List.getElem?_take] at hi;split at hi
  ·rwa [List.getElem?_drop] at hi
  ·cases hi
theorem Cap.chg {F:Nat->Prop} {h h':Heap} (x:Chg F h h') {k:Nat} {e:TypeId} {v:Value} {xs:List Value} (c:Cap h k e v xs) (hf:∀b,blkC v b->¬F b):Cap h' k e v xs:=by
 obtain ⟨a,n,c,rfl,hn,hc,hl,hr⟩:=c;refine ⟨a,n,c,rfl,hn,hc,hl,?_⟩;rcases hr with hr | ⟨b,o,cs,fz,rfl,hb,hs,hfz,hx⟩
 ·exact .inl hr
 ·exact .inr ⟨b,o,cs,fz,rfl,x.block hb (hf b ⟨o,n,c,rfl⟩),hs,hfz,hx⟩
theorem Cap.new {h:Heap} {k:Nat} {e:TypeId} {n:Nat} {cs:Array Value} {b:Nat} (hb:h[b]? = some (.cells cs e (0,0))) (hs:cs.size=n*k) (hn:n<=9223372036854775807) :
  Cap h k e (.slice (some ⟨b,0,none⟩) n n) cs.toList:=
 ⟨_,n,n,rfl,qR _,hn,by simpa using hs,.inr ⟨b,0,cs,(0,0),rfl,hb,by omega,fzOk_zero _,by rw [kY];exact qY (by simp [hs])⟩⟩
theorem Cap.le {h:Heap} {k:Nat} {e:TypeId} {a:Option Addr} {n c:Nat} {xs:List Value} (r:Cap h k e (.slice a n c) xs):n<=c:=by
 obtain ⟨a',n',c',hv,hn,_⟩:=r;injection hv with h1 h2 h3;subst h1 h2 h3;exact hn
theorem Cap.bd {h:Heap} {k:Nat} {e:TypeId} {a:Option Addr} {n c:Nat} {xs:List Value} (r:Cap h k e (.slice a n c) xs):c<=9223372036854775807:=by
 obtain ⟨a',n',c',hv,_,hn,_⟩:=r;injection hv with h1 h2 h3;subst h1 h2 h3;exact hn
theorem Cap.blk {h:Heap} {k:Nat} {e:TypeId} {v:Value} {xs:List Value} (c:Cap h k e v xs) {b:Nat} (hb:blkC v b):∃cs fz,h[b]? = some (.cells cs e fz):=by
 obtain ⟨a,n,c,rfl,_,_,_,hr⟩:=c;obtain ⟨o',n',c',hv⟩:=hb;rcases hr with ⟨rfl,_⟩ | ⟨b',o,cs,fz,rfl,hb',_⟩
 ·cases hv
 ·injection hv with h1;injection h1 with h1;injection h1 with h1;subst h1;exact ⟨cs,fz,hb'⟩
theorem Cap.lt {h:Heap} {k:Nat} {e:TypeId} {v:Value} {xs:List Value} (c:Cap h k e v xs) {b:Nat} (hb:blkC v b):b<h.size:=by
 obtain ⟨a,n,c,rfl,_,_,_,hr⟩:=c;obtain ⟨o',n',c',hv⟩:=hb;rcases hr with ⟨rfl,_⟩ | ⟨b',o,cs,fz,rfl,hb',_⟩
 ·cases hv
 ·injection hv with h1;injection h1 with h1;injection h1 with h1;subst h1;exact block_lt hb'
def Shape (h h':Heap):Prop:=∀(b:Nat) (cs:Array Value) (e:TypeId) (fz:Nat × Nat),h[b]? = some (.cells cs e fz)->∃cs',h'[b]? = some (.cells cs' e fz)/\cs'.size=cs.size
theorem Shape.refl (h:Heap):Shape h h:=fun _ cs _ _ hb=>⟨cs,hb,rfl⟩
theorem Shape.ext {h h':Heap} (x:Ext h h'):Shape h h':=fun _ cs _ _ hb=>⟨cs,x.block hb (fun f=>f),rfl⟩
theorem Shape.put {h:Heap} {b:Nat} {cs cs':Array Value} {e:TypeId} {fz:Nat × Nat} (hb:h[b]? = some (.cells cs e fz)) (hs:cs'.size=cs.size):Shape h (hput h b cs'):=fun k ck ek fk hk=>by
 by_cases e:k=b
 ·subst e;rw [hb] at hk;injection hk with hk;injection hk with h1 h2 h3;subst h1 h2 h3;exact ⟨cs',hput_same hb,hs⟩
 ·exact ⟨ck,(hput_other e).trans hk,rfl⟩
theorem Cap.re {h h':Heap} (x:Shape h h') {k:Nat} {e:TypeId} {a:Option Addr} {n c:Nat} {xs:List Value} (r:Cap h k e (.slice a n c) xs) (hc:∀b o j v,a=some ⟨b,o,none⟩->j<n*k->cell h b (o+j)=some v->cell h' b (o+j)=some v):Cap h' k e (.slice a n c) xs:=by
 obtain ⟨a',n',c',hv,hn,hcm,hl,hr⟩:=r;injection hv with h1 h2 h3;subst h1 h2 h3;refine ⟨_,_,_,rfl,hn,hcm,hl,?_⟩;rcases hr with hr | ⟨b,o,cs,fz,rfl,hb,hs,hf,hx⟩
 ·exact .inl hr
 ·obtain ⟨cs',hb',hs'⟩:=x _ _ _ _ hb;refine .inr ⟨b,o,cs',fz,rfl,hb',by omega,by rw [hs'];exact hf,?_⟩;apply List.ext_getElem?;intro j;by_cases hj:j<n*k
  ·have hnk:n*k<=c*k:=qE _ hn;have h1:cell h b (o+j)=some (cs[o+j]'(by omega)):=by rw [cell_of hb];simp
   have h2:=hc b o j _ rfl hj h1;rw [cell_of hb'] at h2;rw [<-hx];rw [List.getElem?_take,if_pos hj,List.getElem?_take,if_pos hj,List.getElem?_drop,List.getElem?_drop,Array.getElem?_toList,Array.getElem?_toList,h2];simp
  ·rw [List.getElem?_take,if_neg hj,List.getElem?_eq_none (by omega)]
structure Appended (h:Heap) (k:Nat) (e:TypeId) (v:Value) (ys:List Value) (v':Value) (h':Heap):Prop where
 cap:Cap h' k e v' ys
 chg:Chg (blkC v) h h'
 kept:∀b off x,cell h b off=some x->(∀o n c,v=.slice (some ⟨b,o,none⟩) n c->off<o+n*k)->cell h' b off=some x
 place:∀b,blkC v' b->blkC v b\/h.size<=b
 shape:Shape h h'
 inplace:∀a n c q,v=.slice a n c->ys.length=q*k->q<=c->v'=.slice a q c
 grown:∀a n c q,v=.slice a n c->ys.length=q*k->c<q->∀b,blkC v' b->h.size<=b
 fz0:∀b,blkC v' b->blkC v b\/∃cs,h'[b]? = some (.cells cs e (0,0))
theorem frozen?_eq {w:World} {b j:Nat} {cs:Array Value} {e:TypeId} {fz:Nat × Nat} (hb:w.heap[b]? = some (.cells cs e fz)) (hf:fzOk fz cs.size) (hj:j<cs.size):w.frozen? ⟨b,j,none⟩=false:=by
 obtain ⟨lo,hi⟩:=fz;simp only [World.frozen?,hb];have:=hf.2 j hj;simp at this⊢;exact this
theorem run_append {P:Program} {t e ty:TypeId} {k bytes:Nat} {z:Value} (ht:elB P t=some e) (hk:szB P e=some k) (hby:byB P e=some bytes) (hz:zrB P e=some z) (hk0:0<k) (hb0:0<bytes) (hzk:z.cells.size=k)
  {h:Heap} {v nv:Value} {xs news:List Value} (hv:Cap h k e v xs) (hn:Sl h k nv news) (h1:∀u∈news,u.oneCell'=true) (hfit:(xs.length+news.length)*bytes<=140737488355328)
  {E:Env} {w:World} (at':At E h w) :
  ∃v' h' w',Appended h k e v (xs++news) v' h'/\At E h' w'/\(Builtin.append_ #[t,t] ty #[v,nv]).run P w=.ok v' w':=by
 obtain ⟨i,hi,hik⟩:=szB_iff hk;have hib:i.bytes=bytes:=by
  obtain ⟨i',hi',e'⟩:=byB_iff hby;rw [hi] at hi';injection hi' with hi';subst hi';exact e'
 have hiz:i.zero=some z:=by
  obtain ⟨i',hi',e'⟩:=zrB_iff hz;rw [hi] at hi';injection hi' with hi';subst hi';exact e'
 have hut:=elB_iff ht;obtain ⟨a,n,c,rfl,hnc,hc,hl,hr⟩:=hv;obtain ⟨a',m,c',rfl,hmc,hc',hl',hr'⟩:=hn;have hnm:(n+m)*bytes<=140737488355328:=by
  refine kN (qE _ ?_) hfit;rw [hl,hl',<-kV];exact Nat.le_mul_of_pos_right _ hk0
 have h63:n+m<=140737488355328:=kN (Nat.le_mul_of_pos_right _ hb0) hnm;have hmax:n+m<=maxLen:=by simp only [maxLen];omega
 by_cases hm0:m=0
 ·
  subst hm0;have hnn:news=[]:=qW (by simpa using hl');subst hnn;refine ⟨.slice a n c,h,w,⟨by rw [kX];exact ⟨a,n,c,rfl,hnc,hc,hl,hr⟩,Chg.refl _ _,fun _ _ _ hx _=>hx,fun b hb=>.inl hb,Shape.refl _,?_,?_,fun b hb=>.inl hb⟩,at',?_⟩
  ·intro a1 n1 c1 q hv hq _;injection hv with h1 h2 h3;subst h1 h2 h3;rw [kX,hl] at hq;rw [kU hk0 hq]
  ·intro a1 n1 c1 q hv hq hc1;injection hv with h1 h2 h3;subst h1 h2 h3;rw [kX,hl] at hq;have:=kU hk0 hq;omega
  have hf:(Builtin.firstCells i.size 0 (.slice a' 0 c')).run P w=.ok #[] w:=by
   cases a'<;>simp [Builtin.firstCells,loadCells,loadCellsFrom]
  cases a with
  | none=>simp [Builtin.append_,run_underlying hut,sizeOf,typeInfo,hi,Builtin.lenOf,hnc,hf]
  | some ad=>simp [Builtin.append_,run_underlying hut,sizeOf,typeInfo,hi,Builtin.lenOf,hnc,hf,storeCells]
 obtain ⟨b',o',rfl,hcell⟩:=hr' (by omega);have hnews:∀j u,news[j]? = some u->w.cell? ((⟨b',o',none⟩:Addr).add j)=some u:=fun j u hj=>by
  rw [Addr.add_lit,cell?_eq,at'.heap];exact hcell j u hj
 have hlm:news.length=m*i.size:=by rw [hl',hik]
 rcases hr with ⟨rfl,rfl⟩ | ⟨b,o,cs,fz,rfl,hb,hs,hf,hx⟩
 ·have hn0:n=0:=by omega
  subst hn0;have hx0:xs=[]:=qW (by simpa using hl);subst hx0;have hrun:=run_append_nil (P:=P) w t ty e i z hut hi hiz ⟨b',o',none⟩ m c' news hlm hnews (by omega) (by omega) (by rw [hib];simp only [Nat.zero_add] at hnm;omega);have hge:=grownCap_ge w m 0 e;have hcm:=grownCap_le_maxLen w m 0 e (by simp only [maxLen];omega);simp only [maxLen] at hcm;refine ⟨_,_,_,⟨?_,?_,?_,?_,?_,?_,?_,?_⟩,(at'.drew).alloc _,hrun⟩
  ·refine ⟨_,m,_,rfl,hge,hcm,by simpa using hl',.inr ⟨w.heap.size,0,news.toArray++Builtin.zeroCells z.cells (grownCap w m 0 e-m),(0,0),rfl,?_,?_,fzOk_zero _,?_⟩⟩
   ·rw [at'.heap];exact push_same _ _
   ·simp only [Array.size_append,kF,size_zeroCells,hzk,hl',<-kV];rw [Nat.zero_add];apply Nat.le_of_eq;congr 1;omega
   ·simp [<-hl']
  ·exact (Ext.push _ _).to
  ·intro bb off x hx _;exact (Ext.push h _).cell hx (fun f=>f)
  ·rintro bb ⟨oo,nn,cc,hv⟩;right;injection hv with h1;injection h1 with h1;injection h1 with h1;rw [<-h1,at'.heap];exact qR _
  ·exact Shape.ext (Ext.push _ _)
  ·intro a1 n1 c1 q hv hq hqc;injection hv with h1 h2 h3;subst h1 h2 h3;have:m*k=q*k:=by rw [<-hq];simp [hl']
   have:=kU hk0 this;omega
  ·rintro a1 n1 c1 q _ _ _ bb ⟨oo,nn,cc,hv⟩;injection hv with h1;injection h1 with h1;injection h1 with h1;rw [<-h1,at'.heap];exact qR _
  ·rintro bb ⟨oo,nn,cc,hv⟩;injection hv with h1;injection h1 with h1;injection h1 with h1;exact .inr ⟨_,by rw [<-h1,at'.heap];exact push_same _ _⟩
 ·by_cases hroom:n+m<=c
  ·have hwb:w.heap[b]? = some (.cells cs e fz):=by rw [at'.heap];exact hb
   have hfit2:o+n*k+news.length<=cs.size:=by
    rw [hl'];have:(n+m)*k<=c*k:=qE _ hroom;rw [kV] at this;omega
   have hrun:=run_append_room_cells (P:=P) w t ty e i hut hi b o n c ⟨b',o',none⟩ m c' news hlm hnews h1 hroom
    (fun j hj=>by rw [hik,cell?_eq,cell_of hwb];simp;omega) (fun j hj=>by rw [hik];exact frozen?_eq hwb hf (by omega))
   rw [hik,setCells_row b e fz news (o+n*k) w cs hwb hfit2] at hrun;refine ⟨_,_,_,⟨?_,?_,?_,?_,?_,?_,?_,fun bb hb=>.inl ?_⟩,at'.setRow _ _,hrun⟩
   ·refine ⟨_,n+m,c,rfl,hroom,hc,by simp [hl,hl',kV],.inr ⟨b,o,(spl cs.toList (o+n*k) news).toArray,fz,rfl,hput_same hb,?_,?_,?_⟩⟩
    ·simp only [kF];rw [spl_length (by simpa using hfit2)];simpa using hs
    ·simp only [kF];rw [spl_length (by simpa using hfit2)];simpa using hf
    ·apply List.ext_getElem?;intro j;rw [List.getElem?_take];split
     ·rename_i hj;rw [List.getElem?_drop];by_cases hjn:j<n*k
      ·rw [spl_lt (by omega) (by simpa using hfit2),List.getElem?_append_left (by omega),<-hx,List.getElem?_take,if_pos hjn,List.getElem?_drop]
      ·have e1:o+j=o+n*k+(j-n*k):=by omega
       rw [e1,spl_mid (by rw [hl'];rw [kV] at hj;omega) (by simpa using hfit2),List.getElem?_append_right (by omega),hl]
     ·rename_i hj;rw [List.getElem?_eq_none];simp [hl,hl'];rw [kV] at hj;omega
   ·exact (hput_chg h b _).mono fun x _ hxb=>by subst hxb;exact ⟨o,n,c,rfl⟩
   ·intro bb off x hx2 hlt;by_cases hbb:bb=b
    ·subst hbb;rw [cell_of hb] at hx2;rw [cell_of (hput_same hb)];have:=hlt o n c rfl;rw [<-Array.getElem?_toList,spl_lt this (by simpa using hfit2),Array.getElem?_toList];exact hx2
    ·rw [cell_block (hput_other hbb)];exact hx2
   ·rintro bb ⟨oo,nn,cc,hv⟩;left;injection hv with h1 h2 h3;injection h1 with h1;injection h1 with h1 h4;subst h1;exact ⟨o,n,c,rfl⟩
   ·exact Shape.put hb (by simp only [kF];rw [spl_length (by simpa using hfit2)];simp)
   ·intro a1 n1 c1 q hv hq _;injection hv with h1 h2 h3;subst h1 h2 h3;have:(n+m)*k=q*k:=by rw [<-hq];simp [hl,hl',kV]
    rw [kU hk0 this]
   ·intro a1 n1 c1 q hv hq hc1;injection hv with h1 h2 h3;subst h1 h2 h3;have:(n+m)*k=q*k:=by rw [<-hq];simp [hl,hl',kV]
    have:=kU hk0 this;omega
   ·obtain ⟨oo,nn,cc,hv⟩:=hb;injection hv with h1 h2 h3;injection h1 with h1;injection h1 with h1 h4;subst h1;exact ⟨o,n,c,rfl⟩
  ·have holds:∀j u,xs[j]? = some u->w.cell? ((⟨b,o,none⟩:Addr).add j)=some u:=fun j u hj=>by
    rw [Addr.add_lit,cell?_eq,at'.heap,cell_of hb,<-Array.getElem?_toList];rw [<-hx,List.getElem?_take] at hj;split at hj
    ·rwa [List.getElem?_drop] at hj
    ·cases hj
   have hrun:=run_append_grow (P:=P) w t ty e i z hut hi hiz ⟨b,o,none⟩ n c xs (by rw [hl,hik]) holds ⟨b',o',none⟩ m c' news hlm hnews (by omega) (by omega) (growslice_fits (by omega) (by rw [hib];exact hnm));have hge:=grownCap_ge w (n+m) c e;have hcm:=grownCap_le_maxLen w (n+m) c e hmax;simp only [maxLen] at hcm;refine ⟨_,_,_,⟨?_,?_,?_,?_,?_,?_,?_,?_⟩,(at'.drew).alloc _,hrun⟩
   ·refine ⟨_,n+m,_,rfl,hge,hcm,by simp [hl,hl',kV],.inr ⟨w.heap.size,0,xs.toArray++news.toArray++Builtin.zeroCells z.cells (grownCap w (n+m) c e-(n+m)),(0,0),rfl,?_,?_,fzOk_zero _,?_⟩⟩
    ·rw [at'.heap];exact push_same _ _
    ·simp only [Array.size_append,kF,size_zeroCells,hzk,hl',hl,<-kV];rw [Nat.zero_add];apply Nat.le_of_eq;congr 1;omega
    ·simp only [kY,Array.toList_append];have:(n+m)*k=(xs++news).length:=by simp [hl,hl',kV]
     rw [this];exact List.take_left
   ·exact (Ext.push _ _).to
   ·intro bb off x hx _;exact (Ext.push h _).cell hx (fun f=>f)
   ·rintro bb ⟨oo,nn,cc,hv⟩;right;injection hv with h1;injection h1 with h1;injection h1 with h1;rw [<-h1,at'.heap];exact qR _
   ·exact Shape.ext (Ext.push _ _)
   ·intro a1 n1 c1 q hv hq hqc;injection hv with h1 h2 h3;subst h1 h2 h3;have:(n+m)*k=q*k:=by rw [<-hq];simp [hl,hl',kV]
    have:=kU hk0 this;omega
   ·rintro a1 n1 c1 q _ _ _ bb ⟨oo,nn,cc,hv⟩;injection hv with h1;injection h1 with h1;injection h1 with h1;rw [<-h1,at'.heap];exact qR _
   ·rintro bb ⟨oo,nn,cc,hv⟩;injection hv with h1;injection h1 with h1;injection h1 with h1;exact .inr ⟨_,by rw [<-h1,at'.heap];exact push_same _ _⟩
abbrev SV:=Option Addr × Nat × Nat
@[reducible] def sv (x:SV):Value:=.slice x.1 x.2.1 x.2.2
theorem Cap.form {h:Heap} {k:Nat} {e:TypeId} {v:Value} {xs:List Value} (c:Cap h k e v xs):∃x:SV,v=sv x:=by
 obtain ⟨a,n,c,rfl,_⟩:=c;exact ⟨(a,n,c),rfl⟩
structure Own (h0 h:Heap) (k:Nat) (e:TypeId) (v:Value) (xs:List Value):Prop where
 cap:Cap h k e v xs
 ext:Ext h0 h
 fresh:∀b,blkC v b->h0.size<=b
theorem Own.nil {h0 h:Heap} (x:Ext h0 h) (k:Nat) (e:TypeId):Own h0 h k e (.slice none 0 0) []:=
 ⟨Cap.nil _ _ _,x,fun b hb=>by obtain ⟨o,n,c,hv⟩:=hb;cases hv⟩
theorem Sl.bd {h:Heap} {k n c:Nat} {a:Option Addr} {xs:List Value} (r:Sl h k (.slice a n c) xs):n<=9223372036854775807:=by
 obtain ⟨a',n',c',hv,h4,h5,hr⟩:=r;injection hv with h1 h2 h3;subst h1 h2 h3;omega
theorem Sl.cells {h:Heap} {k n c:Nat} {a:Option Addr} {xs:List Value} (r:Sl h k (.slice a n c) xs):Row h k a n xs:=by
 obtain ⟨a',n',c',hv,_,_,hr⟩:=r;injection hv with h1 h2 h3;subst h1 h2 h3;exact hr
def cutA (a:Option Addr) (l m k:Nat):Option Addr:=if m=l then a else a.map (·.add (l*k))
theorem cutA_some {b o l m k:Nat} (h:m≠l):cutA (some ⟨b,o,none⟩) l m k=some ⟨b,o+l*k,none⟩:=by
 unfold cutA;rw [if_neg h];simp [Addr.add_lit]
theorem Row.cut {h:Heap} {k:Nat} {a:Option Addr} {n:Nat} {xs:List Value} (r:Row h k a n xs) {l q m:Nat} (hq:l+q<=n) (hm:n<=m):Row h k (cutA a l m k) q ((xs.drop (l*k)).take (q*k)):=by
 have hlk:(l+q)*k<=n*k:=qE _ hq;rw [kV] at hlk;refine ⟨by simp [r.1];omega,fun hp=>?_⟩;obtain ⟨b,o,rfl,hc⟩:=r.2 (by omega);refine ⟨b,o+l*k,cutA_some (by omega),fun i x hi=>?_⟩;rw [List.getElem?_take] at hi;split at hi
 ·rw [List.getElem?_drop] at hi;rw [Nat.add_assoc];exact hc _ _ hi
 ·cases hi
theorem Cap.pre {h:Heap} {k:Nat} {e:TypeId} {a:Option Addr} {n c:Nat} {xs:List Value} (r:Cap h k e (.slice a n c) xs) {q:Nat} (hq:q<=n):Cap h k e (.slice a q c) (xs.take (q*k)):=by
 obtain ⟨a',n',c',hv,hn,hcm,hl,hr⟩:=r;injection hv with h1 h2 h3;subst h1 h2 h3;have hqk:q*k<=n*k:=qE _ hq;refine ⟨_,_,_,rfl,by omega,hcm,by rw [qJ,hl];omega,?_⟩;rcases hr with hr | ⟨b,o,cs,fz,rfl,hb,hs,hf,hx⟩
 ·exact .inl hr
 ·refine .inr ⟨b,o,cs,fz,rfl,hb,hs,hf,?_⟩;rw [<-hx,List.take_take];congr 1;omega
theorem Cap.sub {h:Heap} {k:Nat} {e:TypeId} {a:Option Addr} {n c:Nat} {xs:List Value} (r:Cap h k e (.slice a n c) xs) {l q:Nat} (hq:l+q<=c) (hlc:l<c):∃zs,Cap h k e (.slice (cutA a l c k) q (c-l)) zs:=by
 obtain ⟨a',n',c',hv,hn,hcm,hl,hr⟩:=r;injection hv with h1 h2 h3;subst h1 h2 h3;rcases hr with ⟨rfl,rfl⟩ | ⟨b,o,cs,fz,rfl,hb,hs,hf,hx⟩
 ·omega
 ·have h1:(l+q)*k<=c*k:=qE _ hq;have h2:(l+(c-l))*k=c*k:=by congr 1;omega
  rw [kV] at h1 h2;exact ⟨(cs.toList.drop (o+l*k)).take (q*k),_,_,_,rfl,by omega,by omega,by simp;omega,.inr ⟨b,o+l*k,cs,fz,cutA_some (by omega),hb,by omega,hf,rfl⟩⟩
structure Stored (h:Heap) (k:Nat) (e:TypeId) (v:Value) (ys:List Value) (h':Heap):Prop where
 cap:Cap h' k e v ys
 chg:Chg (blkC v) h h'
 kept:∀b off x,cell h b off=some x->(∀o n c,v=.slice (some ⟨b,o,none⟩) n c->off<o\/o+n*k<=off)->cell h' b off=some x
 shape:Shape h h'
 size:h'.size=h.size
theorem run_storeSl {P:Program} {h:Heap} {k:Nat} {e:TypeId} {b o n c:Nat} {xs vs:List Value} (r:Cap h k e (.slice (some ⟨b,o,none⟩) n c) xs) (hl:vs.length<=n*k) (h1:∀u∈vs,u.oneCell'=true) {E:Env} {w:World} (at':At E h w) :
  ∃h' w',Stored h k e (.slice (some ⟨b,o,none⟩) n c) (vs++xs.drop vs.length) h'/\At E h' w'/\(storeCells ⟨b,o,none⟩ vs).run P w=.ok () w':=by
 obtain ⟨a',n',c',hv,hn,hcm,hxl,hr⟩:=r;injection hv with g1 g2 g3;subst g1 g2 g3;rcases hr with ⟨hbad,_⟩ | ⟨b',o',cs,fz,hab,hb,hs,hf,hx⟩
 ·cases hbad
 injection hab with hab;injection hab with g1 g2;subst g1 g2;have hwb:w.heap[b]? = some (.cells cs e fz):=by rw [at'.heap];exact hb
 have hnk:n*k<=c*k:=qE _ hn;have hfit:o+vs.length<=cs.toList.length:=by simp;omega
 have hst:=run_storeCells_cells (P:=P) b o vs 0 w (fun j hj=>by rw [cell?_eq,cell_of hwb];simp;omega) (fun j hj=>frozen?_eq hwb hf (by omega)) h1;simp only [Nat.add_zero] at hst;rw [setCells_row b e fz vs o w cs hwb (by omega)] at hst;refine ⟨_,_,⟨?_,?_,?_,?_,hput_size _ _ _⟩,at'.setRow _ _,hst⟩
 ·refine ⟨_,_,_,rfl,hn,hcm,by simp [hxl];omega,.inr ⟨b,o,(spl cs.toList o vs).toArray,fz,rfl,hput_same hb,?_,?_,?_⟩⟩
  ·simp only [kF];rw [spl_length hfit];simpa using hs
  ·simp only [kF];rw [spl_length hfit];simpa using hf
  ·apply List.ext_getElem?;intro j;rw [List.getElem?_take];split
   ·rename_i hj;rw [List.getElem?_drop];by_cases hjv:j<vs.length
    ·rw [spl_mid hjv hfit,List.getElem?_append_left hjv]
    ·rw [spl_gt (by omega) hfit,List.getElem?_append_right (by omega),List.getElem?_drop,<-hx,List.getElem?_take,if_pos (by omega),List.getElem?_drop];congr 1;omega
   ·rename_i hj;rw [List.getElem?_eq_none];simp [hxl];omega
 ·exact (hput_chg h b _).mono fun x _ hxb=>by subst hxb;exact ⟨o,n,c,rfl⟩
 ·intro bb off x hx2 hlt;by_cases hbb:bb=b
  ·subst hbb;rw [cell_of hb] at hx2;rw [cell_of (hput_same hb)];have:=hlt o n c rfl;rw [<-Array.getElem?_toList];rcases this with h3 | h3
   ·rw [spl_lt h3 hfit,Array.getElem?_toList];exact hx2
   ·rw [spl_gt (by omega) hfit,Array.getElem?_toList];exact hx2
  ·rw [cell_block (hput_other hbb)];exact hx2
 ·exact Shape.put hb (by simp only [kF];rw [spl_length hfit];simp)
namespace V
variable {P:Program} {s:Slots} {h:Heap} {d:Option Tmp} {ty:TypeId} {pos:String} {af:Array Edge} {g:Option (Nat × Bool)} {x y c:Operand} {t u:TypeId}
theorem append {e:TypeId} {k bytes:Nat} {z v nv:Value} {xs news:List Value} (hx:ev s x=v) (hy:ev s y=nv) (ht:elB P t=some e) (hk:szB P e=some (k+1)) (hby:byB P e=some (bytes+1)) (hz:zrB P e=some z) (hzk:z.cells.size=k+1)
  (hv:Cap h (k+1) e v xs) (hn:Sl h (k+1) nv news) (h1:∀u∈news,u.oneCell'=true) (hfit:(xs.length+news.length)*(bytes+1)<=140737488355328) :
  OpA P ⟨d,.call ⟨.builtin .append,#[x,y],#[t,t]⟩,ty,pos,af,g⟩ s h (fun v' h'=>Appended h (k+1) e v (xs++news) v' h'):=fun E w at'=>by
 obtain ⟨v',h',w',ha,at2,hr⟩:=run_append (ty:=ty) ht hk hby hz (by omega) (by omega) hzk hv hn h1 hfit at';refine ⟨v',h',w',ha,at2,?_⟩;simp [execOp,resolve,invoke,builtin,hx,hy,hr]
theorem alloc {z:Value} {cs:Array Value} (hz:zrB P t=some z) (hc:z.cells=cs):OpE P ⟨d,.alloc t,ty,pos,af,g⟩ s h (.pointer (some ⟨h.size,0,none⟩)) (h.push (.cells cs t (0,0))):=fun E w at'=>by
 refine ⟨_,at'.alloc (.cells cs t (0,0)),?_⟩;simp [execOp,Instr.alloc,run_zrB hz,newVar,newRow,hc,at'.heap]
theorem box {v:Value} {cs:Array Value} (hx:ev s x=v) (hc:v.cells=cs):OpE P ⟨d,.box t x,ty,pos,af,g⟩ s h (.pointer (some ⟨h.size,0,none⟩)) (h.push (.cells cs t (0,0))):=fun E w at'=>by
 refine ⟨_,at'.alloc (.cells cs t (0,0)),?_⟩;simp [execOp,Instr.box,newVar,newRow,hc,at'.heap,hx]
theorem boxI {k:IntKind} {n:Int} (hx:ev s x=.int k n):OpE P ⟨d,.box t x,ty,pos,af,g⟩ s h (.pointer (some ⟨h.size,0,none⟩)) (h.push (.cells #[.int k n] t (0,0))):=box hx rfl
theorem boxS {a:Option Addr} {n m:Nat} (hx:ev s x=.slice a n m):OpE P ⟨d,.box t x,ty,pos,af,g⟩ s h (.pointer (some ⟨h.size,0,none⟩)) (h.push (.cells #[.slice a n m] t (0,0))):=box hx rfl
theorem boxP {a:Option Addr} (hx:ev s x=.pointer a):OpE P ⟨d,.box t x,ty,pos,af,g⟩ s h (.pointer (some ⟨h.size,0,none⟩)) (h.push (.cells #[.pointer a] t (0,0))):=box hx rfl
theorem boxA {cs:Array Value} (hx:ev s x=.agg cs):OpE P ⟨d,.box t x,ty,pos,af,g⟩ s h (.pointer (some ⟨h.size,0,none⟩)) (h.push (.cells cs t (0,0))):=box hx rfl
theorem makeMap:OpE P ⟨d,.makeMap t none,ty,pos,af,g⟩ s h (.map (some h.size)) (h.push (.map #[] 0)):=fun E w at'=>by
 refine ⟨_,at'.alloc (.map #[] 0),?_⟩;simp [execOp,Instr.makeMap,at'.heap]
theorem buildSliceF {n k:Nat} {e:TypeId} {z:Value} {l:List (Nat × Operand)} {cs:Array Value} (ht:elB P t=some e) (hk:szB P e=some k) (hz:zrB P e=some z) (hnk:Nat.ble (n*k) 16777216=true)
  (hf:Instr.fill (fun i=>some (i*k,k)) ((Array.range (n*k)).map (z.cells[· % z.cells.size]!)) (l.map fun p=>(p.1,ev s p.2))=some cs) :
  OpE P ⟨d,.buildSlice t n l.toArray,ty,pos,af,g⟩ s h (.slice (some ⟨h.size,0,none⟩) n n) (h.push (.cells cs e (0,0))):=fun E w at'=>by
 refine ⟨_,at'.alloc (.cells cs e (0,0)),?_⟩;have hnk':=Nat.le_of_ble_eq_true hnk;have h0:¬16777216<n*k:=by omega
 by_cases hz0:n*k=0
 ·have r0:Array.range 0 = #[]:=rfl;simp only [hz0,r0,Array.map_empty] at hf;simp [execOp,Instr.buildSlice,run_und (elB_iff ht),run_szB hk,hz0,r0,hf,newRow,at'.heap]
 ·simp [execOp,Instr.buildSlice,run_und (elB_iff ht),run_szB hk,h0,hz0,run_zrB hz,hf,newRow,at'.heap]
def idx:Nat->List Operand->List (Nat × Operand)
 | _,[]=>[]
 | i,x::l=>(i,x)::idx (i+1) l
theorem fold_set (o:Nat):∀(vs:List Value) (j:Nat) (cs:Array Value),o+j+vs.length<=cs.size->
  ((vs.zipIdx j).foldl (fun cs (c,j)=>cs.setIfInBounds (o+j) c) cs).toList=spl cs.toList (o+j) vs
 | [],j,cs,_=>by simp [spl]
 | v::vs,j,cs,hl=>by
  simp only [qV] at hl;simp only [List.zipIdx_cons,List.foldl_cons];rw [fold_set o vs (j+1) _ (by simp;omega)];apply List.ext_getElem?;intro i;have hl2:o+(j+1)+vs.length<=(cs.setIfInBounds (o+j) v).toList.length:=by simp;omega
  have hl3:o+j+(v::vs).length<=cs.toList.length:=by simp;omega
  by_cases h1:i<o+j
  ·rw [spl_lt (by omega) hl2,spl_lt h1 hl3];simp [show ¬(o+j=i) by omega]
  ·by_cases h2:i=o+j
   ·subst h2;rw [spl_lt (by omega) hl2];have:=spl_mid (cs:=cs.toList) (vs:=v::vs) (o:=o+j) (j:=0) (by simp) hl3;simp at this;rw [this];simp [show o+j<cs.size by omega]
   ·by_cases h3:i<o+j+1+vs.length
    ·have e1:i=o+(j+1)+(i-(o+j+1)):=by omega
     have e2:i=o+j+(i-(o+j)):=by omega
     rw [e1,spl_mid (by omega) hl2];rw [show o+(j+1)+(i-(o+j+1))=o+j+(i-(o+j)) by omega,spl_mid (by simp;omega) hl3];rw [show i-(o+j)=(i-(o+j+1))+1 by omega];rfl
    ·rw [spl_gt (by omega) hl2,spl_gt (by simp;omega) hl3];simp [show ¬(o+j=i) by omega]
theorem fill_idx {k:Nat} : ∀(xs:List Operand) (i:Nat) (cs:Array Value),(∀x∈xs,(ev s x).cells.size=k)->cs.size=(i+xs.length)*k->
  Instr.fill (fun i=>some (i*k,k)) cs ((idx i xs).map fun p=>(p.1,ev s p.2))=some (cs.toList.take (i*k)++xs.flatMap fun x=>(ev s x).cells.toList).toArray
 | [],i,cs,_,hs=>by
  simp only [idx,List.map_nil,Instr.fill,List.flatMap_nil,kX,qB,Nat.add_zero] at hs⊢;rw [qY (by simp [hs])]
 | x::xs,i,cs,hx,hs=>by
  have h0:=hx x qX;simp only [idx,kE,Instr.fill];have hle:i*k+k<=cs.size:=by rw [hs];simp [kV]
  have c1:((ev s x).cells.size≠k || i*k+(ev s x).cells.size > cs.size)=false:=by simp [h0];omega
  have hfold:=fold_set (i*k) (ev s x).cells.toList 0 cs (by simp [h0];omega);simp only [Nat.add_zero] at hfold;have hsz:((ev s x).cells.zipIdx.foldl (fun cs (c,j)=>cs.setIfInBounds (i*k+j) c) cs)=(spl cs.toList (i*k) (ev s x).cells.toList).toArray:=by
   rw [<-hfold,Array.toArray_toList,<-Array.foldl_toList,Array.toList_zipIdx]
  simp only [c1,Bool.false_eq_true,if_false];rw [hsz,fill_idx xs (i+1) _ (fun y hy=>hx y (qQ _ hy)) (by simp only [kF];rw [spl_length (by simp [h0];omega)];simp [hs];congr 1;omega)];congr 2;simp only [List.flatMap_cons];rw [<-qZ];congr 1;unfold spl;have e1:(i+1)*k=(cs.toList.take (i*k)++(ev s x).cells.toList).length:=by simp [h0,kV];omega
  rw [e1,List.take_left]
def AllSz (s:Slots) (k:Nat):List Operand->Prop
 | []=>True
 | x::xs=>(ev s x).cells.size=k/\AllSz s k xs
theorem AllSz.all {k:Nat} : ∀ {xs:List Operand},AllSz s k xs->∀x∈xs,(ev s x).cells.size=k
 | x::xs,h,y,hy=>by
  rcases qK.1 hy with rfl | hy
  ·exact h.1
  ·exact AllSz.all h.2 y hy
theorem buildSlice (xs:List Operand) {n k:Nat} {e:TypeId} {z:Value} {l:List (Nat × Operand)} {cs:Array Value} (ht:elB P t=some e) (hk:szB P e=some k) (hz:zrB P e=some z) (hl:l=idx 0 xs) (hn:n=xs.length) (hnk:Nat.ble (n*k) 16777216=true)
  (hx:AllSz s k xs) (hcs:(xs.flatMap fun x=>(ev s x).cells.toList)=cs.toList) :
  OpE P ⟨d,.buildSlice t n l.toArray,ty,pos,af,g⟩ s h (.slice (some ⟨h.size,0,none⟩) n n) (h.push (.cells cs e (0,0))):=by
 refine buildSliceF ht hk hz hnk ?_;subst hl hn;rw [fill_idx xs 0 _ hx.all (by simp),hcs];simp
def plB (P:Program) (t:TypeId):Option (List (Nat × Nat)):=match P.underlying t with
 | some (.struct fs)=>fs.toList.mapM fun f=>(P.info? f.type).map fun i=>(f.offset,i.size)
 | _=>none
theorem run_places {P:Program} {w:World} : ∀ {l:List Field} {ps:List (Nat × Nat)},l.mapM (fun f=>(P.info? f.type).map fun i=>(f.offset,i.size))=some ps->
  (l.mapM fun (f:Field)=>(do pure (f.offset,<-sizeOf f.type):Sem (Nat × Nat))).run P w=.ok ps w
 | [],ps,h=>by simp at h;subst h;simp
 | f::l,ps,h=>by
  simp only [List.mapM_cons,Option.bind_eq_bind,Option.bind_eq_some_iff] at h;obtain ⟨p,hp,qs,hq,hps⟩:=h;simp at hps;subst hps;have ih:=run_places (w:=w) hq;cases hi:P.info? f.type with
  | none=>simp [hi] at hp
  | some i=>
   simp [hi] at hp;subst hp;simp [List.mapM_cons,sizeOf,typeInfo,hi];simp [sizeOf,typeInfo] at ih;simp [ih]
theorem build {l:List (Nat × Operand)} {ps:List (Nat × Nat)} {z:Value} {cs:Array Value} (hz:zrB P t=some z) (hp:plB P t=some ps) (hf:Instr.fill (fun i=>ps[i]?) z.cells (l.map fun p=>(p.1,ev s p.2))=some cs) :
  OpV P ⟨d,.build t l.toArray,ty,pos,af,g⟩ s h (.agg cs):=fun w _=>by
 unfold plB at hp;cases hu:P.underlying t with
 | none=>simp [hu] at hp
 | some dd=>
  cases dd<;>simp only [hu] at hp<;>try (cases hp;done)
  rename_i fs;have:=run_places (w:=w) hp;have hm:(fs.mapM fun (f:Field)=>(do pure (f.offset,<-sizeOf f.type):Sem (Nat × Nat))).run P w=.ok ps.toArray w:=by
   rw [<-Array.toArray_toList (xs:=fs),List.mapM_toArray];simp at this⊢;simp [this]
  simp [execOp,Instr.build,run_zrB hz,run_und hu];simp at hm;simp [hm,hf]
theorem store {b o:Nat} {v:Value} {cs cs':Array Value} {e:TypeId} {fz:Nat × Nat} (hx:ev s x=.pointer (some ⟨b,o,none⟩)) (hy:ev s y=v) (ht:szB P t=some 1) (h1:v.oneCell'=true)
  (hb:h[b]? = some (.cells cs e fz)) (ho:o<cs.size) (hf:¬(fz.1<=o/\o<fz.2)) (hc:cs.setIfInBounds o v=cs'):OpU P ⟨d,.store t x y,ty,pos,af,g⟩ s h (hput h b cs'):=fun E w at'=>by
 subst hc;refine ⟨_,at'.setRow b (cs.setIfInBounds o v),?_⟩;have hvc:v.cells = #[v]:=by cases v<;>first | rfl | (simp [Value.oneCell'] at h1)
 have hwb:w.heap[b]? = some (.cells cs e fz):=by rw [at'.heap];exact hb
 have hcell:w.cell? ⟨b,o,none⟩=some cs[o]:=by rw [cell?_eq,cell_of hwb];simp [ho]
 have hfr:w.frozen? ⟨b,o,none⟩=false:=by
  obtain ⟨lo,hi⟩:=fz;simp only [World.frozen?,hwb];simp at hf⊢;exact hf
 have hset:w.setCell ⟨b,o,none⟩ v=w.setRow b (cs.setIfInBounds o v):=by
  unfold World.setCell World.setRow;simp only [World.mk.injEq,and_true];apply Array.ext_getElem?;intro i;simp only [Array.getElem?_modify];by_cases hi:b=i
  ·subst hi;simp [hwb]
  ·simp [hi]
 have hst:=run_store P w ⟨b,o,none⟩ v .plain h1;simp only [hcell,hfr] at hst;simp [execOp,hx,hy,Instr.storeAt,Instr.sureAddr,storeVar,hvc,run_szB ht,storeCells,Addr.add_zero',hst,hset]
theorem storeA {b o:Nat} {vs:List Value} {cs cs':Array Value} {e:TypeId} {fz:Nat × Nat} (hx:ev s x=.pointer (some ⟨b,o,none⟩)) (hy:ev s y=.agg vs.toArray) (ht:szB P t=some vs.length) (h1:∀v∈vs,v.oneCell'=true)
  (hb:h[b]? = some (.cells cs e fz)) (ho:o+vs.length<=cs.size) (hf:fzOk fz cs.size) (hc:(spl cs.toList o vs).toArray=cs'):OpU P ⟨d,.store t x y,ty,pos,af,g⟩ s h (hput h b cs'):=fun E w at'=>by
 subst hc;refine ⟨_,at'.setRow b _,?_⟩;have hwb:w.heap[b]? = some (.cells cs e fz):=by rw [at'.heap];exact hb
 have hst:=run_storeCells_cells (P:=P) b o vs 0 w (fun j hj=>by rw [cell?_eq,cell_of hwb];simp;omega) (fun j hj=>frozen?_eq hwb hf (by omega)) h1;simp only [Nat.add_zero] at hst;rw [setCells_row b e fz vs o w cs hwb ho] at hst;simp [execOp,hx,hy,Instr.storeAt,Instr.sureAddr,storeVar,Value.cells,run_szB ht,hst]
theorem makeSlice {n m k bytes:Nat} {e:TypeId} {z:Value} (hx:ev s x=.int .i64 n) (hy:ev s y=.int .i64 m) (ht:elB P t=some e) (hk:szB P e=some k) (hb:byB P e=some bytes) (hz:zrB P e=some z) (hnm:n<=m) (hfit:m*bytes<=281474976710656) (hm:m<=9223372036854775807) :
  OpE P ⟨d,.makeSlice t x y,ty,pos,af,g⟩ s h (.slice (some ⟨h.size,0,none⟩) n m) (h.push (.cells ((Array.range (m*k)).map (z.cells[· % z.cells.size]!)) e (0,0))):=fun E w at'=>by
 refine ⟨_,at'.alloc _,?_⟩;obtain ⟨i,hi,hik⟩:=szB_iff hk;have hib:i.bytes=bytes:=by
  obtain ⟨i',hi',e'⟩:=byB_iff hb;rw [hi] at hi';injection hi' with hi';subst hi';exact e'
 have w1:IntKind.i64.wrap (n:Int)=n:=IntWalk.i64_in _ (by omega);have w2:IntKind.i64.wrap (m:Int)=m:=IntWalk.i64_in _ (by omega);have b1:¬((281474976710656:Int)<(bytes:Int)*(m:Int)):=by
  have:((m*bytes:Nat):Int)<=281474976710656:=by omega
  rw [Nat.mul_comm] at this;rw [<-Int.natCast_mul];omega
 have b2:¬((m:Int)<n):=by omega
 have b3:¬((m:Int)<0):=by omega
 have b4:¬((n:Int)<0):=by omega
 by_cases h0:m*k=0
 ·have r0:Array.range 0 = #[]:=rfl;simp [r0,execOp,hx,hy,Instr.makeSlice,run_und (elB_iff ht),asInt,asIntOf,typeInfo,hi,hib,w1,w2,b1,b2,b3,b4,run_szB hk,h0,newRow,at'.heap]
 ·simp [execOp,hx,hy,Instr.makeSlice,run_und (elB_iff ht),asInt,asIntOf,typeInfo,hi,hib,w1,w2,b1,b2,b3,b4,run_szB hk,h0,run_zrB hz,newRow,at'.heap]
theorem slice_lh {a:Option Addr} {n m l r k:Nat} {e:TypeId} {lo hi:Operand} {k1 k2:IntKind} (hx:ev s x=.slice a n m) (hlo:ev s lo=.int k1 l) (hhi:ev s hi=.int k2 r) (ht:elB P t=some e) (hk:szB P e=some k) (hlr:l<=r) (hrm:r<=m) :
  OpV P ⟨d,.slice t x (some lo) (some hi) none,ty,pos,af,g⟩ s h (.slice (cutA a l m k) (r-l) (m-l)):=fun w _=>by
 simp [execOp,hx,hlo,hhi,Instr.sliceAt,Instr.slice,run_und (elB_iff ht),Instr.sliceBounds,Instr.sliceBound,asIntOf,run_szB hk,hlr,hrm,cutA]
theorem slice_l {a:Option Addr} {n m l k:Nat} {e:TypeId} {lo:Operand} {k1:IntKind} (hx:ev s x=.slice a n m) (hlo:ev s lo=.int k1 l) (ht:elB P t=some e) (hk:szB P e=some k) (hln:l<=n) :
  OpV P ⟨d,.slice t x (some lo) none none,ty,pos,af,g⟩ s h (.slice (cutA a l m k) (n-l) (m-l)):=fun w _=>by
 simp [execOp,hx,hlo,Instr.sliceAt,Instr.slice,run_und (elB_iff ht),Instr.sliceBounds,Instr.sliceBound,asIntOf,run_szB hk,hln,cutA]
theorem slice_h {a:Option Addr} {n m r k:Nat} {e:TypeId} {hi:Operand} {k2:IntKind} (hx:ev s x=.slice a n m) (hhi:ev s hi=.int k2 r) (ht:elB P t=some e) (hk:szB P e=some k) (hrm:r<=m) :
  OpV P ⟨d,.slice t x none (some hi) none,ty,pos,af,g⟩ s h (.slice a r m):=fun w _=>by
 have:(a.map fun x=>x.add 0)=a:=by cases a<;>simp [Addr.add_zero']
 simp [execOp,hx,hhi,Instr.sliceAt,Instr.slice,run_und (elB_iff ht),Instr.sliceBounds,Instr.sliceBound,asIntOf,run_szB hk,hrm,this]
theorem slice_hm {a:Option Addr} {n m r q k:Nat} {e:TypeId} {hi mx:Operand} {k2 k3:IntKind} (hx:ev s x=.slice a n m) (hhi:ev s hi=.int k2 r) (hmx:ev s mx=.int k3 q) (ht:elB P t=some e) (hk:szB P e=some k) (hrq:r<=q) (hqm:q<=m) :
  OpV P ⟨d,.slice t x none (some hi) (some mx),ty,pos,af,g⟩ s h (.slice a r q):=fun w _=>by
 have:(a.map fun x=>x.add 0)=a:=by cases a<;>simp [Addr.add_zero']
 simp [execOp,hx,hhi,hmx,Instr.sliceAt,Instr.slice,run_und (elB_iff ht),Instr.sliceBounds,Instr.sliceBound,asIntOf,run_szB hk,hrq,hqm,this]
theorem slice_lhm {a:Option Addr} {n m l r q k:Nat} {e:TypeId} {lo hi mx:Operand} {k1 k2 k3:IntKind} (hx:ev s x=.slice a n m) (hlo:ev s lo=.int k1 l) (hhi:ev s hi=.int k2 r) (hmx:ev s mx=.int k3 q) (ht:elB P t=some e) (hk:szB P e=some k) (hlr:l<=r) (hrq:r<=q) (hqm:q<=m) :
  OpV P ⟨d,.slice t x (some lo) (some hi) (some mx),ty,pos,af,g⟩ s h (.slice (cutA a l q k) (r-l) (q-l)):=fun w _=>by
 simp [execOp,hx,hlo,hhi,hmx,Instr.sliceAt,Instr.slice,run_und (elB_iff ht),Instr.sliceBounds,Instr.sliceBound,asIntOf,run_szB hk,hlr,hrq,hqm,cutA]
theorem eqGP {op:BinOp} {a b:Option Addr} {w:World} : (eqGuard op t x y (.pointer a) (.pointer b)).run P w=.ok () w:=by
 unfold eqGuard;cases op<;>simp
theorem eqGS {op:BinOp} {a b:Option Addr} {n m n' m':Nat} {w:World} : (eqGuard op t x y (.slice a n m) (.slice b n' m')).run P w=.ok () w:=by
 unfold eqGuard;cases op<;>simp
theorem eqGB {op:BinOp} {a b:Bool} {w:World} : (eqGuard op t x y (.bool a) (.bool b)).run P w=.ok () w:=by
 unfold eqGuard;cases op<;>simp
theorem eqGT {op:BinOp} {a b:ByteArray} {w:World} : (eqGuard op t x y (.string a) (.string b)).run P w=.ok () w:=by
 unfold eqGuard;cases op<;>simp
theorem equal_ptr {a:Option Addr} {e:TypeId} (ht:ptB P t=some e) (w:World):(Op.equal t (.pointer a) (.pointer none)).run P w=.ok a.isNone w:=by
 have:∀dd,(Op.equalIn (dd+1) t (.pointer a) (.pointer none)).run P w=.ok a.isNone w:=fun dd=>by
  cases a<;>simp [Op.equalIn,run_und (ptB_iff ht)]
 exact this 9999
theorem equal_sl {a:Option Addr} {n m:Nat} {e:TypeId} (ht:elB P t=some e) (w:World):(Op.equal t (.slice a n m) (.slice none 0 0)).run P w=.ok a.isNone w:=by
 have:∀dd,(Op.equalIn (dd+1) t (.slice a n m) (.slice none 0 0)).run P w=.ok a.isNone w:=fun dd=>by
  cases a<;>simp [Op.equalIn,run_und (elB_iff ht)]
 exact this 9999
theorem equal_bo {a b:Bool} (ht:boB P t=true) (w:World):(Op.equal t (.bool a) (.bool b)).run P w=.ok (a == b) w:=run_equal_bool w t a b (boB_iff ht)
theorem ptrEqNil {a:Option Addr} {e:TypeId} (hx:ev s x=.pointer a) (hy:ev s y=.pointer none) (ht:ptB P t=some e):OpV P ⟨d,.binOp .eql t x y u,ty,pos,af,g⟩ s h (.bool a.isNone):=fun w _=>by
 simp [execOp,hx,hy,eqGP,binOp,equal_ptr ht]
theorem ptrNeNil {a:Option Addr} {e:TypeId} (hx:ev s x=.pointer a) (hy:ev s y=.pointer none) (ht:ptB P t=some e):OpV P ⟨d,.binOp .neq t x y u,ty,pos,af,g⟩ s h (.bool (!a.isNone)):=fun w _=>by
 simp [execOp,hx,hy,eqGP,binOp,equal_ptr ht]
theorem slEqNil {a:Option Addr} {n m:Nat} {e:TypeId} (hx:ev s x=.slice a n m) (hy:ev s y=.slice none 0 0) (ht:elB P t=some e):OpV P ⟨d,.binOp .eql t x y u,ty,pos,af,g⟩ s h (.bool a.isNone):=fun w _=>by
 simp [execOp,hx,hy,eqGS,binOp,equal_sl ht]
theorem boNeq {a b r:Bool} (hx:ev s x=.bool a) (hy:ev s y=.bool b) (ht:boB P t=true) (hr:(a != b)=r):OpV P ⟨d,.binOp .neq t x y u,ty,pos,af,g⟩ s h (.bool r):=fun w _=>by
 subst hr;simp [execOp,hx,hy,eqGB,binOp,equal_bo ht,bne]
theorem stEql {a b:ByteArray} {r:Bool} (hx:ev s x=.string a) (hy:ev s y=.string b) (hr:(a.toList == b.toList)=r):OpV P ⟨d,.binOp .eql t x y u,ty,pos,af,g⟩ s h (.bool r):=fun w _=>by
 subst hr;simp [execOp,hx,hy,eqGT,binOp,Op.stringOp]
theorem stNeq {a b:ByteArray} {r:Bool} (hx:ev s x=.string a) (hy:ev s y=.string b) (hr:(!(a.toList == b.toList))=r):OpV P ⟨d,.binOp .neq t x y u,ty,pos,af,g⟩ s h (.bool r):=fun w _=>by
 subst hr;simp [execOp,hx,hy,eqGT,binOp,Op.stringOp]
theorem convI {k k':IntKind} {a:Int} (hx:ev s x=.int k a) (hu:inB P u=some k') (ht:inB P t=some k):OpV P ⟨d,.convert t u x,ty,pos,af,g⟩ s h (.int k' (k'.wrap a)):=fun w _=>by
 simp [execOp,hx,convert,run_und (inB_iff hu),run_und (inB_iff ht),Conv.intToInt]
theorem convE {k k':IntKind} {a b:Int} (hx:ev s x=.int k a) (hu:inB P u=some k') (ht:inB P t=some k) (hb:k'.wrap a=b):OpV P ⟨d,.convert t u x,ty,pos,af,g⟩ s h (.int k' b):=hb▸convI hx hu ht
theorem field1 {cs:Array Value} {f off:Nat} {ft:TypeId} {v:Value} (hx:ev s x=.agg cs) (hf:fdB P t f=some (off,ft,1)) (ha:agB P ft=some false) (hv:cs[off]? = some v):OpV P ⟨d,.field t x f,ty,pos,af,g⟩ s h v:=fun w _=>by
 obtain ⟨fs,fd,i,h1,h2,rfl,rfl,h3,h4⟩:=fdB_iff hf;simp [execOp,hx,Instr.field,run_und h1,h2,asAgg,part,run_agB ha,hv]
end V
open Go Go.MapKept
def OpUR (P:Program) (o:Oper) (s:Slots) (h:Heap) (R:Heap->Prop):Prop:=
 ∀E w,At E h w->∃h' w',R h'/\At E h' w'/\(execOp (ev s) o).run P w=.ok .skip w'
theorem HO.ur {P:Program} {n:Nat} {ops:Array Oper} {l:List Oper} {o:Oper} {K:Slots->Heap->Prop} {s:Slots} {h:Heap} {R:Heap->Prop} (hv:OpUR P o s h R) (hw:wants ops o s=true) (hd:o.dst=none)
  (hk:∀h',R h'->HO P n ops l K s h'):HO P n ops (o::l) K s h:=
 HO.step hw fun E a w r at'=>by
  obtain ⟨h',w',hR,at2,hr⟩:=hv E w at';unfold Oper.wp;rw [r.eval',hr];simp only [Oper.upon,hd,Act.put];exact hk h' hR E _ w' r at2
theorem Up.ur {P:Program} {n:Nat} {ops:Array Oper} {o:Oper} {bar:Nat} {S:Bool->Heap->Prop} {K:Slots->Heap->Prop} {fuel:Nat} {listed:Array Bool} {s:Slots} {h:Heap} {i:Nat} {R:Heap->Prop} (hi:ops[i]? = some o) (hw:wants ops o s=true) (hd:o.dst=none)
  (hv:OpUR P o s h R) {fl:Bool} (hfl:(listed.setIfInBounds i true).getD bar false=fl) (hk:∀h',R h'->S fl h'/\HA P n ops bar S K fuel (listed.setIfInBounds i true) s h'):Up P n ops bar S K fuel listed i s h:=
 Up.step hi hw fun E a w r at'=>by
  obtain ⟨h',w',hR,at2,hr⟩:=hv E w at';unfold Oper.wp;rw [r.eval',hr];simp only [Oper.upon,hd,Act.put,hfl];obtain ⟨k1,k2⟩:=hk h' hR;exact ⟨by rw [at2.heap];exact k1,k2 E _ w' r at2⟩
structure Set1 (h:Heap) (k:Nat) (e:TypeId) (b o n c q:Nat) (xs:List Value) (u:Value) (h':Heap):Prop where
 cap:Cap h' k e (.slice (some ⟨b,o,none⟩) n c) (xs.set q u)
 chg:Chg (fun x=>x=b) h h'
 kept:∀b' off x,cell h b' off=some x->¬(b'=b/\off=o+q)->cell h' b' off=some x
 shape:Shape h h'
 size:h'.size=h.size
theorem V.storeC {P:Program} {s:Slots} {h:Heap} {d:Option Tmp} {ty:TypeId} {pos:String} {af:Array Edge} {g:Option (Nat × Bool)} {x y:Operand} {t e:TypeId} {b o n c k q:Nat} {xs:List Value} {u:Value}
  (hx:ev s x=.pointer (some ⟨b,o+q,none⟩)) (hy:ev s y=u) (ht:szB P t=some 1) (h1:u.oneCell'=true) (hc:Cap h k e (.slice (some ⟨b,o,none⟩) n c) xs) (hq:q<n*k) :
  OpUR P ⟨d,.store t x y,ty,pos,af,g⟩ s h (Set1 h k e b o n c q xs u):=fun E w at'=>by
 have hc0:=hc;obtain ⟨a',n',c',hv,hn,hcm,hxl,hr⟩:=hc;injection hv with g1 g2 g3;subst g1 g2 g3;rcases hr with ⟨hbad,_⟩ | ⟨b',o',cs,fz,hab,hb,hs,hf,hxx⟩
 ·cases hbad
 injection hab with hab;injection hab with g1 g2;subst g1 g2;have hnk:n*k<=c*k:=qE _ hn;obtain ⟨w',at2,hr⟩:=V.store (P:=P) (s:=s) (d:=d) (ty:=ty) (pos:=pos) (af:=af) (g:=g) hx hy ht h1 hb (by omega) (hf.2 _ (by omega)) rfl E w at';refine ⟨_,w',⟨?_,hput_chg _ _ _,?_,Shape.put hb (by simp),hput_size _ _ _⟩,at2,hr⟩
 ·refine ⟨_,_,_,rfl,hn,hcm,by simp [hxl],.inr ⟨b,o,_,fz,rfl,hput_same hb,by simpa using hs,by simpa using hf,?_⟩⟩;apply List.ext_getElem?;intro j;simp only [Array.toList_setIfInBounds,List.getElem?_take,List.getElem?_drop,List.getElem?_set];have hx':j<n*k->xs[j]? = cs.toList[o+j]?:=fun hj=>by rw [<-hxx,List.getElem?_take,if_pos hj,List.getElem?_drop]
  by_cases hj:j<n*k
  ·rw [if_pos hj];by_cases hjq:q=j
   ·subst hjq;have l1:o+q<cs.toList.length:=by simp;omega
    have l2:q<xs.length:=by omega
    rw [if_pos rfl,if_pos l1,if_pos rfl,if_pos l2]
   ·rw [if_neg (by omega),if_neg hjq,hx' hj]
  ·rw [if_neg hj,if_neg (by omega),List.getElem?_eq_none (by omega)]
 ·intro bb off x hx2 hne;by_cases hbb:bb=b
  ·subst hbb;rw [cell_of hb] at hx2;rw [cell_of (hput_same hb),Array.getElem?_setIfInBounds];rw [if_neg (fun e=>hne ⟨rfl,e.symm⟩)];exact hx2
  ·rw [cell_block (hput_other hbb)];exact hx2
structure KV {κ:Type} (kv:κ->Value) (d:TypeDesc):Prop where
 inj:∀a b,kv a=kv b->a=b
 key:∀a,IsKey d (kv a)
theorem KV.int (k:IntKind):KV (Value.int k) (.int k):=⟨fun a b h=>by injection h,fun _=>rfl⟩
theorem KV.string:KV Value.string .string:=⟨fun a b h=>by injection h,fun _=>trivial⟩
section
variable {κ:Type}
def MapT (kv:κ->Value) (h:Heap) (r:Nat) (l:List (κ × Value)):Prop:=
 ∃es clock,h[r]? = some (.map es clock)/\es.toList.map (fun e=>(e.key,e.val))=l.map (fun p=>(kv p.1,p.2))/\Stamped es clock
theorem MapT.chg {kv:κ->Value} {F:Nat->Prop} {h h':Heap} (x:Chg F h h') {r:Nat} {l:List (κ × Value)} (m:MapT kv h r l) (hf:¬F r):MapT kv h' r l:=
 let ⟨es,c,hb,he,hs⟩:=m;⟨es,c,x.block hb hf,he,hs⟩
theorem MapT.new {kv:κ->Value} {h:Heap} {r:Nat} (hb:h[r]? = some (.map #[] 0)):MapT kv h r ([]:List (κ × Value)):=⟨#[],0,hb,rfl,stamped_empty 0⟩
theorem ents_keys {kv:κ->Value} {es:Array MapEntry} {l:List (κ × Value)} (he:es.toList.map (fun e=>(e.key,e.val))=l.map (fun p=>(kv p.1,p.2))):es.toList.map (·.key)=l.map fun p=>kv p.1:=by
 have:=congrArg (List.map Prod.fst) he;rw [List.map_map,List.map_map] at this;exact this
theorem ents_at {kv:κ->Value} {es:Array MapEntry} {l:List (κ × Value)} (he:es.toList.map (fun e=>(e.key,e.val))=l.map (fun p=>(kv p.1,p.2))) {i:Nat} {e:MapEntry} (hi:es.toList[i]? = some e):∃p,l[i]? = some p/\e.key=kv p.1/\e.val=p.2:=by
 have h1:=congrArg (fun x=>x[i]?) he;simp only [List.getElem?_map,hi,Option.map_some] at h1;cases hl:l[i]? with
 | none=>simp [hl] at h1
 | some p=>simp [hl] at h1;exact ⟨p,rfl,h1.1,h1.2⟩
theorem ents_at' {kv:κ->Value} {es:Array MapEntry} {l:List (κ × Value)} (he:es.toList.map (fun e=>(e.key,e.val))=l.map (fun p=>(kv p.1,p.2))) {i:Nat} {p:κ × Value} (hi:l[i]? = some p):∃e,es.toList[i]? = some e/\e.key=kv p.1/\e.val=p.2:=by
 have h1:=congrArg (fun x=>x[i]?) he;simp only [List.getElem?_map,hi,Option.map_some] at h1;cases hl:es.toList[i]? with
 | none=>simp [hl] at h1
 | some e=>simp [hl] at h1;exact ⟨e,rfl,h1.1,h1.2⟩
end
section
variable {κ:Type}
theorem MapT.nodup {kv:κ->Value} {h:Heap} {r:Nat} {l:List (κ × Value)} (m:MapT kv h r l):(l.map (·.1)).Nodup:=by
 obtain ⟨es,c,_,he,hs⟩:=m;have:=hs.2.2;rw [ents_keys he] at this;unfold List.Nodup at this⊢;rw [List.pairwise_map] at this⊢;exact this.imp fun hne e=>hne (by rw [e])
end
section
variable {κ:Type} [DecidableEq κ]
def aget (l:List (κ × Value)) (k:κ):Option Value:=(l.find? fun p=>p.1=k).map (·.2)
def aput:List (κ × Value)->κ->Value->List (κ × Value)
 | [],k,v=>[(k,v)]
 | p::l,k,v=>if p.1=k then (k,v)::l else p::aput l k v
def adel (l:List (κ × Value)) (k:κ):List (κ × Value):=l.filter fun p=>decide (p.1≠k)
theorem aget_some {l:List (κ × Value)} {k:κ} {i:Nat} {v:Value} (hn:(l.map (·.1)).Nodup) (hi:l[i]? = some (k,v)):aget l k=some v:=by
 induction l generalizing i with
 | nil=>simp at hi
 | cons p l ih=>
  unfold aget;rw [kE,List.nodup_cons] at hn;cases i with
  | zero=>simp at hi;subst hi;simp
  | succ i=>
   simp only [List.getElem?_cons_succ] at hi;have hne:p.1≠k:=fun e=>hn.1 (kS.2 ⟨(k,v),List.mem_of_getElem? hi,e.symm⟩);have:=ih hn.2 hi;unfold aget at this;simp [hne,this]
theorem aget_none {l:List (κ × Value)} {k:κ} (h:∀p∈l,p.1≠k):aget l k=none:=by
 unfold aget;rw [List.find?_eq_none.2 (fun p hp=>by simpa using h p hp)];rfl
theorem MapT.find {kv:κ->Value} {d:TypeDesc} (K:KV kv d) {es:Array MapEntry} {l:List (κ × Value)} (he:es.toList.map (fun e=>(e.key,e.val))=l.map (fun p=>(kv p.1,p.2))) (hn:(l.map (·.1)).Nodup) (k:κ) :
  (Instr.findNow d (kv k) es.toList 0=some none/\aget l k=none/\∀p∈l,p.1≠k)\/∃(i:Nat) (e:MapEntry),Instr.findNow d (kv k) es.toList 0=some (some (i,e.val))/\es.toList[i]? = some e/\e.key=kv k/\l[i]? = some (k,e.val)/\aget l k=some e.val:=by
 have hk:∀x∈es.toList,IsKey d x.key:=fun x hx=>by
  obtain ⟨i,hi⟩:=List.mem_iff_getElem?.1 hx;obtain ⟨p,_,h2,_⟩:=ents_at he hi;rw [h2];exact K.key _
 rcases findNow_spec (K.key k) es.toList 0 hk with ⟨h1,h2⟩ | ⟨j,e,h1,h2,h3⟩
 ·left;have:∀p∈l,p.1≠k:=fun p hp hpk=>by
   obtain ⟨i,hi⟩:=List.mem_iff_getElem?.1 hp;obtain ⟨e,h4,h5,_⟩:=ents_at' he hi;exact h2 e (List.mem_of_getElem? h4) (by rw [h5,hpk])
  exact ⟨h1,aget_none this,this⟩
 ·right;obtain ⟨p,h4,h5,h6⟩:=ents_at he h2;have:p.1=k:=K.inj _ _ (by rw [<-h5,h3]);have hp:l[j]? = some (k,e.val):=by rw [h4,<-this,h6]
  exact ⟨j,e,by simpa using h1,h2,h3,hp,aget_some hn hp⟩
theorem aput_none {l:List (κ × Value)} {k:κ} {v:Value} (h:∀p∈l,p.1≠k):aput l k v=l++[(k,v)]:=by
 induction l with
 | nil=>rfl
 | cons p l ih=>simp [aput,h p qX,ih (fun q hq=>h q (qQ _ hq))]
theorem aput_some {l:List (κ × Value)} {k:κ} {v u:Value} {i:Nat} (hn:(l.map (·.1)).Nodup) (hi:l[i]? = some (k,u)):aput l k v=l.set i (k,v):=by
 induction l generalizing i with
 | nil=>simp at hi
 | cons p l ih=>
  rw [kE,List.nodup_cons] at hn;cases i with
  | zero=>simp at hi;subst hi;simp [aput]
  | succ i=>
   simp only [List.getElem?_cons_succ] at hi;have hne:p.1≠k:=fun e=>hn.1 (kS.2 ⟨(k,u),List.mem_of_getElem? hi,e.symm⟩);simp [aput,hne,ih hn.2 hi]
theorem adel_some {l:List (κ × Value)} {k:κ} {u:Value} {i:Nat} (hn:(l.map (·.1)).Nodup) (hi:l[i]? = some (k,u)):adel l k=l.eraseIdx i:=by
 induction l generalizing i with
 | nil=>simp at hi
 | cons p l ih=>
  rw [kE,List.nodup_cons] at hn;cases i with
  | zero=>
   simp at hi;subst hi;simp only [adel,List.eraseIdx_cons_zero];rw [List.filter_cons];simp;intro a b hab e;subst e;exact hn.1 (kS.2 ⟨(a,b),hab,rfl⟩)
  | succ i=>
   simp only [List.getElem?_cons_succ] at hi;have hne:p.1≠k:=fun e=>hn.1 (kS.2 ⟨(k,u),List.mem_of_getElem? hi,e.symm⟩);have:=ih hn.2 hi;unfold adel at this⊢;rw [List.filter_cons,if_pos (by simpa using hne),this];rfl
end
section
theorem map_erase {α β:Type} (f:α->β):∀(l:List α) (i:Nat),(l.eraseIdx i).map f=(l.map f).eraseIdx i
 | [],_=>rfl
 | _::_,0=>rfl
 | x::l,i+1=>by simp [map_erase f l i]
theorem set_chg {h:Heap} {r:Nat} {o o':Obj} (hb:h[r]? = some o):Chg (fun x=>x=r) h (h.setIfInBounds r o')/\(h.setIfInBounds r o')[r]? = some o'/\(h.setIfInBounds r o').size=h.size:=
 ⟨⟨by simp,fun b _ hf=>by simp [Ne.symm hf]⟩,by simp [block_lt hb],by simp⟩
theorem At.set {E:Env} {h:Heap} {w:World} (a:At E h w) (r:Nat) (o:Obj):At E (h.setIfInBounds r o) { w with heap:=w.heap.setIfInBounds r o }:=⟨by simp [a.heap],a.os,a.tape,a.output⟩
end
namespace V
variable {κ:Type} [DecidableEq κ] {P:Program} {s:Slots} {h:Heap} {d:Option Tmp} {ty:TypeId} {pos:String} {af:Array Edge} {g:Option (Nat × Bool)} {x y c:Operand} {t u kt et:TypeId}
theorem lookup {kv:κ->Value} {dd:TypeDesc} (K:KV kv dd) {r:Nat} {l:List (κ × Value)} {k:κ} {z:Value} (hx:ev s x=.map (some r)) (hy:ev s y=kv k) (hm:MapT kv h r l) (ht:mpB P t=some (kt,et)) (hd:P.underlying kt=some dd) (hz:zrB P et=some z) :
  OpV P ⟨d,.lookup t x y false,ty,pos,af,g⟩ s h ((aget l k).getD z):=fun w hw=>by
 have hn:=hm.nodup;obtain ⟨es,cl,hb,he,_⟩:=hm;have hwb:w.heap[r]? = some (.map es cl):=by rw [hw];exact hb
 rcases MapT.find K he hn k with ⟨h1,h2,_⟩ | ⟨i,e,h1,_,_,_,h2⟩
 ·simp [execOp,hx,hy,Instr.lookup,run_und (mpB_iff ht),MapKept.run_getObj_map hwb,run_checkKey hd (K.key k),run_findKey hd h1,run_zrB hz,h2]
 ·simp [execOp,hx,hy,Instr.lookup,run_und (mpB_iff ht),MapKept.run_getObj_map hwb,run_checkKey hd (K.key k),run_findKey hd h1,h2]
theorem lookupE {kv:κ->Value} {dd:TypeDesc} (K:KV kv dd) {r:Nat} {l:List (κ × Value)} {k:κ} {z v:Value} (hx:ev s x=.map (some r)) (hy:ev s y=kv k) (hm:MapT kv h r l) (ht:mpB P t=some (kt,et)) (hd:P.underlying kt=some dd) (hz:zrB P et=some z) (he:(aget l k).getD z=v) :
  OpV P ⟨d,.lookup t x y false,ty,pos,af,g⟩ s h v:=he▸lookup K hx hy hm ht hd hz
theorem lookupOk {kv:κ->Value} {dd:TypeDesc} (K:KV kv dd) {r:Nat} {l:List (κ × Value)} {k:κ} {z:Value} (hx:ev s x=.map (some r)) (hy:ev s y=kv k) (hm:MapT kv h r l) (ht:mpB P t=some (kt,et)) (hd:P.underlying kt=some dd) (hz:zrB P et=some z) :
  OpV P ⟨d,.lookup t x y true,ty,pos,af,g⟩ s h (.tuple #[(aget l k).getD z,.bool (aget l k).isSome]):=fun w hw=>by
 have hn:=hm.nodup;obtain ⟨es,cl,hb,he,_⟩:=hm;have hwb:w.heap[r]? = some (.map es cl):=by rw [hw];exact hb
 rcases MapT.find K he hn k with ⟨h1,h2,_⟩ | ⟨i,e,h1,_,_,_,h2⟩
 ·simp [execOp,hx,hy,Instr.lookup,run_und (mpB_iff ht),MapKept.run_getObj_map hwb,run_checkKey hd (K.key k),run_findKey hd h1,run_zrB hz,h2]
 ·simp [execOp,hx,hy,Instr.lookup,run_und (mpB_iff ht),MapKept.run_getObj_map hwb,run_checkKey hd (K.key k),run_findKey hd h1,h2]
theorem lookupOkE {kv:κ->Value} {dd:TypeDesc} (K:KV kv dd) {r:Nat} {l:List (κ × Value)} {k:κ} {z v:Value} {b:Bool} (hx:ev s x=.map (some r)) (hy:ev s y=kv k) (hm:MapT kv h r l) (ht:mpB P t=some (kt,et)) (hd:P.underlying kt=some dd) (hz:zrB P et=some z) (he:(aget l k).getD z=v) (hb:(aget l k).isSome=b) :
  OpV P ⟨d,.lookup t x y true,ty,pos,af,g⟩ s h (.tuple #[v,.bool b]):=by subst he hb;exact lookupOk K hx hy hm ht hd hz
structure Put (kv:κ->Value) (h:Heap) (r:Nat) (l':List (κ × Value)) (h':Heap):Prop where
 map:MapT kv h' r l'
 chg:Chg (fun x=>x=r) h h'
 size:h'.size=h.size
theorem run_mapUpdate {kv:κ->Value} {dd:TypeDesc} (K:KV kv dd) (hsb:∀a n,Instr.sameBits n (kv a) (kv a)=true) {r:Nat} {l:List (κ × Value)} {k:κ} {v:Value} (hm:MapT kv h r l) (ht:mpB P t=some (kt,et)) (hd:P.underlying kt=some dd) {E:Env} {w:World} (at':At E h w) :
  ∃h' w',Put kv h r (aput l k v) h'/\At E h' w'/\(Instr.mapUpdate t (.map (some r)) (kv k) v).run P w=.ok () w':=by
 have hn:=hm.nodup;obtain ⟨es,cl,hb,he,hs⟩:=hm;have hwb:w.heap[r]? = some (.map es cl):=by rw [at'.heap];exact hb
 rcases MapT.find K he hn k with ⟨h1,h2,h3⟩ | ⟨i,e,h1,h4,h5,h6,h2⟩
 ·refine ⟨_,_,?_,at'.set r (.map (es.push { key:=kv k,val:=v,born:=cl }) (cl+1)),?_⟩
  ·obtain ⟨c1,c2,c3⟩:=set_chg (o':=.map (es.push { key:=kv k,val:=v,born:=cl }) (cl+1)) hb;refine ⟨⟨_,_,c2,?_,?_⟩,c1,c3⟩
   ·rw [aput_none h3];simp [he]
   ·refine stamped_push hs ?_;intro x hx e;obtain ⟨i,hi⟩:=List.mem_iff_getElem?.1 hx;obtain ⟨p,q1,q2,_⟩:=ents_at he hi;exact h3 p (List.mem_of_getElem? q1) (K.inj _ _ (by rw [<-q2,e]))
  ·simp [Instr.mapUpdate,run_und (mpB_iff ht),MapKept.run_getObj_map hwb,run_checkKey hd (K.key k),run_findKey hd h1,run_setObj_map _ hwb]
 ·have hei:es[i]? = some e:=by rw [<-Array.getElem?_toList];exact h4
  refine ⟨_,_,?_,at'.set r (.map (es.modify i fun e=>{ e with key:=kv k,val:=v }) cl),?_⟩
  ·obtain ⟨c1,c2,c3⟩:=set_chg (o':=.map (es.modify i fun e=>{ e with key:=kv k,val:=v }) cl) hb;refine ⟨⟨_,_,c2,?_,?_⟩,c1,c3⟩
   ·rw [aput_some hn h6];apply List.ext_getElem?;intro j;simp only [List.getElem?_map,Array.getElem?_toList,Array.getElem?_modify];have hj:=congrArg (fun x=>x[j]?) he;simp only [List.getElem?_map,Array.getElem?_toList] at hj;by_cases hij:i=j
    ·subst hij;have hil:i<l.length:=(List.getElem?_eq_some_iff.1 h6).1;simp [hei,hil]
    ·simp [hij,hj]
   ·exact stamped_modify hs i _ (fun _ _=>rfl) (fun x hx hxe=>by rw [hei] at hxe;injection hxe with hxe;subst hxe;exact h5.symm)
  ·have hb2:Instr.sameBits 10000 e.key (kv k)=true:=by rw [h5];exact hsb k _
   simp [Instr.mapUpdate,run_und (mpB_iff ht),MapKept.run_getObj_map hwb,run_checkKey hd (K.key k),run_findKey hd h1,hei,Instr.keyThatStays,hb2,run_setObj_map _ hwb]
theorem mapUpdate {kv:κ->Value} {dd:TypeDesc} (K:KV kv dd) (hsb:∀a n,Instr.sameBits n (kv a) (kv a)=true) {r:Nat} {l:List (κ × Value)} {k:κ} {v:Value} (hx:ev s x=.map (some r)) (hy:ev s y=kv k) (hc:ev s c=v) (hm:MapT kv h r l) (ht:mpB P t=some (kt,et)) (hd:P.underlying kt=some dd) :
  OpUR P ⟨d,.mapUpdate t x y c,ty,pos,af,g⟩ s h (Put kv h r (aput l k v)):=fun E w at'=>by
 obtain ⟨h',w',hp,at2,hr⟩:=run_mapUpdate (v:=v) (k:=k) K hsb hm ht hd at';exact ⟨h',w',hp,at2,by simp [execOp,hx,hy,hc,hr]⟩
theorem sbI {k:IntKind} (a:Int) (n:Nat):Instr.sameBits n (.int k a) (.int k a)=true:=by cases n<;>simp [Instr.sameBits]
theorem sbT (a:ByteArray) (n:Nat):Instr.sameBits n (.string a) (.string a)=true:=by
 have h:(a == a)=true:=(bytes_beq a a).2 rfl;cases n<;>simp [Instr.sameBits,h]
end V
open Go Go.MapKept
open Go.ChangeMaps (setBlock)
theorem filter_idx {α β:Type} [DecidableEq β] (f:α->β):∀ {l:List α} {i:Nat} {e:α},(l.map f).Nodup->l[i]? = some e->l.filter (fun x=>decide (f x≠f e))=l.eraseIdx i
 | [],_,_,_,h=>by simp at h
 | x::l,0,e,hn,h=>by
  simp at h;subst h;rw [kE,List.nodup_cons] at hn;rw [List.filter_cons];simp only [ne_eq,not_true_eq_false,decide_false,Bool.false_eq_true,if_false,List.eraseIdx_cons_zero];rw [List.filter_eq_self];intro y hy;simp only [decide_eq_true_eq];exact fun h=>hn.1 (kS.2 ⟨y,hy,h⟩)
 | x::l,i+1,e,hn,h=>by
  rw [kE,List.nodup_cons] at hn;simp only [List.getElem?_cons_succ] at h;have hne:f x≠f e:=fun hh=>hn.1 (kS.2 ⟨e,List.mem_of_getElem? h,hh.symm⟩);rw [List.filter_cons,if_pos (by simpa using hne),filter_idx f hn.2 h];rfl
section
variable {κ:Type}
structure Iter (kv:κ->Value) (h:Heap) (r bm:Nat) (l todo:List (κ × Value)):Prop where
 ex:∃(es:Array MapEntry) (clock since:Nat) (seen:Array Nat) (c0:Nat),h[r]? = some (.mapIter (some bm) since seen c0)/\h[bm]? = some (.map es clock)/\es.toList.map (fun e=>(e.key,e.val))=l.map (fun p=>(kv p.1,p.2))/\Stamped es clock/\
  (∀x∈es.toList,x.born<since)/\since<=c0/\since<=clock/\(leftOf es seen).toList.map (fun e=>(e.key,e.val))=todo.map (fun p=>(kv p.1,p.2))
structure Cur (kv:κ->Value) (h:Heap) (r bm:Nat) (p:κ × Value):Prop where
 ex:∃(es:Array MapEntry) (clock since:Nat) (seen:Array Nat) (e:MapEntry),h[r]? = some (.mapIter (some bm) since (seen.push e.born) clock)/\h[bm]? = some (.map es clock)/\e∈es.toList/\(es.toList.map (·.born)).Nodup/\e.key=kv p.1/\e.val=p.2
theorem Iter.map {kv:κ->Value} {h:Heap} {r bm:Nat} {l todo:List (κ × Value)} (x:Iter kv h r bm l todo):MapT kv h bm l:=
 let ⟨es,cl,_,_,_,_,h2,h3,h4,_⟩:=x.ex;⟨es,cl,h2,h3,h4⟩
theorem Iter.ne {kv:κ->Value} {h:Heap} {r bm:Nat} {l todo:List (κ × Value)} (x:Iter kv h r bm l todo):r≠bm:=fun e=>by
 obtain ⟨es,cl,si,se,c0,h1,h2,_⟩:=x.ex;rw [e,h2] at h1;injection h1 with h1;cases h1
theorem Iter.chg {kv:κ->Value} {F:Nat->Prop} {h h':Heap} (c:Chg F h h') {r bm:Nat} {l todo:List (κ × Value)} (x:Iter kv h r bm l todo) (h1:¬F r) (h2:¬F bm):Iter kv h' r bm l todo:=
 let ⟨es,cl,si,se,c0,a,b,k⟩:=x.ex;⟨es,cl,si,se,c0,c.block a h1,c.block b h2,k⟩
theorem Cur.chg {kv:κ->Value} {F:Nat->Prop} {h h':Heap} (c:Chg F h h') {r bm:Nat} {p:κ × Value} (x:Cur kv h r bm p) (h1:¬F r) (h2:¬F bm):Cur kv h' r bm p:=
 let ⟨es,cl,si,se,e,a,b,k⟩:=x.ex;⟨es,cl,si,se,e,c.block a h1,c.block b h2,k⟩
end
namespace V
variable {κ:Type} {P:Program} {s:Slots} {h:Heap} {d:Option Tmp} {ty:TypeId} {pos:String} {af:Array Edge} {g:Option (Nat × Bool)} {x:Operand} {t kt et:TypeId}
theorem range {kv:κ->Value} {r:Nat} {l:List (κ × Value)} (hx:ev s x=.map (some r)) (hm:MapT kv h r l) (ht:mpB P t=some (kt,et)) :
  OpA P ⟨d,.range t x,ty,pos,af,g⟩ s h (fun v h'=>v=.pointer (some ⟨h.size,0,none⟩)/\Iter kv h' h.size r l l/\Ext h h'/\h'.size=h.size+1):=fun E w at'=>by
 obtain ⟨es,cl,hb,he,hs⟩:=hm;have hwb:w.heap[r]? = some (.map es cl):=by rw [at'.heap];exact hb
 refine ⟨_,_,_,⟨rfl,?_,Ext.push _ _,by simp⟩,at'.alloc (.mapIter (some r) cl #[] cl),?_⟩
 ·refine ⟨⟨es,cl,cl,#[],cl,push_same _ _,push_other hb,he,hs,hs.1,qR _,qR _,?_⟩⟩;have:leftOf es #[]=es:=by unfold leftOf;simp
  rw [this];exact he
 ·simp [execOp,hx,Instr.range,run_und (mpB_iff ht),MapKept.run_getObj_map hwb,at'.heap]
theorem entry {kv:κ->Value} {r bm:Nat} {p:κ × Value} (hx:ev s x=.pointer (some ⟨r,0,none⟩)) (hc:Cur kv h r bm p) :
  OpV P ⟨d,.entry x,ty,pos,af,g⟩ s h (.tuple #[kv p.1,p.2]):=fun w hw=>by
 obtain ⟨es,cl,si,se,e,h1,h2,h3,h4,h5,h6⟩:=hc.ex;have:=run_entry_at (P:=P) w r bm si se es cl e (by rw [hw];exact h1) (by rw [hw];exact h2) h3 h4;rw [<-h5,<-h6];simp [execOp,hx,this]
end V
open Go
namespace V
variable {P:Program} {s:Slots} {h:Heap} {d:Option Tmp} {ty:TypeId} {pos:String} {af:Array Edge} {g:Option (Nat × Bool)} {x y:Operand} {t u:TypeId}
theorem indexA {b o n:Nat} {e:TypeId} {kk:IntKind} {i:Int} (hx:ev s x=.pointer (some ⟨b,o,none⟩)) (hy:ev s y=.int kk i) (ht:arB P t=some (n,e)) (hk:szB P e=some 1) (hi:0<=i/\i<n) :
  OpV P ⟨d,.indexAddr t x y,ty,pos,af,g⟩ s h (.pointer (some ⟨b,o+i.toNat,none⟩)):=fun w _=>by
 have hadd:(⟨b,o,none⟩:Addr).add (i.toNat*1)=⟨b,o+i.toNat,none⟩:=by unfold Addr.add;split<;>simp_all
 simp [execOp,hx,hy,Instr.indexAt,asIntOf,Instr.sureAddr,run_und (arB_iff ht),run_szB hk,hi];simpa using hadd
end V
end Go.HL
