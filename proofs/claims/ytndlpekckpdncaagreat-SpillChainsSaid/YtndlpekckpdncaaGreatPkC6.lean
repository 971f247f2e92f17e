/- A range over a function: a call of yield, a round, the statement, and the end of a function that has one. Conditions: the loop stands in no other one. The links of a chain of pages, one by one, for any loop body. Conditions: the store is in order. The pages, and the bytes, of a chain. Conditions: the store is in order. The free list's inner functions: numbers of a page, the walk over the chain. Conditions: the store is in order. The walk over the chain of free pages. Conditions: the store is in order. slices.Sort on ints that the caller owns. Conditions: not too many. All free pages; the head laid anew; the file grows. Conditions: the store is in order. A page is taken; a page is given. Conditions: the store is in order. Get, Pages, Local, Drop of chains. Conditions: the store is in order. Rows of pages in memory, and the document's pager, in plain terms and in memory. Conditions: those that each fact names. The document's pager: Pages, Begin, Read, Rollback, Checkpoint, Open, Write, Resize; Same of pages. Conditions: the state is readable. Bytes in parts: slices.Chunk, slices.Collect. Conditions: the parts are not too short. -/
import Derived.Test.YtndlpekckpdncaaGreatPkC5
set_option maxRecDepth 100000
set_option maxHeartbeats 2000000
set_option linter.all false
namespace Go.HL
open Go
structure LpC where
 n:Nat
 s:Slots
 ps:Array Tmp
 assign:Code
 body:Code
 D:Nat
def Lp (c:LpC) (l:Nat) (st:LoopState) (pe:Option Code) (h:Heap):Prop:=∃fn tmps,tmps.size=c.n∧(∀i,tmps.getD i undef=c.s i)∧h[l]? = some (.loop { state:=st,pending:=pe,fn,tmps,params:=c.ps,assign:=c.assign,body:=c.body,defers:=c.D })
def Df (D:Nat) (h:Heap):Prop:=h[D]? = some (.deferred (some []))
def col (D:Nat):Deferred:={ target:=.collected D,args:=#[] }
@[reducible] def lpI (c:LpC) (l:Nat) (st:LoopState) (pe:Option Code):Itm:=⟨Lp c l st pe,fun j=>j=l,fun _ _ G cg d ⟨fn,tm,h1,h2,h3⟩=>⟨fn,tm,h1,h2,by rw [cg.same l (Array.getElem?_eq_some_iff.1 h3).1 (d l rfl)];exact h3⟩⟩
@[reducible] def dfI (D:Nat):Itm:=⟨Df D,fun j=>j=D,fun _ _ G cg d h3=>(cg.same D (Array.getElem?_eq_some_iff.1 h3).1 (d D rfl)).trans h3⟩
def HY (P:Program) (l:Nat) (args:Array Value) (h:Heap) (R:Value→Heap→Prop):Prop:=∀E w,At E h w→YieldAt Fence.wide 0 P l args w fun e w'=>∃v h',e=.returned v∧At E h' w'∧R v h'
def updL:List (Tmp × Value)→Slots→Slots
 | [],s=>s
 | p::l,s=>updL l (upd s p.1 p.2)
theorem updL_rel {n:Nat} : ∀(l:List (Tmp × Value)) (s:Slots) (tm:Array Value),tm.size=n→(∀i,tm.getD i undef=s i)→(∀p∈l,Nat.blt p.1 n=true)→(l.foldl (fun t (p:Tmp × Value)=>t.setIfInBounds p.1 p.2) tm).size=n∧∀i,(l.foldl (fun t (p:Tmp × Value)=>t.setIfInBounds p.1 p.2) tm).getD i undef=updL l s i
 | [],_,_,h1,h2,_=>⟨h1,h2⟩
 | p::l,s,tm,h1,h2,h3=>by
  have r:=(⟨h1,h2,rfl⟩:Rel [] n s { tmps:=tm,defers:=[] }).put p.2 (h3 p (by simp));exact updL_rel l (upd s p.1 p.2) _ r.size r.get fun q hq=>h3 q (by simp [hq])
def rnd (c:LpC) (l:Nat) (R:Value→Heap→Prop):Exit→Slots→Heap→Prop
 | .normal,_,h=>Lp c l .busy none h∧∀h',Chg (fun j=>j=l) h h'→h'.size=h.size→Lp c l .ready none h'→R (.bool true) h'
 | .ret,_,h=>Lp c l .busy none h∧∀h',Chg (fun j=>j=l) h h'→h'.size=h.size→Lp c l .done (some .ret) h'→R (.bool false) h'
 | .exit id,_,h=>Lp c l .busy none h∧∀h',Chg (fun j=>j=l) h h'→h'.size=h.size→Lp c l .done (some (.exit id)) h'→R (.bool false) h'
 | _,_,_=>False
theorem putObj_chg {w:World} {l:Nat} {o:Obj} : Chg (fun j=>j=l) w.heap (w.putObj l o).heap∧(w.putObj l o).heap.size=w.heap.size:=
 ⟨⟨by simp,fun k _ hk=>World.putObj_heap_other hk⟩,by simp⟩
theorem HY.go {P:Program} {c:LpC} {l:Nat} {args:List Value} {h:Heap} {R:Value→Heap→Prop} (hl:Lp c l .ready none h) (hsz:args.length=c.ps.size:=by exact rfl) (hps:(c.ps.toList.all fun p=>Nat.blt p c.n)=true:=by exact rfl)
  (hc:HS (some l) P c.n [c.assign] (thn (fun s1 h1=>Lp c l .ready none h1∧∀h2,Chg (fun j=>j=l) h1 h2→h2.size=h1.size→Lp c l .busy none h2→HS (some l) P c.n [c.body] (rnd c l R) s1 h2) (fun _ _ _=>False)) (updL (c.ps.toList.zip args) c.s) h):HY P l args.toArray h R:=by
 intro E w at';obtain ⟨fn,tm,h1,h2,h3⟩:=hl;rw [←at'.heap] at h3;refine ⟨fn,_,c.assign,c.body,run_yield h3 (by simpa using hsz),roundIn_of_wpIn trivial ?_⟩;have hr:=updL_rel (c.ps.toList.zip args) c.s tm h1 h2 (fun p hp=>List.all_eq_true.1 hps p.1 (List.of_mem_zip hp).1);have e:(c.ps.zip args.toArray).foldl (fun tmps (t,a)=>tmps.setIfInBounds t a) tm=(c.ps.toList.zip args).foldl (fun t (p:Tmp × Value)=>t.setIfInBounds p.1 p.2) tm:=by
  rw [←Array.foldl_toList,Array.toList_zip]
 show c.assign.wpIn (fc (some l)) 0 P _ { tmps:=_,defers:=[] } w;rw [show ((c.ps.zip args.toArray).foldl (fun tmps (x:Tmp × Value)=>tmps.setIfInBounds x.1 x.2) tm)=_ from e];refine wpIn_mono (hc { E with ds:=[] } { tmps:=_,defers:=[] } w ⟨hr.1,hr.2,rfl⟩ ⟨at'.heap,at'.os,at'.tape,at'.output⟩) ?_;rintro ex a1 w1 ⟨s1,g1,r1,at1,q⟩;cases ex with
 | normal=>
  obtain ⟨⟨fn1,tm1,k1,k2,k3⟩,q⟩:=q;rw [←at1.heap] at k3;refine ⟨_,run_beginRound k3 rfl,?_⟩;have hb:(w1.putObj l (.loop { state:=.busy,pending:=none,fn:=fn1,tmps:=tm1,params:=c.ps,assign:=c.assign,body:=c.body,defers:=c.D })).heap[l]? = _:=World.putObj_heap_same (Array.getElem?_eq_some_iff.1 k3).1;have hcg:=putObj_chg (w:=w1) (l:=l) (o:=.loop { state:=.busy,pending:=none,fn:=fn1,tmps:=tm1,params:=c.ps,assign:=c.assign,body:=c.body,defers:=c.D });have q2:=q _ (by rw [←at1.heap];exact hcg.1) (by rw [←at1.heap];exact hcg.2) ⟨fn1,tm1,k1,k2,hb⟩;refine wpIn_mono (q2 { E with ds:=[] } a1 _ r1 ⟨rfl,at1.os,at1.tape,at1.output⟩) ?_;have fin:∀(jump:Option Code) (w3:World) (g3:Heap),At { E with ds:=[] } g3 w3→Lp c l .busy none g3→∃w4,(Instr.endRound l jump).run P w3=.ok (.bool jump.isNone) w4∧At E w4.heap w4∧Chg (fun j=>j=l) g3 w4.heap∧w4.heap.size=g3.size∧Lp c l (if jump.isNone then .ready else .done) jump w4.heap:=by
   rintro jump w3 g3 at3 ⟨fn3,tm3,m1,m2,m3⟩;rw [←at3.heap] at m3⊢;exact ⟨_,run_endRound jump m3,⟨rfl,at3.os,at3.tape,at3.output⟩,putObj_chg.1,putObj_chg.2,fn3,tm3,m1,m2,World.putObj_heap_same (Array.getElem?_eq_some_iff.1 m3).1⟩
  rintro ex a3 w3 ⟨s3,g3,r3,at3,q3⟩;cases ex with
  | normal=>obtain ⟨w4,e1,e2,e3,e4,e5⟩:=fin none w3 g3 at3 q3.1;exact ⟨_,w4,e1,_,_,rfl,e2,q3.2 _ e3 e4 e5⟩
  | ret=>obtain ⟨w4,e1,e2,e3,e4,e5⟩:=fin (some .ret) w3 g3 at3 q3.1;exact ⟨_,w4,e1,_,_,rfl,e2,q3.2 _ e3 e4 e5⟩
  | exit id=>obtain ⟨w4,e1,e2,e3,e4,e5⟩:=fin (some (.exit id)) w3 g3 at3 q3.1;exact ⟨_,w4,e1,_,_,rfl,e2,q3.2 _ e3 e4 e5⟩
  | goto t=>exact q3.elim
  | panic ch=>exact q3.elim
  | outgrown=>exact q3.elim
 | exit id=>exact q.elim
 | goto t=>exact q.elim
 | ret=>exact q.elim
 | panic ch=>exact q.elim
 | outgrown=>exact q.elim
def HOY (P:Program) (n:Nat) (ops:Array Oper) (l:List Oper) (K:Slots→Heap→Prop) (s:Slots) (h:Heap):Prop:=∀E a w,Rel E.ds n s a→At E h w→wpListIn (fc none) 0 P ops (Lift E n (nrm K)) l a w
section
variable {P:Program} {n:Nat} {ops:Array Oper} {l:List Oper} {o:Oper} {K:Slots→Heap→Prop} {s:Slots} {h:Heap}
theorem HOY.nil (hk:K s h):HOY P n ops [] K s h:=fun _ _ _ r at'=>⟨s,h,r,at',hk⟩
theorem HOY.w (d:Nat) {v:Value} (hv:OpV P o s h v) (hk:HOY P n ops l K (upd s d v) h) (hw:wants ops o s=true:=by exact rfl) (hd:o.dst=some d:=by exact rfl) (hn:Nat.blt d n=true:=by exact rfl):HOY P n ops (o::l) K s h:=by
 intro E a w r at';unfold wpListIn;rw [r.wanted,hw,if_pos rfl];refine ⟨fun _ _=>trivial,?_⟩;rw [show (fc none).round=none from rfl,Oper.semAt_none,r.eval',hv w at'.heap];simp only [Oper.uponIn,hd];exact hk E _ w (r.put v hn) at'
theorem run_callY {P:Program} {w:World} {s:Slots} {d:Option Tmp} {ty:TypeId} {pos:String} {af:Array Edge} {g:Option (Nat × Bool)} {x:Operand} {xs:Array Operand} {ts:Array TypeId} {q:Nat} (hx:ev s x=.func (.yield q) #[] #[]):(execOp (ev s) ⟨d,.call ⟨.value x,xs,ts⟩,ty,pos,af,g⟩).run P w=(Instr.yield q (xs.map (ev s))).run P w:=by
 simp [execOp,resolve,hx,Deferred.ofValue,invoke]
theorem HOY.y (d:Nat) {ty:TypeId} {pos:String} {af:Array Edge} {g:Option (Nat × Bool)} {x:Operand} {xs:Array Operand} {ts:Array TypeId} {q:Nat} {args:List Value} {R:Value→Heap→Prop} (hy:HY P q args.toArray h R) (hk:∀v h',R v h'→HOY P n ops l K (upd s d v) h') (hx:ev s x=.func (.yield q) #[] #[]:=by exact rfl) (ha:xs.toList.map (ev s)=args:=by exact rfl) (hw:wants ops ⟨some d,.call ⟨.value x,xs,ts⟩,ty,pos,af,g⟩ s=true:=by exact rfl) (hn:Nat.blt d n=true:=by exact rfl):HOY P n ops (⟨some d,.call ⟨.value x,xs,ts⟩,ty,pos,af,g⟩::l) K s h:=by
 intro E a w r at';unfold wpListIn;rw [r.wanted,hw,if_pos rfl];refine ⟨fun _ _=>trivial,?_⟩;have ha':xs.map (ev s)=args.toArray:=by rw [←ha];apply Array.ext';simp
 obtain ⟨fn,tm,x1,y1,h1,h2⟩:=hy E w at';rw [show (fc none).round=none from rfl,Oper.semAt_none,r.eval',run_callY hx,ha',h1];simp only [Oper.uponIn];refine ⟨fun e=>(by cases e),h2.mono ?_⟩;rintro e w' ⟨v,h',rfl,at2,hR⟩;exact hk v h' hR E _ w' (r.put v hn) at2
theorem HS.ry {id:Nat} {l:List Oper} {Q:Exit→Slots→Heap→Prop} {k:List Code} (hk:HOY P n l.toArray l (fun s h=>HS none P n k Q s h) s h):HS none P n (.region id l.toArray false::k) Q s h:=by
 intro E a w r at';exact wpIn_mono (wpIn_region_lit (hk E a w r at')) fun _ _ _ q=>nrm_lift (Q:=thn (HS none P n k Q) Q) q
end
def rgEnd (c:LpC) (l:Nat) (K:Option Code→Heap→Prop) (h:Heap):Prop:=∃st pe,st≠.busy∧Lp c l st pe h∧∀h',Chg (fun j=>j=l) h h'→h'.size=h.size→K pe h'
section
variable {P:Program} {n:Nat} {s:Slots} {h:Heap} {k:List Code} {Q:PD}
def rgK (id:Nat) (D:Nat) (K:Slots→Heap→Prop) (Q:PD) (s:Slots):Option Code→Heap→Prop
 | none,h=>K s h
 | some .ret,h=>Q [col D] .ret s h
 | some (.exit i),h=>bif Nat.beq i id then K s h else Q [col D] (.exit i) s h
 | _,_=>False
theorem HSD.rg {id:Nat} {g:Operand} {ps:Array Tmp} {assign body:Code} {gf:FuncId} {lb:List Value} (hg:ev s g=.func (.func gf) #[] lb.toArray:=by exact rfl)
  (hk:∀h1,Ext h h1→h1.size=h.size+2→Lp ⟨n,s,ps,assign,body,h.size⟩ (h.size+1) .ready none h1→Df h.size h1→
   HC P gf (Value.func (.yield (h.size+1)) #[] #[]::lb).toArray h1 fun _ h2=>rgEnd ⟨n,s,ps,assign,body,h.size⟩ (h.size+1) (rgK id h.size (HS none P n k (Q [col h.size])) Q s) h2) :
  HSD P n (.block id (.rangeFunc g ps assign body)::k) Q s h:=by
 intro E a w hE r at';have hh:=at'.heap;refine wp_block ((wpIn_wide (n:=0)).1 (wpIn_rangeFunc fun fn _=>?_));obtain ⟨W1,hW1⟩:∃W1,(w.alloc (.deferred (some []))).alloc (.loop { state:=.ready,pending:=none,fn,tmps:=a.tmps,params:=ps,assign,body,defers:=w.heap.size })=W1:=⟨_,rfl⟩;have hL1:W1.heap[w.heap.size+1]? = some (.loop { state:=.ready,pending:=none,fn,tmps:=a.tmps,params:=ps,assign,body,defers:=w.heap.size }):=by
  rw [←hW1];have:=World.alloc_heap_new (w.alloc (.deferred (some []))) (.loop { state:=.ready,pending:=none,fn,tmps:=a.tmps,params:=ps,assign,body,defers:=w.heap.size });rwa [World.size_alloc] at this
 have hD1:W1.heap[w.heap.size]? = some (.deferred (some [])):=by
  rw [←hW1];show ((w.heap.push _).push _)[w.heap.size]? = _;rw [Array.getElem?_push_lt (by simp)];simp
 have hs1:W1.heap.size=h.size+2:=by rw [←hW1,←hh];show ((w.heap.push _).push _).size=_;simp
 have hx1:Ext h W1.heap:=by
  refine ⟨by rw [hs1];omega,fun b hb _=>?_⟩;rw [←hW1,←hh] at *;show ((w.heap.push _).push _)[b]? = _;rw [Array.getElem?_push_lt (by simp;omega)];simp [Array.getElem_push_lt hb]
 have at1:At E W1.heap W1:=⟨rfl,by rw [←hW1];exact at'.os,by rw [←hW1];exact at'.tape,by rw [←hW1];exact at'.output⟩;obtain ⟨⟨fn',hf,hb,hbody⟩,hq⟩:=hk W1.heap hx1 hs1 ⟨fn,a.tmps,r.size,r.get,by rw [←hh];exact hL1⟩ (by unfold Df;rw [←hh];exact hD1);have h2' : ¬ fn'.name = "runtime.NumGoroutine" := by simpa using hb
 have h3':¬fn'.body=none:=by intro e;simp [e] at hbody
 refine ⟨w.heap.size+1,[{ target:=.collected w.heap.size,args:=#[] }],W1,{ target:=.fn (.func gf) lb.toArray,args:=#[.func (.yield (w.heap.size+1)) #[] #[]] },W1,gf,#[.func (.yield (w.heap.size+1)) #[] #[]]++lb.toArray,W1,?_,?_,fun _ _=>trivial,?_,fun e=>(by cases e),?_⟩
 ·rw [←hW1];exact run_enterLoop_outer _ _ _ _ _
 ·have he:a.eval g=.func (.func gf) #[] lb.toArray:=by rw [r.eval];exact hg
  simp only [resolve,he];simp [go_sem]
 ·simp [invoke,callFunc,hf,h2',h3']
 ·have e1 : #[Value.func (.yield (w.heap.size+1)) #[] #[]]++lb.toArray=(Value.func (.yield (h.size+1)) #[] #[]::lb).toArray:=by rw [hh];simp
  rw [e1];refine callsIn_wide.2 ((hq E W1 at1).mono ?_);rintro e w3 ⟨v,h3,rfl,at3,st,pe,hst,⟨fn3,tm3,m1,m2,m3⟩,hK⟩;rw [←at3.heap] at m3 hK;rw [hh];refine ⟨pe,_,run_endLoop m3 hst,?_⟩;have hK2:=hK _ (putObj_chg (w:=w3) (l:=h.size+1) (o:=.loop { state:=.exhausted,pending:=pe,fn:=fn3,tmps:=tm3,params:=ps,assign,body,defers:=h.size })).1 putObj_chg.2;have r2:Rel [col h.size] n s { a with defers:=[{ target:=.collected h.size,args:=#[] }]++a.defers }:=⟨r.size,r.get,by show _++a.defers=_;rw [r.defers];rfl⟩;have at4:At E (w3.putObj (h.size+1) (.loop { state:=.exhausted,pending:=pe,fn:=fn3,tmps:=tm3,params:=ps,assign,body,defers:=h.size })).heap (w3.putObj (h.size+1) (.loop { state:=.exhausted,pending:=pe,fn:=fn3,tmps:=tm3,params:=ps,assign,body,defers:=h.size })):=⟨rfl,at3.os,at3.tape,at3.output⟩;cases pe with
  | none=>exact ⟨[col h.size],s,_,r2,at4,hK2⟩
  | some c=>
   cases c with
   | ret=>exact wpIn_ret ⟨[col h.size],s,_,r2,at4,hK2⟩
   | exit i=>
    refine wpIn_exit ?_;simp only [rgK] at hK2;simp only [Exit.inBlock];by_cases hi:i=id
    ·subst hi;simp only [Nat.beq_refl,cond_true] at hK2;rw [if_pos rfl];exact ⟨[col h.size],s,_,r2,at4,hK2⟩
    ·have hb2:Nat.beq i id=false:=by cases hb3:Nat.beq i id with
      | true=>exact absurd (Nat.eq_of_beq_eq_true hb3) hi
      | false=>rfl
     simp only [hb2,cond_false] at hK2;rw [if_neg hi];exact ⟨[col h.size],s,_,r2,at4,hK2⟩
   | _=>exact hK2.elim
end
def finR (P:Program) (fn:Func) (R:Value→Heap→Prop):PD
 | [],.normal,s,h | [],.ret,s,h=>∃v,Res P fn s h v∧R v h
 | [d],.normal,s,h | [d],.ret,s,h=>∃D,d=col D∧Df D h∧∀h',Chg (fun j=>j=D) h h'→h'.size=h.size→∃v,Res P fn s h' v∧R v h'
 | _,_,_,_=>False
theorem leavesR {P:Program} {fn:Func} {R:Value→Heap→Prop} {s:Slots} {h:Heap} {n:Nat} {E:Env} {a:Act} {w:World} {ds:List Deferred} (r:Rel ds n s a) (at':At E h w) (q:finR P fn R ds .ret s h):LeavesInM Fence.wide 0 P fn a.tmps (fun e w'=>∃v h',e=.returned v∧At E h' w'∧R v h') a.defers .returning w:=by
 rw [r.defers]
 match ds,q with
 | [],⟨v,hv,hR⟩=>exact ⟨v,hv _ _ r.get at'.heap,v,h,rfl,at',hR⟩
 | [d],⟨D,hd,hD,hk⟩=>
  subst hd;unfold Df at hD;rw [←at'.heap] at hD hk;obtain ⟨v,hv,hR⟩:=hk _ (putObj_chg (w:=w) (l:=D) (o:=.deferred none)).1 putObj_chg.2;exact ⟨by simp,.inl ⟨D,_,rfl,run_takeDeferred hD,v,hv _ _ r.get rfl,v,_,rfl,⟨rfl,at'.os,at'.tape,at'.output⟩,hR⟩⟩
theorem HC.goR {P:Program} {f:FuncId} {fn:Func} {c:Code} {args:List Value} {h:Heap} {R:Value→Heap→Prop} (hf:P.funcs[f]? = some fn) (n:Nat) (hc:HSD P n [c] (finR P fn R) (lst args) h) (hb:fn.body=some c:=by exact rfl)
  (hname : (fn.name == "runtime.NumGoroutine") = false := by first | exact rfl | kernel_rfl) (hn : fn.ntmps = n := by exact rfl) (hsz : Nat.ble args.length n = true := by exact rfl) : HC P f args.toArray h R := by
 have hsz:=Nat.le_of_ble_eq_true hsz;refine ⟨⟨fn,hf,hname,by simp [hb]⟩,fun E w at'=>(callsIn_wide (n:=0)).1 (callsIn_of_wp_marks hf hb trivial ?_)⟩;subst hn;refine wpIn_mono (wpIn_wide.2 (hc { E with ds:=[] } _ w rfl ⟨by simp;omega,fun i=>?_,rfl⟩ (at'.ds _))) ?_
 ·rw [←lst_getD];simp only [Array.getD_eq_getD_getElem?,Array.getElem?_append,List.getD_eq_getElem?_getD];by_cases hi:i<args.length
  ·simp [hi]
  ·simp only [List.size_toArray,hi,if_false];rw [List.getElem?_eq_none (by omega)];by_cases hj:i-args.length<fn.ntmps-args.length
   ·rw [Array.getElem?_replicate,if_pos hj];rfl
   ·rw [Array.getElem?_replicate,if_neg hj]
 ·rintro e a' w' ⟨ds,s',h',r',at2,q⟩;have at3:At E h' w':=at2.of_ds;cases e with
  | normal=>
   have q2:finR P fn R ds .ret s' h':=by
    match ds,q with
    | [],q=>exact q
    | [d],q=>exact q
    | _::_::_,q=>exact q
   exact leavesR r' at3 q2
  | ret=>exact leavesR r' at3 (by cases ds<;>exact q)
  | exit id=>cases ds with
   | nil=>exact q
   | cons d ds=>cases ds<;>exact q
  | goto l=>cases ds with
   | nil=>exact q
   | cons d ds=>cases ds<;>exact q
  | panic c=>cases ds with
   | nil=>exact False.elim q
   | cons d ds=>cases ds<;>exact False.elim q
  | outgrown=>cases ds with
   | nil=>exact False.elim q
   | cons d ds=>cases ds<;>exact False.elim q
section
variable {h0 h h':Heap} {D:Nat→Prop} {M R:List Itm} {c:LpC} {l:Nat} {st st':LoopState} {pe pe':Option Code}
theorem Hp.lp (ok:Hp h0 D (lpI c l st pe::M) R h) (cg:Chg (fun j=>j=l) h h') (hl:Lp c l st' pe' h'):Hp h0 D (lpI c l st' pe'::M) R h':=ok.upd cg (fun _ x=>x) (lpI c l st' pe') hl fun _ hj=>.inl hj
theorem Hp.df {d:Nat} (ok:Hp h0 D (dfI d::M) R h) (cg:Chg (fun j=>j=d) h h'):Hp h0 D M R h':=by
 have o:=ok.upd cg (fun _ x=>x) ⟨fun _=>True,fun j=>j=d,fun _ _ _ _ _ _=>trivial⟩ trivial fun _ hj=>.inl hj;exact o.tM
theorem Hp.rgNew (ok:Hp h0 D M R h) (x:Ext h h') (hs:h'.size=h.size+2) (hl:Lp c (h.size+1) .ready none h') (hd:Df h.size h'):Hp h0 D (lpI c (h.size+1) .ready none::dfI h.size::M) R h':=by
 have o:=ok.newM x (dfI h.size) hd fun j hj=>by have:j=h.size:=hj;omega
 refine ⟨o.chg,fun i hi=>?_,o.r,?_,fun a ha b hb j hj hb2=>?_⟩
 ·rcases List.mem_cons.1 hi with rfl | hi
  ·exact ⟨hl,fun j hj=>by have:j=h.size+1:=hj;have:=ok.chg.size;exact ⟨by omega,.inr (by omega)⟩⟩
  ·exact o.m i hi
 ·refine List.pairwise_cons.2 ⟨fun b hb j hj hb2=>?_,o.mm⟩;have hj1:j=h.size+1:=hj;rcases List.mem_cons.1 hb with rfl | hb
  ·have:j=h.size:=hb2;omega
  ·have:=((ok.m b hb).2 j hb2).1;omega
 ·rcases List.mem_cons.1 ha with rfl | ha
  ·have hj1:j=h.size+1:=hj;have:=(ok.r b hb).2 j hb2;omega
  ·exact o.mr a ha b hb j hj hb2
end
theorem HSD.rg' {P:Program} {n:Nat} {s:Slots} {h:Heap} {k:List Code} {Q:PD} {id:Nat} {g:Operand} {ps:Array Tmp} {assign body:Code} {gf:FuncId} {lb:List Value}
  (hk:∀(lc:LpC) (l D:Nat) (h1:Heap),lc=⟨n,s,ps,assign,body,D⟩→Ext h h1→h1.size=h.size+2→l=h.size+1→D=h.size→Lp lc l .ready none h1→Df D h1→
   HC P gf (Value.func (.yield l) #[] #[]::lb).toArray h1 fun _ h2=>rgEnd lc l (rgK id D (HS none P n k (Q [col D])) Q s) h2)
  (hg:ev s g=.func (.func gf) #[] lb.toArray:=by exact rfl):HSD P n (.block id (.rangeFunc g ps assign body)::k) Q s h:=
 HSD.rg hg fun h1 hx hs hl hd=>hk _ _ _ h1 rfl hx hs rfl rfl hl hd
theorem HY.go' {P:Program} {lc:LpC} {n:Nat} {s:Slots} {ps:Array Tmp} {assign body:Code} {D l:Nat} {args:List Value} {h:Heap} {R:Value→Heap→Prop} (hlc:lc=⟨n,s,ps,assign,body,D⟩) (hl:Lp lc l .ready none h)
  (hc:HS (some l) P n [assign] (thn (fun s1 h1=>Lp lc l .ready none h1∧∀h2,Chg (fun j=>j=l) h1 h2→h2.size=h1.size→Lp lc l .busy none h2→HS (some l) P n [body] (rnd lc l R) s1 h2) (fun _ _ _=>False)) (updL (ps.toList.zip args) s) h)
  (hsz:args.length=ps.size:=by exact rfl) (hps:(ps.toList.all fun p=>Nat.blt p n)=true:=by exact rfl):HY P l args.toArray h R:=by
 subst hlc;exact HY.go hl hsz hps hc
theorem Hp.rgNew' {h0 h h':Heap} {D:Nat→Prop} {M R:List Itm} {c:LpC} {l d:Nat} (ok:Hp h0 D M R h) (x:Ext h h') (hs:h'.size=h.size+2) (hl0:l=h.size+1) (hd0:d=h.size) (hl:Lp c l .ready none h') (hd:Df d h'):Hp h0 D (lpI c l .ready none::dfI d::M) R h':=by
 subst hl0 hd0;exact ok.rgNew x hs hl hd
theorem Hp.lpEnd {h0 h h':Heap} {D:Nat→Prop} {M R:List Itm} {c:LpC} {l:Nat} {st:LoopState} {pe:Option Code} (ok:Hp h0 D (lpI c l st pe::M) R h) (cg:Chg (fun j=>j=l) h h'):Hp h0 D M R h':=by
 have o:=ok.upd cg (fun _ x=>x) ⟨fun _=>True,fun j=>j=l,fun _ _ _ _ _ _=>trivial⟩ trivial fun _ hj=>.inl hj;exact o.tM
theorem Hp.addML {h0 h h':Heap} {D:Nat→Prop} {M R l:List Itm} (ok:Hp h0 D M R h) (q:Hp h none_ l [] h'):Hp h0 D (l++M) R h':=by
 have o:=ok.ext q.chg;have hn:∀a∈l,∀j,a.F j→h.size≤j:=fun a ha j hj=>((q.m a ha).2 j hj).2.elim (fun f=>f.elim) id;refine ⟨o.chg,fun i hi=>?_,o.r,List.pairwise_append.2 ⟨q.mm,o.mm,fun a ha b hb j hj hb2=>?_⟩,fun a ha b hb j hj hb2=>?_⟩
 ·rcases List.mem_append.1 hi with hi | hi
  ·exact ⟨(q.m i hi).1,fun j hj=>⟨((q.m i hi).2 j hj).1,.inr (Nat.le_trans ok.chg.size (hn i hi j hj))⟩⟩
  ·exact o.m i hi
 ·have:=hn a ha j hj;have:=((ok.m b hb).2 j hb2).1;omega
 ·rcases List.mem_append.1 ha with ha | ha
  ·have:=hn a ha j hj;have:=(ok.r b hb).2 j hb2;omega
  ·exact o.mr a ha b hb j hj hb2
theorem OpV.asN {P:Program} {s:Slots} {h:Heap} {d:Option Tmp} {ty:TypeId} {pos:String} {af:Array Edge} {g:Option (Nat × Bool)} {x:Operand} (hx:ev s x=.nilFunc:=by exact rfl):OpV P ⟨d,.assign x,ty,pos,af,g⟩ s h .nilFunc:=V.asv hx
section
variable {h0 h:Heap} {D:Nat→Prop} {M R:List Itm} {q0 q1 q2 q3 q4 q5 q6 q7 q8 q9 q10 q11 q12 q13 q14 q15:Itm}
theorem Hp.n10 (ok:Hp h0 D (q0::q1::q2::q3::q4::q5::q6::q7::q8::q9::q10::M) R h):Hp h0 D (q10::q0::q1::q2::q3::q4::q5::q6::q7::q8::q9::M) R h:=ok.perm (show (q10::([q0,q1,q2,q3,q4,q5,q6,q7,q8,q9]++M)).Perm ([q0,q1,q2,q3,q4,q5,q6,q7,q8,q9]++q10::M) from List.perm_middle.symm)
theorem Hp.m10 (ok:Hp h0 D (q0::q1::q2::q3::q4::q5::q6::q7::q8::q9::q10::M) R h):q10.p h:=(ok.m q10 (by simp)).1
theorem Hp.n11 (ok:Hp h0 D (q0::q1::q2::q3::q4::q5::q6::q7::q8::q9::q10::q11::M) R h):Hp h0 D (q11::q0::q1::q2::q3::q4::q5::q6::q7::q8::q9::q10::M) R h:=ok.perm (show (q11::([q0,q1,q2,q3,q4,q5,q6,q7,q8,q9,q10]++M)).Perm ([q0,q1,q2,q3,q4,q5,q6,q7,q8,q9,q10]++q11::M) from List.perm_middle.symm)
theorem Hp.n12 (ok:Hp h0 D (q0::q1::q2::q3::q4::q5::q6::q7::q8::q9::q10::q11::q12::M) R h):Hp h0 D (q12::q0::q1::q2::q3::q4::q5::q6::q7::q8::q9::q10::q11::M) R h:=ok.perm (show (q12::([q0,q1,q2,q3,q4,q5,q6,q7,q8,q9,q10,q11]++M)).Perm ([q0,q1,q2,q3,q4,q5,q6,q7,q8,q9,q10,q11]++q12::M) from List.perm_middle.symm)
theorem Hp.m12 (ok:Hp h0 D (q0::q1::q2::q3::q4::q5::q6::q7::q8::q9::q10::q11::q12::M) R h):q12.p h:=(ok.m q12 (by simp)).1
theorem Hp.k12 (ok:Hp h0 D (q0::q1::q2::q3::q4::q5::q6::q7::q8::q9::q10::q11::M) R h):Hp h0 D [q0,q1,q2,q3,q4,q5,q6,q7,q8,q9,q10,q11] R h:=ok.keep (show ([q0,q1,q2,q3,q4,q5,q6,q7,q8,q9,q10,q11]:List Itm).Sublist ([q0,q1,q2,q3,q4,q5,q6,q7,q8,q9,q10,q11]++M) from List.sublist_append_left _ _)
theorem Hp.n13 (ok:Hp h0 D (q0::q1::q2::q3::q4::q5::q6::q7::q8::q9::q10::q11::q12::q13::M) R h):Hp h0 D (q13::q0::q1::q2::q3::q4::q5::q6::q7::q8::q9::q10::q11::q12::M) R h:=ok.perm (show (q13::([q0,q1,q2,q3,q4,q5,q6,q7,q8,q9,q10,q11,q12]++M)).Perm ([q0,q1,q2,q3,q4,q5,q6,q7,q8,q9,q10,q11,q12]++q13::M) from List.perm_middle.symm)
theorem Hp.m13 (ok:Hp h0 D (q0::q1::q2::q3::q4::q5::q6::q7::q8::q9::q10::q11::q12::q13::M) R h):q13.p h:=(ok.m q13 (by simp)).1
theorem Hp.k13 (ok:Hp h0 D (q0::q1::q2::q3::q4::q5::q6::q7::q8::q9::q10::q11::q12::M) R h):Hp h0 D [q0,q1,q2,q3,q4,q5,q6,q7,q8,q9,q10,q11,q12] R h:=ok.keep (show ([q0,q1,q2,q3,q4,q5,q6,q7,q8,q9,q10,q11,q12]:List Itm).Sublist ([q0,q1,q2,q3,q4,q5,q6,q7,q8,q9,q10,q11,q12]++M) from List.sublist_append_left _ _)
end
theorem HOY.z {P:Program} {n:Nat} {ops:Array Oper} {l:List Oper} {K:Slots→Heap→Prop} {s:Slots} {h:Heap} {op:Op} {ty:TypeId} {pos:String} {af:Array Edge} {g:Option (Nat × Bool)} {d:Nat} {v:Value} (hv:OpV P ⟨some d,op,ty,pos,af,g⟩ s h v) (hk:HOY P n ops l K (upd s d v) h) (hw:wants ops ⟨some d,op,ty,pos,af,g⟩ s=true:=by exact rfl) (hn:Nat.blt d n=true:=by exact rfl):HOY P n ops (⟨some d,op,ty,pos,af,g⟩::l) K s h:=HOY.w d hv hk hw rfl hn
end Go.HL
namespace Go.Proofs.YtndlpekckpdncaaGreat
open Go Go.HL
section
variable {γ:Type} (w:St) (go:γ→Int→List UInt8→γ) (lv:γ→Bool)
def lkGo:Nat→Int→List Int→γ→γ × Int
 | 0,_,_,g=>(g,0)
 | f+1,no,mt,g=>if no=0 then (g,0) else if no<2∨(w.pgs.length:Int)<no∨no∈mt then (g,14) else
  if lv (go g no (w.pgs.getD (no-1).toNat []))=false then (go g no (w.pgs.getD (no-1).toNat []),0) else
  lkGo f ((rdN (w.pgs.getD (no-1).toNat []) 0 4:Nat):Int) (mt++[no]) (go g no (w.pgs.getD (no-1).toNat []))
variable {w go lv} {f:Nat} {no:Int} {mt:List Int} {g:γ}
theorem lk_0:lkGo w go lv (f+1) 0 mt g=(g,0):=by unfold lkGo;rfl
theorem lk_00 (h:no=0):lkGo w go lv (f+1) no mt g=(g,0):=by subst h;exact lk_0
theorem lk_bad (h0:no≠0) (h:no<2∨(w.pgs.length:Int)<no∨no∈mt):lkGo w go lv (f+1) no mt g=(g,14):=by unfold lkGo;rw [if_neg h0,if_pos h]
theorem lk_stop (h0:no≠0) (h:¬(no<2∨(w.pgs.length:Int)<no∨no∈mt)) (h2:lv (go g no (w.pgs.getD (no-1).toNat []))=false):lkGo w go lv (f+1) no mt g=(go g no (w.pgs.getD (no-1).toNat []),0):=by unfold lkGo;rw [if_neg h0,if_neg h,if_pos h2]
theorem lk_go (h0:no≠0) (h:¬(no<2∨(w.pgs.length:Int)<no∨no∈mt)) (h2:lv (go g no (w.pgs.getD (no-1).toNat []))=true):lkGo w go lv (f+1) no mt g=lkGo w go lv f ((rdN (w.pgs.getD (no-1).toNat []) 0 4:Nat):Int) (mt++[no]) (go g no (w.pgs.getD (no-1).toNat [])):=by
 conv=>lhs;unfold lkGo
 rw [if_neg h0,if_neg h,if_neg (by rw [h2];decide)]
end
def mtE (mt:List Int):List (Int × Value):=mt.map fun k=>(k,.bool true)
theorem mt_get {mt:List Int} {k:Int} : (aget (mtE mt) k).getD (.bool false)=.bool (decide (k∈mt)):=by
 induction mt with
 | nil=>rfl
 | cons a l ih=>
  unfold mtE aget at ih⊢;rw [List.map_cons,List.find?_cons];by_cases h:a=k
  ·subst h;simp
  ·have hn:decide (a=k)=false:=decide_eq_false h;simp only [hn];rw [ih];congr 1;simp [Ne.symm h]
theorem mt_put {mt:List Int} {k:Int} (h:k∉mt):aput (mtE mt) k (.bool true)=mtE (mt++[k]):=by
 induction mt with
 | nil=>rfl
 | cons a l ih=>
  have h1:a≠k:=fun e=>h (by simp [e]);have h2:k∉l:=fun e=>h (by simp [e]);show aput ((a,Value.bool true)::mtE l) k (.bool true)=(a,Value.bool true)::mtE (l++[k]);unfold aput;rw [if_neg h1,ih h2]
theorem links_any {h:Heap} {so eb:Nat} {first:Int} :
  HC Tryz.prog 131 #[.pointer (some ⟨so,0,none⟩),.int .i64 first,.pointer (some ⟨eb,0,none⟩)] h (fun v h'=>∃b1 b2 b3,v=.func (.func 174) #[] #[.pointer (some ⟨b1,0,none⟩),.pointer (some ⟨b2,0,none⟩),.pointer (some ⟨b3,0,none⟩)]∧Hp h none_ [boxI b1 3 [.int .i64 first],boxI b2 27 [.pointer (some ⟨so,0,none⟩)],boxI b3 193 [.pointer (some ⟨eb,0,none⟩)]] [] h'):=by
 have ok:=Hp.nil h none_;refine HC.go Tryz.func131 8 ?_;refine .s<|.a' 3 (.bxP ok) ?_;rintro _ η1 ⟨pb1,rfl,ok,xe⟩;refine .a' 4 (.bxI ok) ?_;rintro _ η2 ⟨pb2,rfl,ok,xe⟩;refine .a' 5 (.bxP ok) ?_;rintro _ η3 ⟨pb3,rfl,ok,xe⟩;refine .z .asN<|.nil<|.s<|.z (.mkf (vs:=[.pointer (some ⟨pb2,0,none⟩),.pointer (some ⟨pb1,0,none⟩),.pointer (some ⟨pb3,0,none⟩)]))<|.z .asF<|.nil<|.ret ⟨.func (.func 174) #[] #[.pointer (some ⟨pb2,0,none⟩),.pointer (some ⟨pb1,0,none⟩),.pointer (some ⟨pb3,0,none⟩)],Res.one rfl rfl,⟨pb2,pb1,pb3,rfl,ok.n2.n2⟩⟩
theorem links1_any {β γ:Type} {ab:β→γ} {go:γ→Int→List UInt8→γ} {lv:γ→Bool} {Y:β→Itm} {y0:β} {G:Pgr} {h:Heap} {so b1 b2 b3 eb l:Nat} {F D:Nat→Prop} {w:St} {first:Int}
  (hY:∀(y:β) (no:Int) (b:List UInt8) (x:Option Addr) (c:Nat) (F2 E2:Nat→Prop) (hh:Heap),lv (ab y)=true→2≤no→no≤(w.pgs.length:Int)→b.length=w.z→Hp hh (Y y).F [Y y] [rdI F2 E2 (x,b.length,c) b] hh→HY Tryz.prog l #[.int .i64 no,.slice x b.length c] hh (fun v h'=>∃y',v=.bool (lv (ab y'))∧ab y'=go (ab y) no b∧Hp hh (Y y).F [Y y'] [] h'))
  (hl0:lv (ab y0)=true) (hf:i64N first) (ok:Hp h D [dsI G so F w,boxI b1 3 [.int .i64 first],boxI b2 27 [.pointer (some ⟨so,0,none⟩)],boxI b3 193 [.pointer (some ⟨eb,0,none⟩)],boxI eb 34 [.int .i64 0],Y y0] [] h) :
  HC Tryz.prog 174 #[.func (.yield l) #[] #[],.pointer (some ⟨b1,0,none⟩),.pointer (some ⟨b2,0,none⟩),.pointer (some ⟨b3,0,none⟩)] h (fun v h'=>∃F' y',ab y'=(lkGo w go lv (w.pgs.length+1) first [] (ab y0)).1∧Hp h D [dsI G so F' w,boxI b1 3 [.int .i64 first],boxI b2 27 [.pointer (some ⟨so,0,none⟩)],boxI b3 193 [.pointer (some ⟨eb,0,none⟩)],boxI eb 34 [.int .i64 (lkGo w go lv (w.pgs.length+1) first [] (ab y0)).2],Y y'] [] h'):=by
 have hso:=ds_ok ok.m0;have hfew:=St.few hso;have hzc:=okSz_c hso.z;refine HC.go Tryz.func174 56 ?_;refine .s<|.a' 11 (.mkm (Value.int .i64) ok) ?_;rintro _ η1 ⟨mb1,rfl,ok⟩;refine .z .asM<|.nil<|.s<|.z (.ldx T.ag3 ok.m2)<|.z .asI<|.nil<|.block fun K0 hK0=>.loop (fun m s hh=>∃(no:Int) (mt:List Int) (y:β) (Fo:Nat→Prop),Has s [(0,.func (.yield l) #[] #[]),(2,.pointer (some ⟨b2,0,none⟩)),(3,.pointer (some ⟨b3,0,none⟩)),(5,.map (some mb1)),(6,.int .i64 no)]∧Hp h D [dsI G so Fo w,boxI b1 3 [.int .i64 first],boxI b2 27 [.pointer (some ⟨so,0,none⟩)],boxI b3 193 [.pointer (some ⟨eb,0,none⟩)],boxI eb 34 [.int .i64 0],mapI (Value.int .i64) mb1 (mtE mt),Y y] [] hh∧lkGo w go lv (w.pgs.length+1-mt.length) no mt (ab y)=lkGo w go lv (w.pgs.length+1) first [] (ab y0)∧Met w.pgs.length mt∧lv (ab y)=true∧i64N no∧m=w.pgs.length+1-mt.length) ?_ ?_
 ·exact ⟨_,first,[],y0,F,⟨rfl,rfl,rfl,rfl,rfl,trivial⟩,(ok.n6.n1.n6.n6.n6.n6.n6).k7,rfl,Met.nil,hl0,hf,rfl⟩
 rintro _ _ η2 ⟨no,mt,y,Fo,hs,ok,hgo,hmt,hlv,hno,rfl⟩ J0 hJ0;refine .frame hs fun τ=>?_;refine .seq<|.s<|.z .mvI<|.z .neq<|.nil<|.cdr (fun C0=>?_) (fun C0=>?_)
 ·
  have hml:=hmt.len;obtain ⟨f,hff⟩:∃f,w.pgs.length+1-mt.length=f+1:=⟨w.pgs.length-mt.length,by omega⟩;rw [hff] at hgo;have hn0:no=0:=by simpa using C0
  refine .exit<|hK0 _ _<|.end<|⟨.tuple #[],Res.none rfl,⟨Fo,y,by rw [←hgo,lk_00 hn0],by rw [←hgo,lk_00 hn0];exact (ok.n6.n5.n5.n5.n5.n5).k6⟩⟩
 have hml:=hmt.len;obtain ⟨f,hff⟩:∃f,w.pgs.length+1-mt.length=f+1:=⟨w.pgs.length-mt.length,by omega⟩;rw [hff] at hgo;refine .skip<|.block fun K1 hK1=>.seq<|.s<|.z .mvI<|.z .lss<|.z .mvB<|.sd (fun G17=>?_) (fun G17=>?_)
 ·
  refine .y<|.y<|.y<|.y<|.y<|.z .pkt<|.z .mvB<|.y<|.y<|.y<|.z .pkt<|.nil<|.ct<|.s<|.z (.ldx T.ag193 ok.m3)<|.z .nil<|.ur' (.stI T.sz34 ok.n4) ?_;rintro η3 ⟨ok,cg⟩;refine .nil ?_;refine .ret ⟨.tuple #[],Res.none rfl,⟨Fo,y,by rw [←hgo,lk_bad C0 (by first | exact .inl (by omega) | exact .inr (.inl (by omega)) | exact .inr (.inr (by assumption)))],by rw [←hgo,lk_bad C0 (by first | exact .inl (by omega) | exact .inr (.inl (by omega)) | exact .inr (.inr (by assumption)))];exact (ok.n6.n1.n5.n5.n5.n5).k6⟩⟩
 refine .z .mvI<|.z (.ldx T.ag27 ok.m2)<|.c' 20 .func (sHead_any (G:=G) (w:=w) (ok).loc0) ?_;rintro _ η4 ⟨Fh1,rfl,q⟩;have ok:=(ok).lift1 q;rw [show w.head.val=.agg #[.int .i64 w.head.size,.int .i64 (w.pgs.length:Int),.int .i64 w.head.free,.int .i64 w.head.many,.int .i64 w.head.cookie,.int .i64 w.head.version] from (by rw [←St.head_pages];rfl)];refine .z (.fd T.fd38_1 T.ag3)<|.z .gtr<|.z .pkf<|.z .mvB<|.sd (fun G24=>?_) (fun G24=>?_)
 ·
  refine .y<|.y<|.y<|.z .pkt<|.nil<|.ct<|.s<|.z (.ldx T.ag193 ok.m3)<|.z .nil<|.ur' (.stI T.sz34 ok.n4) ?_;rintro η5 ⟨ok,cg⟩;refine .nil ?_;refine .ret ⟨.tuple #[],Res.none rfl,⟨Fh1,y,by rw [←hgo,lk_bad C0 (by first | exact .inl (by omega) | exact .inr (.inl (by omega)) | exact .inr (.inr (by assumption)))],by rw [←hgo,lk_bad C0 (by first | exact .inl (by omega) | exact .inr (.inl (by omega)) | exact .inr (.inr (by assumption)))];exact (ok.n6.n1.n5.n5.n5.n5).k6⟩⟩
 refine .z .mvM<|.z .mvI<|.z (.lk (KV.int .i64) no (v:=.bool (decide (no∈mt))) T.mp208 (inB_iff T.in3) T.zr4 ok.m5 (by exact mt_get))<|.z .pkf<|.nil<|.cd (fun C1=>?_) (fun C1=>?_)
 ·
  refine .s<|.z (.ldx T.ag193 ok.m3)<|.z .nil<|.ur' (.stI T.sz34 ok.n4) ?_;rintro η6 ⟨ok,cg⟩;refine .nil ?_;refine .ret ⟨.tuple #[],Res.none rfl,⟨Fh1,y,by rw [←hgo,lk_bad C0 (by first | exact .inl (by omega) | exact .inr (.inl (by omega)) | exact .inr (.inr (by assumption)))],by rw [←hgo,lk_bad C0 (by first | exact .inl (by omega) | exact .inr (.inl (by omega)) | exact .inr (.inr (by assumption)))];exact (ok.n6.n1.n5.n5.n5.n5).k6⟩⟩
 have hnm:no∉mt:=C1;have hgd:¬(no<2∨(w.pgs.length:Int)<no∨no∈mt):=by rintro (h | h | h);omega;omega;exact C1 h
 refine .skip<|.s<|.z .mvM<|.z .mvI<|.ur' (.mpu (KV.int .i64) V.sbI no (v:=.bool true) T.mp208 (inB_iff T.in3) ok.n5) ?_;rintro η7 ok;refine .nil ?_;refine .seq<|?_;rw [mt_put hnm] at ok;refine .r<|.z (.ldx T.ag27 ok.m3)<|.z .mvI<|.c' 36 .func (sReadOk_any (G:=G) (w:=w) (no:=no) (b:=(w.pgs.getD (no-1).toNat [])) (ok.n1).loc0 (by omega) (by omega) (by rfl)) ?_;rintro _ η8 ⟨Fr1,xr1,cr1,rfl,hlr1,q⟩;have ok:=(ok.n1).lift2 q;refine .z .mvU<|.z .ex<|.z .ex<|.z .asS<|.z .asI<|.nil<|.seq<|.s<|.z .mvI<|.z .neq<|.nil<|.cf<|.skip<|.seq<|.seq<|?_;have ok:=(ok).frzB (l:=(w.pgs.getD (no-1).toNat [])) rfl;have hbl:=hlr1;have hrc:=ok.r0.c;have hrm:=ok.r0.m;simp only at hrc hrm;refine .ry<|.z .mvF<|.z .mvI<|.z .mvS<|?_;refine .y 47 (hY y no (w.pgs.getD (no-1).toNat []) xr1 cr1 (blkC (sv (xr1,(w.pgs.getD (no-1).toNat []).length,cr1))) none_ _ hlv (by omega) (by omega) hbl (ok.n6).loc1) ?_;rintro _ η9 ⟨y1,rfl,hab,q⟩;have ok:=(ok.n6).lift1 q;refine .z .not<|.nil<|.cond (fun C3=>?_) (fun C3=>?_)
 ·
  refine .ret ⟨.tuple #[],Res.none rfl,⟨Fr1,y1,by rw [←hgo,lk_stop C0 hgd (by rw [←hab];simpa using C3)];exact hab,by rw [←hgo,lk_stop C0 hgd (by rw [←hab];simpa using C3)];exact (ok.n6.n6.n6.n6.n5).k6.tR⟩⟩
 have hlv2:lv (ab y1)=true:=by simpa using C3
 rw [lk_go C0 hgd (by rw [←hab];exact hlv2),←hab,show f=w.pgs.length+1-(mt++[no]).length from by simp;omega] at hgo;have hgo2:=hgo;have hml2:(mt++[no]).length=mt.length+1:=by simp
 have hr4:=rdN_lt4 (w.pgs.getD (no-1).toNat []) 0;refine .skip<|.s<|.z .mvS<|.k 51 .func (read_any (p:=0) (size:=4) (a:=xr1) (c:=cr1) (l:=(w.pgs.getD (no-1).toNat [])) ok.r0 (by omega) (by omega) (by omega))<|.z .mvU<|.z .ex<|.z .ex<|.z .asI<|.z .asI<|.nil<|.r<|.z .mvI<|.z (.cvi T.in3 T.in130 (ha:=by omega))<|.z .asI<|.nil<|.end<|hK1 _ _<|.end<|hJ0 _ _ _ ⟨((rdN (w.pgs.getD (no-1).toNat []) 0 4:Nat):Int),mt++[no],y1,Fr1,⟨rfl,rfl,rfl,rfl,rfl,trivial⟩,(ok.n2.n6.n6.n6.n6.n6).k7.tR,hgo2,hmt.snoc (decide_eq_true ⟨by omega,by omega,hnm⟩),hlv2,by unfold i64N;omega,rfl⟩ (by omega)
open Go Go.HL
theorem _root_.Go.HL.Hp.lenI2 {h0 h:Heap} {D:Nat→Prop} {M R:List Itm} {e:TypeId} {a:Option Addr} {n c:Nat} {l:List Int} (ok:Hp h0 D (capI 1 e (a,n,c) (l.map iv)::M) R h):n=l.length:=by
 have h1:Cap h 1 e (.slice a n c) (l.map iv):=ok.m0;have:=h1.sl.cells.1;rw [List.length_map] at this;omega
abbrev ChG:=List Int × List UInt8 × Bool
def chK (n:Nat) (ol b:List UInt8):Nat:=min (n-ol.length) (b.length-4)
def chGo (n:Nat) (g:ChG) (no:Int) (b:List UInt8):ChG:=if n≤g.2.1.length then (g.1,g.2.1,true) else (g.1++[no],g.2.1++(b.drop 4).take (chK n g.2.1 b),false)
def chLv (n:Nat) (g:ChG):Bool:=!g.2.2 && decide (g.1.length≤g.2.1.length∧g.2.1.length≤n)
def chR (w:St) (first:Int) (n:Nat):ChG × Int:=lkGo w (chGo n) (chLv n) (w.pgs.length+1) first [] ([],[],false)
def chF (w:St) (first n:Int):List Int × List UInt8 × Int:=if n<0∨16384<n∨decide (first=0)≠decide (n=0) then ([],[],1) else
 if (chR w first n.toNat).1.2.2=true then ([],[],14) else if (chR w first n.toNat).2≠0 then ([],[],(chR w first n.toNat).2) else if ((chR w first n.toNat).1.2.1.length:Int)<n then ([],[],14) else ((chR w first n.toNat).1.1,(chR w first n.toNat).1.2.1,0)
section
variable {n:Nat} {pl:List Int} {ol b:List UInt8} {no:Int} {w:St} {first:Int}
theorem chg_stop (h:n≤ol.length):chGo n (pl,ol,false) no b=(pl,ol,true):=if_pos h
theorem chg_go (h:¬n≤ol.length):chGo n (pl,ol,false) no b=(pl++[no],ol++(b.drop 4).take (chK n ol b),false):=if_neg h
theorem chK_len:((b.drop 4).take (chK n ol b)).length=chK n ol b:=by unfold chK;rw [List.length_take,List.length_drop];omega
theorem chl_go (h1:pl.length≤ol.length) (h2:ol.length≤n) (h3:¬n≤ol.length) (h4:5≤b.length):chLv n (pl++[no],ol++(b.drop 4).take (chK n ol b),false)=true:=by
 unfold chLv;have hk:=chK_len (n:=n) (ol:=ol) (b:=b);have hk2:1≤chK n ol b∧chK n ol b≤n-ol.length:=by unfold chK;omega
 simp only [Bool.not_false,Bool.true_and,decide_eq_true_eq,List.length_append,hk,List.length_cons,List.length_nil];omega
variable {m:Int}
theorem chF_1 (h:m<0∨16384<m∨decide (first=0)≠decide (m=0)):chF w first m=([],[],1):=if_pos h
variable (h:¬((n:Int)<0∨16384<(n:Int)∨decide (first=0)≠decide ((n:Int)=0)))
include h
theorem chF_s (h2:(chR w first n).1.2.2=true):chF w first (n:Int)=([],[],14):=by unfold chF;rw [if_neg h,Int.toNat_natCast,if_pos h2]
theorem chF_e (h2:(chR w first n).1.2.2=false) (h3:(chR w first n).2≠0):chF w first (n:Int)=([],[],(chR w first n).2):=by unfold chF;rw [if_neg h,Int.toNat_natCast,if_neg (by rw [h2];decide),if_pos h3]
theorem chF_l (h2:(chR w first n).1.2.2=false) (h3:(chR w first n).2=0) (h4:(chR w first n).1.2.1.length<n):chF w first (n:Int)=([],[],14):=by unfold chF;rw [if_neg h,Int.toNat_natCast,if_neg (by rw [h2];decide),if_neg (by rw [h3];decide),if_pos (by omega)]
theorem chF_0 (h2:(chR w first n).1.2.2=false) (h3:(chR w first n).2=0) (h4:¬(chR w first n).1.2.1.length<n):chF w first (n:Int)=((chR w first n).1.1,(chR w first n).1.2.1,0):=by unfold chF;rw [if_neg h,Int.toNat_natCast,if_neg (by rw [h2];decide),if_neg (by rw [h3];decide),if_neg (by omega)]
end
structure CB where
 pa:Option Addr
 pc:Nat
 pl:List Int
 oa:Option Addr
 oc:Nat
 ol:List UInt8
 sp:Bool
def CB.ab (y:CB):ChG:=(y.pl,y.ol,y.sp)
def cbSt:Bool→LoopState
 | true=>.done
 | false=>.ready
def cbPe:Bool→Option Code
 | true=>some .ret
 | false=>none
def cbL (b5 b6 b7 b8 b9 b10 l n:Nat) (lc:LpC) (y:CB):List Itm:=[boxI b9 24 [.slice y.pa y.pl.length y.pc],capI 1 3 (y.pa,y.pl.length,y.pc) (y.pl.map iv),boxI b10 44 [.slice y.oa y.ol.length y.oc],capI 1 5 (y.oa,y.ol.length,y.oc) (y.ol.map bv),boxI b5 3 [.int .i64 (n:Int)],boxI b6 24 [.slice none 0 0],boxI b7 44 [.slice none 0 0],boxI b8 34 [.int .i64 (bif y.sp then 14 else 0)],lpI lc l (cbSt y.sp) (cbPe y.sp)]
@[reducible] def cbI (b5 b6 b7 b8 b9 b10 l n:Nat) (lc:LpC) (y:CB):Itm:=starI (cbL b5 b6 b7 b8 b9 b10 l n lc y)
theorem chain_any {G:Pgr} {h:Heap} {so:Nat} {F D:Nat→Prop} {w:St} {first n:Int} (ok:Hp h D [dsI G so F w] [] h) (hf:i64N first) (hn:i64N n) :
  HC Tryz.prog 86 #[.pointer (some ⟨so,0,none⟩),.int .i64 first,.int .i64 n] h (fun v h'=>∃F' pa pc oa oc,v=.tuple #[.slice pa (chF w first n).1.length pc,.slice oa (chF w first n).2.1.length oc,.int .i64 (chF w first n).2.2]∧Hp h D [dsI G so F' w,capI 1 3 (pa,(chF w first n).1.length,pc) ((chF w first n).1.map iv),capI 1 5 (oa,(chF w first n).2.1.length,oc) ((chF w first n).2.1.map bv)] [] h'):=by
 have hso:=ds_ok ok.m0;have hfew:=St.few hso;have hzc:=okSz_c hso.z;refine HC.goR Tryz.func86 68 ?_;refine .seq<|.lift<|.r<|.a' 5 (.bxI ok) ?_;rintro _ η1 ⟨pb1,rfl,ok,xe⟩;refine .a' 6 (.alS T.zr24 ok) ?_;rintro _ η2 ⟨pb2,rfl,ok,xe⟩;refine .a' 7 (.alS T.zr44 ok) ?_;rintro _ η3 ⟨pb3,rfl,ok,xe⟩;refine .a' 8 (.alI T.zr34 ok) ?_;rintro _ η4 ⟨pb4,rfl,ok,xe⟩;refine .nil ?_;refine .end<|HSD.on<|.seq<|.lift<|.block fun K0 hK0=>.s<|.z .mvP<|.z (.pEqS T.pt27)<|.z .asB<|.nil<|.cf<|.s<|.z (.ldx T.ag3 ok.m3)<|.z .lss<|.z .mvB<|.sd (fun G20=>?_) (fun G20=>?_)
 ·
  refine .y<|.y<|.z .pkt<|.z .mvB<|.y<|.y<|.y<|.y<|.y<|.z .pkt<|.z .asB<|.nil<|.ct<|.s<|.ur' (.stS T.sz24 ok.n2) ?_;rintro η5 ⟨ok,cg⟩;refine .ur' (.stS T.sz44 ok.n2) ?_;rintro η6 ⟨ok,cg⟩;refine .ur' (.stI T.sz34 ok.n2) ?_;rintro η7 ⟨ok,cg⟩;refine .nil ?_;refine .ret ⟨.tuple #[.slice none 0 0,.slice none 0 0,.int .i64 1],Res.many (vs:=[.slice none 0 0,.slice none 0 0,.int .i64 1]) rfl ⟨⟨_,rfl,load_1 T.ag24 ok.m2⟩,⟨_,rfl,load_1 T.ag44 ok.m1⟩,⟨_,rfl,load_1 T.ag34 ok.m0⟩,trivial⟩ rfl,⟨F,none,0,none,0,by rw [chF_1 (by first | exact .inl (by omega) | exact .inr (.inl (by omega)) | exact .inr (.inr (by simpa using C1)))]<;>rfl,by rw [chF_1 (by first | exact .inl (by omega) | exact .inr (.inl (by omega)) | exact .inr (.inr (by simpa using C1)))];exact (((ok.n4).k1.nilC (k:=1) (e:=5)).nilC (k:=1) (e:=3)).n2⟩⟩
 refine .z (.ldx T.ag3 ok.m3)<|.z .gtr<|.z .pkf<|.z .mvB<|.sd (fun G24=>?_) (fun G24=>?_)
 ·
  refine .y<|.y<|.y<|.y<|.y<|.z .pkt<|.z .asB<|.nil<|.ct<|.s<|.ur' (.stS T.sz24 ok.n2) ?_;rintro η8 ⟨ok,cg⟩;refine .ur' (.stS T.sz44 ok.n2) ?_;rintro η9 ⟨ok,cg⟩;refine .ur' (.stI T.sz34 ok.n2) ?_;rintro η10 ⟨ok,cg⟩;refine .nil ?_;refine .ret ⟨.tuple #[.slice none 0 0,.slice none 0 0,.int .i64 1],Res.many (vs:=[.slice none 0 0,.slice none 0 0,.int .i64 1]) rfl ⟨⟨_,rfl,load_1 T.ag24 ok.m2⟩,⟨_,rfl,load_1 T.ag44 ok.m1⟩,⟨_,rfl,load_1 T.ag34 ok.m0⟩,trivial⟩ rfl,⟨F,none,0,none,0,by rw [chF_1 (by first | exact .inl (by omega) | exact .inr (.inl (by omega)) | exact .inr (.inr (by simpa using C1)))]<;>rfl,by rw [chF_1 (by first | exact .inl (by omega) | exact .inr (.inl (by omega)) | exact .inr (.inr (by simpa using C1)))];exact (((ok.n4).k1.nilC (k:=1) (e:=5)).nilC (k:=1) (e:=3)).n2⟩⟩
 refine .z .mvI<|.z .eql<|.z (.ldx T.ag3 ok.m3)<|.z .eql<|.z (.bNe T.bo4)<|.z .pkf<|.z .asB<|.nil<|.cond (fun C1=>?_) (fun C1=>?_)
 ·
  refine .s<|.ur' (.stS T.sz24 ok.n2) ?_;rintro η11 ⟨ok,cg⟩;refine .ur' (.stS T.sz44 ok.n2) ?_;rintro η12 ⟨ok,cg⟩;refine .ur' (.stI T.sz34 ok.n2) ?_;rintro η13 ⟨ok,cg⟩;refine .nil ?_;refine .ret ⟨.tuple #[.slice none 0 0,.slice none 0 0,.int .i64 1],Res.many (vs:=[.slice none 0 0,.slice none 0 0,.int .i64 1]) rfl ⟨⟨_,rfl,load_1 T.ag24 ok.m2⟩,⟨_,rfl,load_1 T.ag44 ok.m1⟩,⟨_,rfl,load_1 T.ag34 ok.m0⟩,trivial⟩ rfl,⟨F,none,0,none,0,by rw [chF_1 (by first | exact .inl (by omega) | exact .inr (.inl (by omega)) | exact .inr (.inr (by simpa using C1)))]<;>rfl,by rw [chF_1 (by first | exact .inl (by omega) | exact .inr (.inl (by omega)) | exact .inr (.inr (by simpa using C1)))];exact (((ok.n4).k1.nilC (k:=1) (e:=5)).nilC (k:=1) (e:=3)).n2⟩⟩
 obtain ⟨nn,rfl⟩:∃nn:Nat,n=(nn:Int):=⟨n.toNat,by omega⟩;have hbad:¬((nn:Int)<0∨16384<(nn:Int)∨decide (first=0)≠decide ((nn:Int)=0)):=by
  rintro (h | h | h)
  ·omega
  ·omega
  ·exact h (by simpa using C1)
 refine .skip<|.end<|hK0 _ _<|.end<|HSD.on<|.seq<|.lift<|.r<|.a' 9 (.alS T.zr24 ok) ?_;rintro _ η14 ⟨pb5,rfl,ok,xe⟩;refine .nil ?_;refine .end<|HSD.on<|.seq<|.lift<|.r<|.a' 10 (.alS T.zr44 ok) ?_;rintro _ η15 ⟨pb6,rfl,ok,xe⟩;refine .nil ?_;refine .end<|HSD.on<|.seq<|.lift<|.r<|.a' 11 (.alI T.zr34 ok) ?_;rintro _ η16 ⟨pb7,rfl,ok,xe⟩;refine .ur' (.stI T.sz34 ok) ?_;rintro η17 ⟨ok,cg⟩;refine .nil ?_;refine .end<|HSD.on<|.seq<|.seq<|.lift<|.r<|.z .mvP<|.z .mvI<|.c' 33 .func (links_any (so:=so) (eb:=pb7) (first:=first)) ?_;rintro _ η18 ⟨b1k1,b2k1,b3k1,rfl,q⟩;have ok:=ok.addML q;refine .nil ?_;refine .end<|HSD.on<|.rg' (lb:=[.pointer (some ⟨b1k1,0,none⟩),.pointer (some ⟨b2k1,0,none⟩),.pointer (some ⟨b3k1,0,none⟩)]) fun lc l1 D1 η19 hlc hxr hsr hl1 hD1 hlp hdf=>?_?_;have ok:=ok.rgNew' hxr hsr hl1 hD1 hlp hdf;have hY:∀(y:CB) (no:Int) (b:List UInt8) (x:Option Addr) (c:Nat) (F2 E2:Nat→Prop) (hh:Heap),chLv nn y.ab=true→2≤no→no≤(w.pgs.length:Int)→b.length=w.z→Hp hh (cbI pb1 pb2 pb3 pb4 pb5 pb6 l1 nn lc y).F [cbI pb1 pb2 pb3 pb4 pb5 pb6 l1 nn lc y] [rdI F2 E2 (x,b.length,c) b] hh→HY Tryz.prog l1 #[.int .i64 no,.slice x b.length c] hh (fun v h'=>∃y',v=.bool (chLv nn y'.ab)∧y'.ab=chGo nn y.ab no b∧Hp hh (cbI pb1 pb2 pb3 pb4 pb5 pb6 l1 nn lc y).F [cbI pb1 pb2 pb3 pb4 pb5 pb6 l1 nn lc y'] [] h'):=by
  rintro ⟨pa,pc,pl,oa,oc,ol,sp⟩ no b x cx F2 E2 hh hlv hno1 hno2 hbl ok;obtain ⟨hsp,hpl,hol⟩:sp=false∧pl.length≤ol.length∧ol.length≤nn:=by
   have h1:=hlv;unfold chLv CB.ab at h1;simp at h1;exact ⟨h1.1,h1.2.1,h1.2.2⟩
  subst hsp;generalize hDF:(cbI pb1 pb2 pb3 pb4 pb5 pb6 l1 nn lc ⟨pa,pc,pl,oa,oc,ol,false⟩).F=DF at ok⊢;have ok:Hp hh DF [boxI pb5 24 [.slice pa pl.length pc],capI 1 3 (pa,pl.length,pc) (pl.map iv),boxI pb6 44 [.slice oa ol.length oc],capI 1 5 (oa,ol.length,oc) (ol.map bv),boxI pb1 3 [.int .i64 (nn:Int)],boxI pb2 24 [.slice none 0 0],boxI pb3 44 [.slice none 0 0],boxI pb4 34 [.int .i64 0],lpI lc l1 .ready none] [rdI F2 E2 (x,b.length,cx) b] hh:=Hp.unstar ok;have hrc:=ok.r0.c;have hrm:=ok.r0.m;simp only at hrc hrm;have hkd:chK nn ol b=min (nn-ol.length) (b.length-4):=rfl;have hkl:=chK_len (n:=nn) (ol:=ol) (b:=b);refine HY.go' (args:=[.int .i64 no,.slice x b.length cx]) hlc ok.m8 ?_;refine .s<|.z .asI<|.nil<|.r<|.z .asS<|.nil<|.end<|⟨ok.m8,fun η20 cgl szl lpl=>?_⟩;have ok:=(ok.n8).lp cgl lpl;refine .block fun K2 hK2=>.seq<|.s<|.z (.ldx T.ag44 ok.m3)<|.z (.len T.el44)<|.z (.ldx T.ag3 ok.m5)<|.z .geq<|.nil<|.cd (fun C2=>?_) (fun C2=>?_)
  ·
   refine .s<|.ur' (.stS T.sz24 ok.n6) ?_;rintro η21 ⟨ok,cg⟩;refine .ur' (.stS T.sz44 ok.n7) ?_;rintro η22 ⟨ok,cg⟩;refine .ur' (.stI T.sz34 ok.n8) ?_;rintro η23 ⟨ok,cg⟩;refine .nil ?_;refine .ret<|⟨ok.m3,fun η24 cgl szl lpl=>?_⟩;have ok:=(ok.n3).lp cgl lpl;exact ⟨⟨pa,pc,pl,oa,oc,ol,true⟩,rfl,(chg_stop (show nn≤ol.length by omega)).symm,Hp.star (l:=cbL pb1 pb2 pb3 pb4 pb5 pb6 l1 nn lc ⟨pa,pc,pl,oa,oc,ol,true⟩) (M:=[]) (ok.n1.n2.n3.n8.n8.n8.n8.n8).k9.tR⟩
  refine .skip<|.s<|.z (.ldx T.ag24 ok.m1)<|.z .mvI<|.a' 42 (.lit [.tmp 41] (cs:=[.int .i64 no]) T.el24 T.sz3 T.zr3 ok ⟨rfl,trivial⟩) ?_;rintro _ η25 ⟨pb8,rfl,ok,xe⟩;refine .a' 43 (.app (news:=[.int .i64 no]) T.el24 T.sz3 T.by3 T.zr3 ok.n3 (ok.n3.m1).sl (oneL rfl) (by simp only [List.length_map,List.length_cons,List.length_nil];omega)) ?_;rintro _ η26 ⟨ya1,yn1,yc1,rfl,ok,ap⟩;have ok:=ok.cx (ys:=(pl++[no]).map iv) snocI;obtain rfl:yn1=(pl++[no]).length:=ok.lenI2;refine .ur' (.stS T.sz24 ok.n3) ?_;rintro η27 ⟨ok,cg⟩;refine .nil ?_;refine .t 12 mixed ?_;simp only [List.take_succ_cons,List.take_zero,List.drop_succ_cons,List.drop_zero];refine .z (.ldx T.ag44 ok.m4)<|.z .mvS<|.z (.ldx T.ag3 ok.m6)<|.z (.ldx T.ag44 ok.m4)<|.z (.len T.el44)<|.z .sub<|.z .mvS<|.z (.len T.el44)<|.z .sub<|.z .min2<|.z .add<|.z (.slh 4 (4+chK nn ol b) T.el44 T.sz5)<|?_;generalize hc1:cutA x 4 cx 1=ca1;generalize hn1:(4+chK nn ol b)-4=cn1;obtain rfl:cn1=(((b.drop 4).take (chK nn ol b))).length:=by rw [←hn1];simp<;>omega
  have ok:=ok.d0 (rdI F2 E2 (ca1,(((b.drop 4).take (chK nn ol b))).length,cx-4) ((b.drop 4).take (chK nn ol b))) (by have h1:=ok.r0.cut (i:=4) (j:=(4+chK nn ol b)) (by omega) (by omega);rw [show ((b).drop 4).take ((4+chK nn ol b)-4)=((b.drop 4).take (chK nn ol b)) from (by rw [show 4+chK nn ol b-4=chK nn ol b from by omega])] at h1;rw [←hc1,←hn1];exact h1) (fun _ h=>h);refine .nil ?_;refine .a' 56 (.app (news:=((b.drop 4).take (chK nn ol b)).map bv) T.el44 T.sz5 T.by5 T.zr5 ok.n5 (ok.n5.r0).by bv_all (by simp only [List.length_map,List.length_append,List.length_take,List.length_cons,List.length_nil,List.length_replicate,List.length_range,fixedN_len,sealN_len];omega)) ?_;rintro _ η28 ⟨ya2,yn2,yc2,rfl,ok,ap⟩;have ok:=ok.cx (ys:=(ol++((b.drop 4).take (chK nn ol b))).map bv) (by simp [bv]);obtain rfl:yn2=(ol++((b.drop 4).take (chK nn ol b))).length:=ok.lenB;refine .ur' (.stS T.sz44 ok.n5) ?_;rintro η29 ⟨ok,cg⟩;refine .nil ?_;refine .end<|hK2 _ _<|.end<|⟨ok.m5,fun η30 cgl szl lpl=>?_⟩;have ok:=(ok.n5).lp cgl lpl;exact ⟨⟨ya1,yc1,(pl++[no]),ya2,yc2,ol++((b.drop 4).take (chK nn ol b)),false⟩,congrArg Value.bool (chl_go hpl hol (by omega) (by omega)).symm,(chg_go (show ¬nn≤ol.length by omega)).symm,Hp.star (l:=cbL pb1 pb2 pb3 pb4 pb5 pb6 l1 nn lc ⟨ya1,yc1,(pl++[no]),ya2,yc2,ol++((b.drop 4).take (chK nn ol b)),false⟩) (M:=[]) (ok.n9.n9.n9.n9.n6.n6.n8.n8).k9.tR.tR⟩
 have ok:=(ok.nilC (k:=1) (e:=5)).nilC (k:=1) (e:=3);have ok:=Hp.star (l:=cbL pb1 pb2 pb3 pb4 pb5 pb6 l1 nn lc ⟨none,0,[],none,0,[],false⟩) (M:=[dfI D1,boxI b1k1 3 [.int .i64 first],boxI b2k1 27 [.pointer (some ⟨so,0,none⟩)],boxI b3k1 193 [.pointer (some ⟨pb7,0,none⟩)],boxI pb7 34 [.int .i64 0],dsI G so F w]) (ok.n2.n10.n11.n12.n13.n6.n12.n7.n13);have okf:Hp h D ([dsI G so F w,boxI b1k1 3 [.int .i64 first],boxI b2k1 27 [.pointer (some ⟨so,0,none⟩)],boxI b3k1 193 [.pointer (some ⟨pb7,0,none⟩)],boxI pb7 34 [.int .i64 0],cbI pb1 pb2 pb3 pb4 pb5 pb6 l1 nn lc ⟨none,0,[],none,0,[],false⟩]++[dfI D1]) [] _:=ok.n5.n5.n5.n5.n6;refine HC.mono (links1_any (ab:=CB.ab) (go:=chGo nn) (lv:=chLv nn) (Y:=cbI pb1 pb2 pb3 pb4 pb5 pb6 l1 nn lc) (y0:=⟨none,0,[],none,0,[],false⟩) hY (by simp [chLv,CB.ab]) hf (Hp.lc6 okf)) ?_;rintro _ η31 ⟨Fl,⟨pa,pc,pl,oa,oc,ol,_ | _⟩,hab,q⟩
 ·
  have ok:=Hp.lf6 okf q;have ok:Hp h D [boxI pb5 24 [.slice pa pl.length pc],capI 1 3 (pa,pl.length,pc) (pl.map iv),boxI pb6 44 [.slice oa ol.length oc],capI 1 5 (oa,ol.length,oc) (ol.map bv),boxI pb1 3 [.int .i64 (nn:Int)],boxI pb2 24 [.slice none 0 0],boxI pb3 44 [.slice none 0 0],boxI pb4 34 [.int .i64 0],lpI lc l1 .ready none,dsI G so Fl w,boxI b1k1 3 [.int .i64 first],boxI b2k1 27 [.pointer (some ⟨so,0,none⟩)],boxI b3k1 193 [.pointer (some ⟨pb7,0,none⟩)],boxI pb7 34 [.int .i64 ((chR w first nn).2)],dfI D1] [] _:=Hp.unstar (ok.n5);have hch:(chR w first nn).1=(pl,ol,false):=hab.symm;have hsp:(chR w first nn).1.2.2=false:=by rw [hch]
  refine ⟨.ready,none,by decide,ok.m8,fun η32 cgl szl=>?_⟩;have ok:=(ok.n8).lpEnd cgl;show HS none _ _ _ _ _ _;refine .seq<|.block fun K3 hK3=>.s<|.z (.ldx T.ag34 ok.m12)<|.z .neq<|.z .asB<|.nil<|.cd (fun C3=>?_) (fun C3=>?_)
  ·
   have hev:(chR w first nn).2≠0:=C3;refine .seq<|.a 3 (fun fl hh=>cond fl True (Hp h D [boxI pb5 24 [.slice pa pl.length pc],capI 1 3 (pa,pl.length,pc) (pl.map iv),boxI pb6 44 [.slice oa ol.length oc],capI 1 5 (oa,ol.length,oc) (ol.map bv),boxI pb1 3 [.int .i64 (nn:Int)],boxI pb4 34 [.int .i64 0],dsI G so Fl w,boxI b1k1 3 [.int .i64 first],boxI b2k1 27 [.pointer (some ⟨so,0,none⟩)],boxI b3k1 193 [.pointer (some ⟨pb7,0,none⟩)],boxI pb7 34 [.int .i64 ((chR w first nn).2)],dfI D1] [] hh)) mixed ?_;have hS:=ok.n13.n13.n13.n13.n13.n13.n13.n11.n11.n11.n11.n11.k12;refine .l 0 false rfl 60 hS (fun _ hS=>.ldx T.ag34 hS.m10)<|.o1 1<|.ur' false rfl (.stS T.sz24 ok.n5) ?_;rintro η33 ⟨ok,cg⟩;refine ⟨ok.n13.n13.n13.n13.n13.n13.n13.n12.n12.n12.n12.n12.k12,?_⟩;have hS:=ok.n13.n13.n13.n13.n13.n13.n13.n12.n12.n12.n12.n12.k12;refine .o1 2<|.ur' false rfl (.stS T.sz44 ok.n6) ?_;rintro η34 ⟨ok,cg⟩;refine ⟨ok.n13.n13.n13.n13.n13.n13.n13.n13.n13.n13.n13.n13.k12,?_⟩;have hS:=ok.n13.n13.n13.n13.n13.n13.n13.n13.n13.n13.n13.n13.k12;refine .o1 3<|.ur' true rfl (.stI T.sz34 ok.n7) ?_;rintro η35 ⟨ok,cg⟩;refine ⟨trivial,?_⟩;refine .e ?_;refine .ret ⟨D1,rfl,ok.m13,fun η36 cgd szd=>?_⟩;have ok:=(ok.n13).df cgd;refine ⟨.tuple #[.slice none 0 0,.slice none 0 0,.int .i64 ((chR w first nn).2)],Res.many (vs:=[.slice none 0 0,.slice none 0 0,.int .i64 ((chR w first nn).2)]) rfl ⟨⟨_,rfl,load_1 T.ag24 ok.m2⟩,⟨_,rfl,load_1 T.ag44 ok.m1⟩,⟨_,rfl,load_1 T.ag34 ok.m0⟩,trivial⟩ rfl,⟨Fl,none,0,none,0,by rw [chF_e hbad hsp hev]<;>rfl,by rw [chF_e hbad hsp hev];exact (((ok.n8).k1.nilC (k:=1) (e:=5)).nilC (k:=1) (e:=3)).n2⟩⟩
  have hev:(chR w first nn).2=0:=by simpa using C3
  refine .s<|.z (.ldx T.ag44 ok.m2)<|.z (.len T.el44)<|.z (.ldx T.ag3 ok.m4)<|.z .lss<|.z .asB<|.nil<|.cd (fun C4=>?_) (fun C4=>?_)
  ·
   have hlen:(chR w first nn).1.2.1.length<nn:=by rw [hch];show ol.length<nn;omega
   refine .s<|.ur' (.stS T.sz24 ok.n5) ?_;rintro η37 ⟨ok,cg⟩;refine .ur' (.stS T.sz44 ok.n6) ?_;rintro η38 ⟨ok,cg⟩;refine .ur' (.stI T.sz34 ok.n7) ?_;rintro η39 ⟨ok,cg⟩;refine .nil ?_;refine .ret ⟨D1,rfl,ok.m13,fun η40 cgd szd=>?_⟩;have ok:=(ok.n13).df cgd;refine ⟨.tuple #[.slice none 0 0,.slice none 0 0,.int .i64 14],Res.many (vs:=[.slice none 0 0,.slice none 0 0,.int .i64 14]) rfl ⟨⟨_,rfl,load_1 T.ag24 ok.m2⟩,⟨_,rfl,load_1 T.ag44 ok.m1⟩,⟨_,rfl,load_1 T.ag34 ok.m0⟩,trivial⟩ rfl,⟨Fl,none,0,none,0,by rw [chF_l hbad hsp hev hlen]<;>rfl,by rw [chF_l hbad hsp hev hlen];exact (((ok.n8).k1.nilC (k:=1) (e:=5)).nilC (k:=1) (e:=3)).n2⟩⟩
  have hlen:¬(chR w first nn).1.2.1.length<nn:=by rw [hch];show ¬ol.length<nn;omega
  refine .skip<|.end<|hK3 _ _<|.seq<|.a 3 (fun fl hh=>cond fl True (Hp h D [boxI pb5 24 [.slice pa pl.length pc],capI 1 3 (pa,pl.length,pc) (pl.map iv),boxI pb6 44 [.slice oa ol.length oc],capI 1 5 (oa,ol.length,oc) (ol.map bv),boxI pb1 3 [.int .i64 (nn:Int)],boxI pb3 44 [.slice none 0 0],boxI pb4 34 [.int .i64 0],dsI G so Fl w,boxI b1k1 3 [.int .i64 first],boxI b2k1 27 [.pointer (some ⟨so,0,none⟩)],boxI b3k1 193 [.pointer (some ⟨pb7,0,none⟩)],boxI pb7 34 [.int .i64 ((chR w first nn).2)],dfI D1] [] hh)) mixed ?_;have hS:=ok.n13.n13.n13.n13.n13.n13.n13.n13.n12.n12.n12.n12.n12.k13;refine .l 0 false rfl 66 hS (fun _ hS=>.ldx T.ag24 hS.m0)<|.l 1 false rfl 67 hS (fun _ hS=>.ldx T.ag44 hS.m2)<|.o1 2<|.ur' false rfl (.stS T.sz24 ok.n5) ?_;rintro η41 ⟨ok,cg⟩;refine ⟨ok.n13.n13.n13.n13.n13.n13.n13.n13.n13.n13.n13.n13.n13.k13,?_⟩;have hS:=ok.n13.n13.n13.n13.n13.n13.n13.n13.n13.n13.n13.n13.n13.k13;refine .o1 3<|.ur' true rfl (.stS T.sz44 ok.n6) ?_;rintro η42 ⟨ok,cg⟩;refine ⟨trivial,?_⟩;refine .o1 4<|.ur' true rfl (.stI T.sz34 ok.n7) ?_;rintro η43 ⟨ok,cg⟩;refine ⟨trivial,?_⟩;refine .e ?_;refine .ret ⟨D1,rfl,ok.m13,fun η44 cgd szd=>?_⟩;have ok:=(ok.n13).df cgd;refine ⟨.tuple #[.slice pa pl.length pc,.slice oa ol.length oc,.int .i64 0],Res.many (vs:=[.slice pa pl.length pc,.slice oa ol.length oc,.int .i64 0]) rfl ⟨⟨_,rfl,load_1 T.ag24 ok.m2⟩,⟨_,rfl,load_1 T.ag44 ok.m1⟩,⟨_,rfl,load_1 T.ag34 ok.m0⟩,trivial⟩ rfl,⟨Fl,pa,pc,oa,oc,by rw [chF_0 hbad hsp hev hlen,hch]<;>rfl,by rw [chF_0 hbad hsp hev hlen,hch];exact (ok.n6.n5.n8).k3⟩⟩
 have ok:=Hp.lf6 okf q;have ok:Hp h D [boxI pb5 24 [.slice pa pl.length pc],capI 1 3 (pa,pl.length,pc) (pl.map iv),boxI pb6 44 [.slice oa ol.length oc],capI 1 5 (oa,ol.length,oc) (ol.map bv),boxI pb1 3 [.int .i64 (nn:Int)],boxI pb2 24 [.slice none 0 0],boxI pb3 44 [.slice none 0 0],boxI pb4 34 [.int .i64 14],lpI lc l1 .done (some .ret),dsI G so Fl w,boxI b1k1 3 [.int .i64 first],boxI b2k1 27 [.pointer (some ⟨so,0,none⟩)],boxI b3k1 193 [.pointer (some ⟨pb7,0,none⟩)],boxI pb7 34 [.int .i64 ((chR w first nn).2)],dfI D1] [] _:=Hp.unstar (ok.n5);have hch:(chR w first nn).1=(pl,ol,true):=hab.symm;refine ⟨.done,(some .ret),by decide,ok.m8,fun η45 cgl szl=>?_⟩;have ok:=(ok.n8).lpEnd cgl;show finR _ _ _ [col D1] .ret _ _;refine ⟨D1,rfl,ok.m13,fun η46 cgd szd=>?_⟩;have ok:=(ok.n13).df cgd;refine ⟨.tuple #[.slice none 0 0,.slice none 0 0,.int .i64 14],Res.many (vs:=[.slice none 0 0,.slice none 0 0,.int .i64 14]) rfl ⟨⟨_,rfl,load_1 T.ag24 ok.m5⟩,⟨_,rfl,load_1 T.ag44 ok.m6⟩,⟨_,rfl,load_1 T.ag34 ok.m7⟩,trivial⟩ rfl,⟨Fl,none,0,none,0,by rw [chF_s hbad (by rw [hch])]<;>rfl,by rw [chF_s hbad (by rw [hch])];exact (((ok.n8).k1.nilC (k:=1) (e:=5)).nilC (k:=1) (e:=3)).n2⟩⟩
open Go Go.HL
def cntM (l:List (Int × Nat)) (out:List Int):Prop:=∀k,(mget l k).getD 0=out.count k
theorem cntM_nil:cntM [] []:=fun k=>rfl
theorem cntM_put {l:List (Int × Nat)} {out:List Int} {no:Int} (c:cntM l out):cntM (mput l no (out.count no+1)) (out++[no]):=fun k=>by
 rw [mget_mput,List.count_append,List.count_singleton];by_cases h:k=no
 ·subst h;simp
 ·rw [if_neg h,c k];have:(no == k)=false:=by simpa using fun e=>h e.symm
  rw [this];simp
theorem atE_put {l:List (Int × Nat)} {k:Int} {n:Nat} : aput (atE l) k (iv' n)=atE (mput l k n):=aput_mp
def eachL (mb ob hb:Nat) (H:Hd) (mm:Nat) (l:List (Int × Nat)) (a:Option Addr) (c:Nat) (out:List Int):List Itm:=[boxI mb 180 [.map (some mm)],mapI (Value.int .i64) mm (atE l),boxI ob 24 [.slice a out.length c],capI 1 3 (a,out.length,c) (out.map iv),boxI hb 38 [.int .i64 H.size,.int .i64 H.pages,.int .i64 H.free,.int .i64 H.many,.int .i64 H.cookie,.int .i64 H.version]]
@[reducible] def eachI (mb ob hb:Nat) (H:Hd) (F:Nat→Prop) (out:List Int):Itm:=⟨fun h=>∃mm l a c,(starI (eachL mb ob hb H mm l a c out)).p h∧(∀j,(starI (eachL mb ob hb H mm l a c out)).F j→F j)∧cntM l out,F,fun _ _ _ c g ⟨mm,l,a,c',q,f,n⟩=>⟨mm,l,a,c',(starI (eachL mb ob hb H mm l a c' out)).st _ _ _ c (fun j hj=>g j (f j hj)) q,f,n⟩⟩
section
variable {h h':Heap} {mb ob hb:Nat} {H:Hd} {F D:Nat→Prop} {out:List Int} {M R:List Itm}
theorem each_open (ok:Hp h F [eachI mb ob hb H F out] [] h):∃mm l a c,cntM l out∧Hp h (starI (eachL mb ob hb H mm l a c out)).F (eachL mb ob hb H mm l a c out) [] h∧∀j,(starI (eachL mb ob hb H mm l a c out)).F j→F j:=by
 obtain ⟨mm,l,a,c,q,f,n⟩:=ok.m0;have hl:=(ok.m _ List.mem_cons_self).2;refine ⟨mm,l,a,c,n,?_,f⟩;have o:Hp h (starI (eachL mb ob hb H mm l a c out)).F [starI (eachL mb ob hb H mm l a c out)] [] h:=⟨Chg.refl _ _,fun i hi=>by rw [List.mem_singleton.1 hi];exact ⟨q,fun j hj=>⟨(hl j (f j hj)).1,.inl hj⟩⟩,by simp,List.pairwise_singleton _ _,by simp⟩;simpa using Hp.unstar o
theorem each_close {mm:Nat} {l:List (Int × Nat)} {a:Option Addr} {c:Nat} (q:Hp h D (eachL mb ob hb H mm l a c out++M) R h') (hD:∀j,D j→F j) (n:cntM l out):Hp h F (eachI mb ob hb H (starI (eachL mb ob hb H mm l a c out)).F out::M) R h':=by
 have q:=Hp.star q;exact ⟨q.chg.mono fun j _=>hD j,fun i hi=>by
  rcases List.mem_cons.1 hi with rfl | hi
  ·have:=q.m _ List.mem_cons_self;exact ⟨⟨mm,l,a,c,this.1,fun _ h=>h,n⟩,fun j hj=>⟨(this.2 j hj).1,(this.2 j hj).2.imp (hD j) id⟩⟩
  ·have:=q.m i (List.mem_cons_of_mem _ hi);exact ⟨this.1,fun j hj=>⟨(this.2 j hj).1,(this.2 j hj).2.imp (hD j) id⟩⟩,q.r,List.pairwise_cons.2 (List.pairwise_cons.1 q.mm),fun a ha b hb=>by
  rcases List.mem_cons.1 ha with rfl | ha
  ·exact q.mr _ List.mem_cons_self b hb
  ·exact q.mr a (List.mem_cons_of_mem _ ha) b hb⟩
end
theorem put4_spl {l:List UInt8} {p n:Nat} : spl (l.map bv) (p*1) ((fixedN n 4).map bv)=(put4 l p n).map bv:=by
 unfold spl put4;rw [Nat.mul_one,List.map_append,List.map_append,List.map_take,List.map_drop,List.length_map,fixedN_len]
theorem _root_.Go.HL.Hp.lenI {h0 h:Heap} {D:Nat→Prop} {M R:List Itm} {e:TypeId} {a:Option Addr} {n c:Nat} {l:List Int} (ok:Hp h0 D (capI 1 e (a,n,c) (l.map iv)::M) R h):n=l.length:=by
 have h1:Cap h 1 e (.slice a n c) (l.map iv):=ok.m0;have:=h1.sl.cells.1;rw [List.length_map] at this;omega
theorem frOk_iff {N:Nat} {out:List Int} {no:Int} : frOk N out no=true↔2≤no∧no≤(N:Int)∧no∉out:=decide_eq_true_iff
theorem fnum_any {h:Heap} {F E:Nat→Prop} {a:Option Addr} {c p:Nat} {l:List UInt8} (hl:RdL h F E (a,l.length,c) l) (hp:p+4≤l.length) :
  HC Tryz.prog 75 #[.slice a l.length c,.int .i64 (p:Int)] h (fun v h'=>v=.int .i64 ((rdN l p 4:Nat):Int)∧h'=h):=by
 have hc2:=hl.m;have hc1:l.length≤c:=hl.c;simp only at hc2;have hr4:=rdN_lt4 l p;refine HC.go Tryz.func75 15 ?_;refine .s<|.z .asI<|.nil<|.s<|.z .mvS<|.z .mvI<|.k 10 .func (read_any (p:=p) (size:=4) (a:=a) (c:=c) (l:=l) hl (by omega) (by omega) (by omega))<|.z .mvU<|.z .ex<|.z .ex<|.z .asI<|.z .asI<|.nil<|.s<|.z .mvI<|.z (.cvi T.in3 T.in130 (ha:=by omega))<|.z .asI<|.nil<|.ret ⟨.int .i64 (((rdN l p 4):Nat):Int),Res.one rfl rfl,⟨rfl,rfl⟩⟩
theorem ftold_any {h:Heap} {no e:Int} :
  HC Tryz.prog 79 #[.int .i64 no,.int .i64 e] h (fun v h'=>v=.tuple #[.int .i64 (if e=0 then no else 0),.int .i64 e]∧h'=h):=by
 refine HC.go Tryz.func79 10 ?_;refine .s<|.z .asI<|.z .asI<|.nil<|.seq<|.s<|.z .mvI<|.z .neq<|.nil<|.cd (fun C0=>?_) (fun C0=>?_)
 ·
  refine .s<|.z .mvI<|.z .asI<|.z .asI<|.nil<|.ret ⟨.tuple #[.int .i64 0,.int .i64 e],Res.two rfl rfl rfl,⟨by rw [if_neg C0],rfl⟩⟩
 refine .skip<|.s<|.z .mvI<|.z .asI<|.z .asI<|.nil<|.ret ⟨.tuple #[.int .i64 no,.int .i64 0],Res.two rfl rfl rfl,⟨by rw [if_pos (Decidable.not_not.1 C0),Decidable.not_not.1 C0],rfl⟩⟩
theorem froom_any {G:Pgr} {h:Heap} {so:Nat} {F:Nat→Prop} {w:St} (hd:(dsI G so F w).p h) :
  HC Tryz.prog 76 #[.pointer (some ⟨so,0,none⟩)] h (fun v h'=>v=.int .i64 (((w.z-8) / 4:Nat):Int)∧h'=h):=by
 have hzc:=okSz_c (ds_ok hd).z;refine HC.go Tryz.func76 7 ?_;refine .s<|.z .asI<|.nil<|.s<|.z .mvP<|.k 4 .func (sSize_any (G:=G) (F:=F) (w:=w) hd)<|.z .sub<|.z .quo<|.z .asI<|.nil<|.ret ⟨.int .i64 (((w.z:Int)-8) / 4),Res.one rfl rfl,⟨by congr 1;omega,rfl⟩⟩
theorem fput0_any {h:Heap} {a:Option Addr} {c p n:Nat} {l:List UInt8} {D:Nat→Prop} (ok:Hp h D [capI 1 5 (a,l.length,c) (l.map bv)] [] h) (hp:p+4≤l.length) (hn:n<4294967296) (hl:l.length≤1000000) :
  HC Tryz.prog 77 #[.slice a l.length c,.int .i64 (p:Int),.int .i64 (n:Int)] h (fun v h'=>v=.tuple #[]∧Hp h D [capI 1 5 (a,l.length,c) ((put4 l p n).map bv)] [] h'):=by
 refine HC.go Tryz.func77 13 ?_;refine .a 5 (fun fl hh=>cond fl True (Hp h D [capI 1 5 (a,l.length,c) (l.map bv)] [] hh)) mixed ?_;have hS:=ok;refine .g 0 false rfl 6 hS (fun _=>.mvS)<|.g 1 false rfl 7 hS (fun _=>.mvI)<|.g 2 false rfl 8 hS (fun _=>.sll p T.el44 T.sz5)<|.g 3 false rfl 9 hS (fun _=>.mvI)<|.g 4 false rfl 10 hS (fun _=>.cvs T.in130 T.in3 (M:=18446744073709551616) rfl rfl)<|.o1 5<|.c' true rfl 11 .func (fixed_any (n:=n) (size:=4) (by omega) (by omega) (by omega)) ?_;rintro _ η1 own;obtain ⟨ya1,yc1,rfl⟩:=own.formB;have ok:=ok.own own;refine ⟨trivial,?_⟩;refine .o1 6<|.a' true rfl 12 (.cpyA (n:=l.length) (ys:=(fixedN n 4).map bv) (m:=(fixedN n 4).length) p T.el44 T.sz5 ok.n1 ok.n1.m1.sl bv_all rfl (him:=by rw [fixedN_len];omega)) ?_;rintro _ η2 ⟨rfl,ok,cg⟩;refine ⟨trivial,?_⟩;refine .e ?_;refine .end<|⟨.tuple #[],Res.none rfl,⟨rfl,ok.k1.cx put4_spl⟩⟩
theorem fput_any {h:Heap} {a:Option Addr} {c p m n:Nat} {l:List UInt8} {D:Nat→Prop} (ok:Hp h D [capI 1 5 (a,m,c) (l.map bv)] [] h) (hp:p+4≤l.length) (hn:n<4294967296) (hl:l.length≤1000000) :
  HC Tryz.prog 77 #[.slice a m c,.int .i64 (p:Int),.int .i64 (n:Int)] h (fun v h'=>v=.tuple #[]∧Hp h D [capI 1 5 (a,m,c) ((put4 l p n).map bv)] [] h'):=by
 obtain rfl:m=l.length:=ok.lenB;exact fput0_any ok hp hn hl
theorem feach_any {h:Heap} {mb ob hb N:Nat} {H:Hd} {F:Nat→Prop} {out:List Int} {no:Int} (ok:Hp h F [eachI mb ob hb H F out] [] h) (hN:H.pages=(N:Int)) (ho:out.length≤1000000) :
  HC Tryz.prog 123 #[.int .i64 no,.pointer (some ⟨mb,0,none⟩),.pointer (some ⟨ob,0,none⟩),.pointer (some ⟨hb,0,none⟩)] h (fun v h'=>v=.bool (frOk N out no)∧∃F',Hp h F [eachI mb ob hb H F' (out++[no])] [] h'):=by
 obtain ⟨mm,l,a,c,hc,ok,hf⟩:=each_open ok;generalize (starI (eachL mb ob hb H mm l a c out)).F=DF at ok hf;have ok:Hp h DF [boxI mb 180 [.map (some mm)],mapI (Value.int .i64) mm (atE l),boxI ob 24 [.slice a out.length c],capI 1 3 (a,out.length,c) (out.map iv),boxI hb 38 [.int .i64 H.size,.int .i64 H.pages,.int .i64 H.free,.int .i64 H.many,.int .i64 H.cookie,.int .i64 H.version]] [] h:=ok;have hcn:=hc no;have hcl:out.count no≤out.length:=List.count_le_length;have hcm:no∉out→out.count no=0:=fun h=>List.count_eq_zero.2 h;refine HC.go Tryz.func123 28 ?_;refine .s<|.z .asB<|.nil<|.s<|.z (.ldx T.ag180 ok.m0)<|.z .mvI<|.z (.lk (KV.int .i64) no (v:=.int .i64 ((out.count no:Nat):Int)) T.mp180 (inB_iff T.in3) T.zr3 ok.m1 (by rw [at_get,hcn]))<|.z (.addI (b:=1))<|.ur' (.mpu (KV.int .i64) V.sbI no (v:=iv' (out.count no+1)) T.mp180 (inB_iff T.in3) ok.n1) ?_;rintro η1 ok;rw [atE_put] at ok;refine .nil ?_;refine .s<|.z (.ldx T.ag24 ok.m2)<|.z .mvI<|.a' 12 (.lit [.tmp 11] (cs:=[.int .i64 no]) T.el24 T.sz3 T.zr3 ok ⟨rfl,trivial⟩) ?_;rintro _ η2 ⟨pb1,rfl,ok,xe⟩;refine .a' 13 (.app (news:=[.int .i64 no]) T.el24 T.sz3 T.by3 T.zr3 ok.n4 (ok.n4.m1).sl (oneL rfl) (by simp only [List.length_map,List.length_cons,List.length_nil];omega)) ?_;rintro _ η3 ⟨ya1,yn1,yc1,rfl,ok,ap⟩;have ok:=(ok).cx (ys:=(out++[no]).map iv) snocI;obtain rfl:yn1=(out++[no]).length:=ok.lenI;refine .ur' (.stS T.sz24 ok.n4) ?_;rintro η4 ⟨ok,cg⟩;refine .nil ?_;refine .s<|.z .mvI<|.z .geq<|.z .mvB<|.sd (fun G16=>?_) (fun G16=>?_)
 ·
  refine .z .mvI<|.z (.fa T.fd38_1)<|.z (.ldx T.ag3 ok.m5)<|.z .leq<|.z .pkt<|.z .mvB<|.sd (fun G22=>?_) (fun G22=>?_)
  ·
   refine .z (.ldx T.ag180 ok.m4)<|.z .mvI<|.z (.lk (KV.int .i64) no (v:=.int .i64 ((out.count no+1:Nat):Int)) T.mp180 (inB_iff T.in3) T.zr3 ok.m3 (by rw [at_get,mget_mput,if_pos rfl];rfl))<|.z .eql<|.z .pkt<|.z .asB<|.nil<|.ret ⟨.bool (decide (((out.count no+1:Nat):Int)=1)),Res.one rfl rfl,⟨congrArg Value.bool (decide_eq_decide.2 ⟨fun h=>⟨by omega,by omega,List.count_eq_zero.1 (by omega)⟩,fun h=>by have:=hcm h.2.2;omega⟩),_,each_close (M:=[]) (R:=[]) (ok.n5.n2.n2.n4.n5.k5) hf (cntM_put hc)⟩⟩
  refine .y<|.y<|.y<|.y<|.z .pkf<|.z .asB<|.nil<|.ret ⟨.bool false,Res.one rfl rfl,⟨congrArg Value.bool (Eq.symm (Bool.eq_false_iff.2 fun h=>by have:=frOk_iff.1 h;have:=hcm this.2.2;omega)),_,each_close (M:=[]) (R:=[]) (ok.n5.n2.n2.n4.n5.k5) hf (cntM_put hc)⟩⟩
 refine .y<|.y<|.y<|.y<|.z .pkf<|.z .mvB<|.y<|.y<|.y<|.y<|.z .pkf<|.z .asB<|.nil<|.ret ⟨.bool false,Res.one rfl rfl,⟨congrArg Value.bool (Eq.symm (Bool.eq_false_iff.2 fun h=>by have:=frOk_iff.1 h;have:=hcm this.2.2;omega)),_,each_close (M:=[]) (R:=[]) (ok.n5.n2.n2.n4.n5.k5) hf (cntM_put hc)⟩⟩
open Go Go.HL
theorem fpages_any {G:Pgr} {h:Heap} {so mb ob hb:Nat} {F Fe:Nat→Prop} {w:St} {H:Hd} {R:Option (List Int)} (ok:Hp h (starI [dsI G so F w,eachI mb ob hb H Fe []]).F [dsI G so F w,eachI mb ob hb H Fe []] [] h) (hN:H.pages=(w.pgs.length:Int)) (hR:frGo w.pgs ((w.z-8) / 4) (w.pgs.length+1) w.head.free []=R) :
  HC Tryz.prog 122 #[.pointer (some ⟨so,0,none⟩),.func (.func 123) #[] #[.pointer (some ⟨mb,0,none⟩),.pointer (some ⟨ob,0,none⟩),.pointer (some ⟨hb,0,none⟩)]] h (fun v h'=>∃(c:Nat) (F' Fe':Nat→Prop) (out:List Int),v=.int .i64 (c:Int)∧Hp h (starI [dsI G so F w,eachI mb ob hb H Fe []]).F [dsI G so F' w,eachI mb ob hb H Fe' out] [] h'∧((R=some out∧c=0)∨(R=none∧c=14))):=by
 have hso:=ds_ok ok.m0;have hzc:=okSz_c hso.z;have hfew:=St.few hso;refine HC.go Tryz.func122 49 ?_;refine .s<|.z .asI<|.nil<|.seq<|.s<|.z .mvP<|.c' 11 .func (sHead_any (G:=G) (w:=w) (ok).loc0) ?_;rintro _ η1 ⟨Fh1,rfl,q⟩;have ok:=(ok).lift1 q;rw [show w.head.val=.agg #[.int .i64 w.head.size,.int .i64 w.head.pages,.int .i64 w.head.free,.int .i64 w.head.many,.int .i64 w.head.cookie,.int .i64 w.head.version] from rfl];refine .z (.fd T.fd38_2 T.ag3)<|.z .asI<|.nil<|.block fun K0 hK0=>.loop (fun m s hh=>∃(at_:Int) (out:List Int) (f:Nat) (F1 Fe1:Nat→Prop),Has s [(0,.pointer (some ⟨so,0,none⟩)),(1,.func (.func 123) #[] #[.pointer (some ⟨mb,0,none⟩),.pointer (some ⟨ob,0,none⟩),.pointer (some ⟨hb,0,none⟩)]),(5,.int .i64 at_)]∧Hp h (starI [dsI G so F w,eachI mb ob hb H Fe []]).F [dsI G so F1 w,eachI mb ob hb H Fe1 out] [] hh∧Met w.pgs.length out∧frGo w.pgs ((w.z-8) / 4) f at_ out=R∧w.pgs.length+1≤out.length+f∧m=f*1) ?_ ?_
 ·exact ⟨_,w.head.free,[],w.pgs.length+1,Fh1,Fe,⟨rfl,rfl,rfl,trivial⟩,ok.n1.n1,Met.nil,hR,by simp,rfl⟩
 rintro _ _ η2 ⟨at_,out,f,F1,Fe1,hs,ok,hm,hg,hf,rfl⟩ J0 hJ0;refine .frame hs fun τ=>?_;refine .seq<|.seq<|?_;have hlen:=hm.len;obtain ⟨f,rfl⟩:∃g,f=g+1:=⟨f-1,by omega⟩;refine .r<|.z .mvI<|.z .neq<|.nil<|.cdr (fun C0=>?_) (fun C0=>?_)
 ·
  have hat:at_=0:=Decidable.not_not.1 C0;refine .exit<|hK0 _ _<|.s<|.z .asI<|.nil<|.ret ⟨.int .i64 0,Res.one rfl rfl,⟨0,F1,Fe1,out,rfl,(ok),.inl ⟨by rw [←hg,hat];exact frGo_0,rfl⟩⟩⟩
 refine .skip<|.block fun K1 hK1=>.seq<|.s<|.z .mvF<|.z .mvI<|.c' 17 .dyn (feach_any (N:=w.pgs.length) (H:=H) (out:=out) (no:=at_) (ok.n1).loc0 hN (by first | omega | (have:=hmo.len;omega))) ?_;rintro _ η3 ⟨rfl,Fc1,q⟩;have ok:=(ok.n1).lift1 q;refine .z .not<|.nil<|.cond (fun C1=>?_) (fun C1=>?_)
 ·
  refine .s<|.z .asI<|.nil<|.ret ⟨.int .i64 14,Res.one rfl rfl,⟨14,F1,Fc1,out++[at_],rfl,(ok.n1),.inr ⟨by rw [←hg];exact frGo_bad C0 (by simpa using C1),rfl⟩⟩⟩
 have hk0:frOk w.pgs.length out at_=true:=by simpa using C1
 obtain ⟨hk1a,hk2a,hk3a⟩:=frOk_iff.1 hk0;refine .skip<|.seq<|?_;obtain ⟨b,hbe⟩:∃b,b=(w.pgs.getD (at_-1).toNat []):=⟨_,rfl⟩;refine .r<|.z .mvP<|.z .mvI<|.c' 22 .func (sReadOk_any (G:=G) (w:=w) (no:=at_) (b:=b) (ok.n1).loc0 (by omega) (by omega) hbe) ?_;rintro _ η4 ⟨Fr1,xr1,cr1,rfl,hlr1,q⟩;have ok:=(ok.n1).lift2 q;refine .z .mvU<|.z .ex<|.z .ex<|.z .asS<|.z .asI<|.nil<|.seq<|.s<|.z .mvI<|.z .neq<|.nil<|.cf<|.skip<|.s<|.z .mvS<|.k 29 .func (fnum_any (p:=4) (a:=xr1) (c:=cr1) (l:=b) (RdL.ofCapB (v:=(xr1,b.length,cr1)) (l:=b) ok.m0) (by omega))<|.z .asI<|.nil<|.seq<|.s<|.z .mvI<|.z .mvP<|.k 32 .func (froom_any (G:=G) (F:=Fr1) (w:=w) ok.m1)<|.z .gtr<|.nil<|.cd (fun C3=>?_) (fun C3=>?_)
 ·
  refine .s<|.z .asI<|.nil<|.ret ⟨.int .i64 14,Res.one rfl rfl,⟨14,Fr1,Fc1,out++[at_],rfl,(ok.n2.n2.k2),.inr ⟨by rw [←hg];exact frGo_many C0 hk0 (by rw [←hbe];omega),rfl⟩⟩⟩
 refine .skip<|.seq<|.s<|.z .mvI<|.z .mvI<|.nil<|.block fun K2 hK2=>.loop (fun m s hh=>∃(i:Nat) (o:List Int) (Fe2:Nat→Prop),Has s [(0,.pointer (some ⟨so,0,none⟩)),(1,.func (.func 123) #[] #[.pointer (some ⟨mb,0,none⟩),.pointer (some ⟨ob,0,none⟩),.pointer (some ⟨hb,0,none⟩)]),(6,.slice xr1 b.length cr1),(34,.int .i64 (((rdN b 4 4):Nat):Int)),(35,.int .i64 (i:Int))]∧Hp h (starI [dsI G so F w,eachI mb ob hb H Fe []]).F [dsI G so Fr1 w,eachI mb ob hb H Fe2 o,capI 1 5 (xr1,b.length,cr1) (b.map bv)] [] hh∧Met w.pgs.length o∧frIn w.pgs.length ((frNums b).drop i) o=frIn w.pgs.length (frNums b) (out++[at_])∧i≤rdN b 4 4∧out.length+1≤o.length∧m=rdN b 4 4-i) ?_ ?_
 ·exact ⟨_,0,out++[at_],Fc1,⟨rfl,rfl,rfl,rfl,rfl,trivial⟩,ok.n2.n2,hm.snoc hk0,rfl,Nat.zero_le _,by simp,rfl⟩
 rintro _ _ η5 ⟨i,o,Fe2,hs,ok,hmo,hin,hi,hol,rfl⟩ J1 hJ1;refine .frame hs fun τ=>?_;refine .s<|.z .lss<|.nil<|.seq<|.cdr (fun C4=>?_) (fun C4=>?_)
 ·
  refine .exit<|hK2 _ _<|?_;have hi3:i=rdN b 4 4:=by omega
  have hgo:frGo w.pgs ((w.z-8) / 4) f ((rdN b 0 4:Nat):Int) o=R:=by
   rw [←hg,frGo_in C0 hk0 (by rw [←hbe];omega),←hbe,←hin,hi3,List.drop_eq_nil_of_le (by rw [frNums_len];exact Nat.le_refl _),frIn_nil];rfl
  refine .r<|.z .mvS<|.k 48 .func (fnum_any (p:=0) (a:=xr1) (c:=cr1) (l:=b) (RdL.ofCapB (v:=(xr1,b.length,cr1)) (l:=b) ok.m2) (by omega))<|.z .asI<|.nil<|.end<|hK1 _ _<|.end<|hJ0 _ _ _ ⟨(((rdN b 0 4):Nat):Int),o,f,Fr1,Fe2,⟨rfl,rfl,rfl,trivial⟩,ok.n1.n1.k2,hmo,hgo,by omega,rfl⟩ (by omega)
 have hi2:i<rdN b 4 4:=by omega
 refine .skip<|.seq<|.block fun K3 hK3=>.s<|.z .mvI<|.z .asI<|.nil<|.s<|.z .mvF<|.z .mvS<|.z .mvI<|.z (.mulI (a:=4))<|.z (.addI (a:=8))<|.k 43 .func (fnum_any (p:=(8+(4*i))) (a:=xr1) (c:=cr1) (l:=b) (RdL.ofCapB (v:=(xr1,b.length,cr1)) (l:=b) ok.m2) (by omega))<|.c' 44 .dyn (feach_any (N:=w.pgs.length) (H:=H) (out:=o) (no:=(((rdN b (8+(4*i)) 4):Nat):Int)) (ok.n1).loc0 hN (by first | omega | (have:=hmo.len;omega))) ?_;rintro _ η6 ⟨rfl,Fc2,q⟩;have ok:=(ok.n1).lift1 q;refine .z .not<|.nil<|.cond (fun C5=>?_) (fun C5=>?_)
 ·
  refine .s<|.z .asI<|.nil<|.ret ⟨.int .i64 14,Res.one rfl rfl,⟨14,Fr1,Fc2,o++[(((rdN b (8+(4*i)) 4):Nat):Int)],rfl,(ok.n1.k2),.inr ⟨by rw [←hg];exact (by rw [frGo_in C0 hk0 (by rw [←hbe];omega),←hbe,←hin,frNums_drop hi2,frIn_no (by simpa using C5)];rfl),rfl⟩⟩⟩
 have hk1:frOk w.pgs.length o ((rdN b (8+4*i) 4:Nat):Int)=true:=by simpa using C5
 refine .skip<|.end<|hK3 _ _<|.r<|.z (.addI (b:=1))<|.z .mvI<|.nil<|.end<|hJ1 _ _ _ ⟨i+1,o++[((rdN b (8+4*i) 4:Nat):Int)],Fc2,⟨rfl,rfl,rfl,rfl,rfl,trivial⟩,ok.n2.n1.n2,hmo.snoc hk1,by rw [←hin,frNums_drop hi2,frIn_ok hk1],by omega,by simp;omega,rfl⟩ (by omega)
open Go.RowKit Go.Sort Go.Shelf Go.MapKept
theorem HC.of_callsW {P:Program} {f:FuncId} {args:Array Value} {h:Heap} {R:Value→Heap→Prop} (hc:Callable P f) (hr:∀w:World,w.heap=h→Calls P f args w fun e w'=>∃v,e=.returned v∧(w'.os=w.os∧w'.tape=w.tape∧w'.output=w.output)∧R v w'.heap):HC P f args h R:=
 ⟨hc,fun _ w at'=>(hr w at'.heap).mono fun _ w' ⟨v,e,b,r⟩=>⟨v,w'.heap,e,⟨rfl,b.1.trans at'.os,b.2.1.trans at'.tape,b.2.2.trans at'.output⟩,r⟩⟩
theorem cells_put {cs:Array Value} {o:Nat} {S:List Int} (h:o+S.length≤cs.size):((putCells (Value.int .i64) o S.toArray cs).toList.drop o).take S.length=S.map iv:=by
 apply List.ext_getElem?;intro j;by_cases hj:j<S.length
 ·rw [List.getElem?_take_of_lt hj,List.getElem?_drop,Array.getElem?_toList];simp [putCells,hj,show o+j<cs.size by omega,iv]
 ·rw [List.getElem?_take_eq_none (by omega),List.getElem?_eq_none (by simp;omega)]
theorem sortI_any {h0 h:Heap} {D:Nat→Prop} {M R:List Itm} {a:Option Addr} {c:Nat} {ks:List Int} (ok:Hp h0 D (capI 1 3 (a,ks.length,c) (ks.map iv)::M) R h) (hl:ks.length≤1000000000000) :
  HC Tryz.prog 68 #[.slice a ks.length c] h (fun v h'=>∃S:List Int,v=.tuple #[]∧S.Perm ks∧S.Pairwise (·≤·)∧Hp h0 D (capI 1 3 (a,S.length,c) (S.map iv)::M) R h'):=
 HC.of_callsW ⟨_,Tryz.func68,by decide,rfl⟩ fun w hw=>by
  have hc:Cap h 1 3 (.slice a ks.length c) (ks.map iv):=ok.m0;have hml:(ks.mergeSort fun x y=>decide (x≤y)).length=ks.length:=List.length_mergeSort _;have hpw:(ks.mergeSort fun x y=>decide (x≤y)).Pairwise (·≤·):=by
   have:=List.pairwise_mergeSort (le:=fun x y:Int=>decide (x≤y)) (fun a b c h1 h2=>by simp at h1 h2⊢;omega) (fun a b=>by simp;omega) ks;exact this.imp fun h=>by simpa using h
  obtain ⟨a',n',c',hv,h1,h2,h3,h4⟩:=hc;injection hv with e1 e2 e3;subst e1 e2 e3;rcases h4 with ⟨rfl,rfl⟩ | ⟨b,o,cs,fz,rfl,hb,hs,hfz,hx⟩
  ·have hz:ks=[]:=List.eq_nil_of_length_eq_zero (by omega);subst hz;refine (AnyM.slices_Sort_int_none Tryz.sortA none 0 w).mono fun e w' ⟨h5,h6⟩=>?_;subst h6;exact ⟨_,h5,⟨rfl,rfl,rfl⟩,[],rfl,.refl _,.nil,by rw [hw];exact ok⟩
  ·have hwb:w.heap[b]? = some (.cells cs 3 fz):=by rw [hw];exact hb
   have hbl:b<w.heap.size:=(Array.getElem?_eq_some_iff.1 hwb).1;have hH:Holds (Value.int .i64) w b o ks.toArray:=by
    intro j hj;have hj':j<ks.length:=by simpa using hj
    refine ⟨?_,frozen?_eq hwb hfz (by omega)⟩;rw [cell?_eq,cell_of hwb,←Array.getElem?_toList];have h6:((cs.toList.drop o).take (ks.length*1))[j]? = (ks.map iv)[j]?:=by rw [hx]
    rw [Nat.mul_one,List.getElem?_take_of_lt hj',List.getElem?_drop] at h6;rw [h6];simp [hj',iv]
   refine (AnyM.slices_Sort_int Tryz.sortA b o c ks w hH hbl (by omega)).mono fun e w' ⟨h5,n,os,h6⟩=>?_;subst h6;have hkeep:∀k,k<w.heap.size→k≠b→(grow (putRow (Value.int .i64) (Sort.ahead w n) b o (ks.mergeSort fun x y=>decide (x≤y)).toArray) os).heap[k]? = w.heap[k]?:=fun k hk hne=>by
    rw [heap_grow_old _ _ (by simpa using hk)];simp [putRow,mapBlock,Sort.ahead,Array.getElem?_modify,Ne.symm hne]
   have hat:(grow (putRow (Value.int .i64) (Sort.ahead w n) b o (ks.mergeSort fun x y=>decide (x≤y)).toArray) os).heap[b]? = some (.cells (putCells (Value.int .i64) o (ks.mergeSort fun x y=>decide (x≤y)).toArray cs) 3 fz):=by
    rw [heap_grow_old _ _ (by simpa using hbl)];simp [putRow,mapBlock,Sort.ahead,Array.getElem?_modify,hwb,onCells]
   have hsz:w.heap.size≤(grow (putRow (Value.int .i64) (Sort.ahead w n) b o (ks.mergeSort fun x y=>decide (x≤y)).toArray) os).heap.size:=by simp
   have hch:Chg (fun j=>j=b) h (grow (putRow (Value.int .i64) (Sort.ahead w n) b o (ks.mergeSort fun x y=>decide (x≤y)).toArray) os).heap:=⟨by rw [←hw];exact hsz,fun k hk hne=>by rw [hkeep k (by rw [hw];exact hk) hne,hw]⟩;have hcap:Cap (grow (putRow (Value.int .i64) (Sort.ahead w n) b o (ks.mergeSort fun x y=>decide (x≤y)).toArray) os).heap 1 3 (.slice (some ⟨b,o,none⟩) (ks.mergeSort fun x y=>decide (x≤y)).length c) ((ks.mergeSort fun x y=>decide (x≤y)).map iv):=
    ⟨_,_,_,rfl,by omega,h2,by simp,.inr ⟨b,o,_,fz,rfl,hat,by simpa [putCells] using hs,by simpa [putCells] using hfz,by rw [Nat.mul_one];exact cells_put (by omega)⟩⟩
   exact ⟨_,h5,⟨rfl,rfl,rfl⟩,_,rfl,List.mergeSort_perm _ _,hpw,ok.upd hch (fun j (hj:j=b)=>hj▸⟨o,ks.length,c,rfl⟩) (capI 1 3 (some ⟨b,o,none⟩,(ks.mergeSort fun x y=>decide (x≤y)).length,c) _) hcap fun j hj=>.inl (by obtain ⟨o2,n2,c2,e⟩:=hj;injection e with e1;injection e1 with e1;injection e1 with e1;exact ⟨o,ks.length,c,by rw [←e1]⟩)⟩
theorem frL_n {w:St} (h:frAll w=none):frL w=[]∧frC w=14:=by unfold frL frC;rw [h];exact ⟨rfl,rfl⟩
theorem frL_s {w:St} {l:List Int} (h:frAll w=some l):frL w=l∧frC w=0:=by unfold frL frC;rw [h];exact ⟨rfl,rfl⟩
theorem frAll_n {w:St} (h:frGo w.pgs ((w.z-8) / 4) (w.pgs.length+1) w.head.free []=none):frAll w=none:=by unfold frAll;rw [h];rfl
theorem frAll_m {w:St} {l:List Int} (h:frGo w.pgs ((w.z-8) / 4) (w.pgs.length+1) w.head.free []=some l) (hm:(l.length:Int)≠w.head.many):frAll w=none:=by unfold frAll;rw [h];exact if_neg hm
theorem frAll_s {w:St} {l:List Int} (h:frGo w.pgs ((w.z-8) / 4) (w.pgs.length+1) w.head.free []=some l) (hm:(l.length:Int)=w.head.many):frAll w=some l:=by unfold frAll;rw [h];exact if_pos hm
theorem each_openM {h0 h:Heap} {mb ob hb:Nat} {H:Hd} {F D:Nat→Prop} {out:List Int} {M R:List Itm} (ok:Hp h0 D (eachI mb ob hb H F out::M) R h):∃mm l a c,Hp h0 D (eachL mb ob hb H mm l a c out++M) R h:=by
 obtain ⟨mm,l,a,c,q,f,n⟩:=ok.m0;exact ⟨mm,l,a,c,Hp.unstar (ok.re (starI (eachL mb ob hb H mm l a c out)) q f)⟩
theorem fall_any {G:Pgr} {h:Heap} {so:Nat} {F:Nat→Prop} {w:St} (ok:Hp h F [dsI G so F w] [] h) :
  HC Tryz.prog 67 #[.pointer (some ⟨so,0,none⟩)] h (fun v h'=>∃F' x c,v=.tuple #[.slice x (frL w).length c,.int .i64 ((frC w:Nat):Int)]∧Hp h F [capI 1 3 (x,(frL w).length,c) ((frL w).map iv),dsI G so F' w] [] h'):=by
 have hso:=ds_ok ok.m0;have hzc:=okSz_c hso.z;have hfew:=St.few hso;have hhr:=St.head_r hso;have hhp:=St.head_pages (w:=w);have hH:=hhr.size;have hHf:=hhr.free;have hHm:=hhr.many;have hHc:=hhr.cookie;have hHv:=hhr.version;refine HC.go Tryz.func67 25 ?_;refine .s<|.z .asS<|.z .asI<|.nil<|.s<|.z .mvP<|.c' 9 .func (sHead_any (G:=G) (w:=w) (ok).loc0) ?_;rintro _ η1 ⟨Fh1,rfl,q⟩;have ok:=(ok).lift1 q;rw [show w.head.val=.agg #[.int .i64 w.head.size,.int .i64 w.head.pages,.int .i64 w.head.free,.int .i64 w.head.many,.int .i64 w.head.cookie,.int .i64 w.head.version] from rfl];refine .a' 4 (.alA T.zr38 ok) ?_;rintro _ η2 ⟨pb1,rfl,ok,xe⟩;refine .ur' (.stW (vs:=[.int .i64 w.head.size,.int .i64 w.head.pages,.int .i64 w.head.free,.int .i64 w.head.many,.int .i64 w.head.cookie,.int .i64 w.head.version]) T.sz38 ok (oneL rfl)) ?_;rintro η3 ⟨ok,cg⟩;refine .nil ?_;refine .s<|.a' 10 (.mkm (Value.int .i64) ok) ?_;rintro _ η4 ⟨mb1,rfl,ok⟩;refine .a' 5 (.alM T.zr180 ok) ?_;rintro _ η5 ⟨pb2,rfl,ok,xe⟩;refine .ur' (.stM T.sz180 ok) ?_;rintro η6 ⟨ok,cg⟩;refine .nil ?_;refine .s<|.a' 6 (.alS T.zr24 ok) ?_;rintro _ η7 ⟨pb3,rfl,ok,xe⟩;refine .nil ?_;refine .seq<|?_;have ok:=ok.nilC (k:=1) (e:=3);obtain ⟨D0,ok0⟩:∃D0,Hp h F (eachI pb2 pb3 pb1 w.head D0 []::[dsI G so Fh1 w]) [] _:=⟨_,each_close (out:=[]) (l:=[]) (H:=w.head) (F:=F) (ok.n4.n1.n2.n4.n4) (fun _ h=>h) cntM_nil⟩;refine .r<|.z .mvP<|.z (.mkf (vs:=[.pointer (some ⟨pb2,0,none⟩),.pointer (some ⟨pb3,0,none⟩),.pointer (some ⟨pb1,0,none⟩)]))<|.c' 13 .func (fpages_any (G:=G) (w:=w) (H:=w.head) (Hp.lc2 ok0.n1) St.head_pages rfl) ?_;rintro _ η8 ⟨cp1,Fp1,Ep1,op1,rfl,q,hRp1⟩;have ok:=Hp.lf2 ok0.n1 q;refine .z .asI<|.nil<|.seq<|.block fun K0 hK0=>.s<|.z .mvI<|.z .neq<|.z .asB<|.nil<|.cd (fun C0=>?_) (fun C0=>?_)
 ·
  refine .s<|.z .mvI<|.z .asS<|.z .asI<|.nil ?_;obtain ⟨hRn,hz⟩:=hRp1.resolve_left (fun h=>by have:=h.2;omega);obtain ⟨hl0,hc0⟩:=frL_n (frAll_n hRn);have ok:=ok.nilC (k:=1) (e:=3);refine .ret ⟨.tuple #[.slice none 0 0,.int .i64 (cp1:Int)],Res.two rfl rfl rfl,⟨_,none,0,by rw [hl0,hc0,hz];rfl,by rw [hl0];exact (ok).k2⟩⟩
 obtain ⟨hRs,hz⟩:=hRp1.resolve_right (fun h=>by have:=h.2;omega);obtain ⟨mm2,l2,a2,c2,ok⟩:=each_openM (ok.n1);have ok:Hp h F [boxI pb2 180 [.map (some mm2)],mapI (Value.int .i64) mm2 (atE l2),boxI pb3 24 [.slice a2 op1.length c2],capI 1 3 (a2,op1.length,c2) (op1.map iv),boxI pb1 38 [.int .i64 w.head.size,.int .i64 w.head.pages,.int .i64 w.head.free,.int .i64 w.head.many,.int .i64 w.head.cookie,.int .i64 w.head.version],dsI G so Fp1 w] [] _:=ok;refine .s<|.z (.ldx T.ag24 ok.m2)<|.z (.len T.el24)<|.z (.fa T.fd38_3)<|.z (.ldx T.ag3 ok.m4)<|.z .neq<|.z .asB<|.nil<|.cd (fun C1=>?_) (fun C1=>?_)
 ·
  refine .s<|.z .asS<|.z .asI<|.nil ?_;obtain ⟨hl0,hc0⟩:=frL_n (frAll_m hRs (by omega));have ok:=ok.nilC (k:=1) (e:=3);refine .ret ⟨.tuple #[.slice none 0 0,.int .i64 14],Res.two rfl rfl rfl,⟨_,none,0,by rw [hl0,hc0];rfl,by rw [hl0];exact (ok.n6.n1).k2⟩⟩
 refine .skip<|.end<|hK0 _ _<|.s<|.z (.ldx T.ag24 ok.m2)<|.z .asS<|.z .asI<|.nil ?_;obtain ⟨hl0,hc0⟩:=frL_s (frAll_s hRs (by omega));refine .ret ⟨.tuple #[.slice a2 op1.length c2,.int .i64 0],Res.two rfl rfl rfl,⟨_,a2,c2,by rw [hl0,hc0];rfl,by rw [hl0];exact (ok.n5.n4).k2⟩⟩
theorem frOp_10 {w:St} (h:w.in_=false):frOp w=([],10):=if_pos h
theorem frOp_4 {w:St} (h:w.in_=true) (h2:w.pgs.length=0):frOp w=([],4):=by unfold frOp;rw [if_neg (by rw [h];decide),if_pos h2]
theorem frOp_l {w:St} (h:w.in_=true) (h2:w.pgs.length≠0):frOp w=(frL w,frC w):=by unfold frOp;rw [if_neg (by rw [h];decide),if_neg h2]
theorem frL_few {w:St} (k:StOk w):(frL w).length≤65536:=by
 have hf:=St.few k;unfold frL;cases h:frAll w with
 | none=>show ([]:List Int).length≤_;simp
 | some l=>
  show l.length≤_;have hm:=(St.head_r k).many;unfold frAll at h;cases hg:frGo w.pgs ((w.z-8) / 4) (w.pgs.length+1) w.head.free [] with
  | none=>rw [hg] at h;cases h
  | some l'=>
   rw [hg] at h;have h2:(if (l'.length:Int)=w.head.many then some l' else none)=some l:=h;split at h2
   ·injection h2 with h2;subst h2;have:=(frGo_met _ _ _ Met.nil hg).len;omega
   ·cases h2
theorem fopen_any {G:Pgr} {h:Heap} {so:Nat} {F:Nat→Prop} {w:St} (ok:Hp h F [dsI G so F w] [] h) :
  HC Tryz.prog 73 #[.pointer (some ⟨so,0,none⟩)] h (fun v h'=>∃F' x c,v=.tuple #[.slice x ((frOp w).1).length c,.int .i64 (((frOp w).2:Nat):Int)]∧Hp h F [capI 1 3 (x,((frOp w).1).length,c) (((frOp w).1).map iv),dsI G so F' w] [] h'):=by
 have hso:=ds_ok ok.m0;have hzc:=okSz_c hso.z;have hfew:=St.few hso;have hhr:=St.head_r hso;have hhp:=St.head_pages (w:=w);have hH:=hhr.size;have hHf:=hhr.free;have hHm:=hhr.many;have hHc:=hhr.cookie;have hHv:=hhr.version;refine HC.go Tryz.func73 20 ?_;refine .s<|.z .asS<|.z .asI<|.nil<|.seq<|.block fun K0 hK0=>.s<|.z .mvP<|.z (.pEqS T.pt27)<|.z .asB<|.nil<|.cf<|.s<|.z .mvP<|.k 9 .func (sIn_any (G:=G) (F:=F) (w:=w) ok.m0)<|.z .not<|.z .asB<|.nil<|.cond (fun C1=>?_) (fun C1=>?_)
 ·
  refine .s<|.z .asS<|.z .asI<|.nil ?_;have ok:=ok.nilC (k:=1) (e:=3);refine .ret ⟨.tuple #[.slice none 0 0,.int .i64 10],Res.two rfl rfl rfl,⟨_,none,0,by rw [frOp_10 (by simpa using C1)]<;>rfl,by rw [frOp_10 (by simpa using C1)];exact ok⟩⟩
 refine .s<|.z .mvP<|.c' 13 .func (sHead_any (G:=G) (w:=w) (ok).loc0) ?_;rintro _ η1 ⟨Fh1,rfl,q⟩;have ok:=(ok).lift1 q;rw [show w.head.val=.agg #[.int .i64 w.head.size,.int .i64 w.head.pages,.int .i64 w.head.free,.int .i64 w.head.many,.int .i64 w.head.cookie,.int .i64 w.head.version] from rfl];refine .z (.fd T.fd38_1 T.ag3)<|.z .eql<|.z .asB<|.nil<|.cd (fun C2=>?_) (fun C2=>?_)
 ·
  refine .s<|.z .asS<|.z .asI<|.nil ?_;have ok:=ok.nilC (k:=1) (e:=3);refine .ret ⟨.tuple #[.slice none 0 0,.int .i64 4],Res.two rfl rfl rfl,⟨_,none,0,by rw [frOp_4 (by simpa using C1) (by omega)]<;>rfl,by rw [frOp_4 (by simpa using C1) (by omega)];exact ok⟩⟩
 refine .skip<|.end<|hK0 _ _<|.s<|.z .mvP<|.c' 17 .func (fall_any (G:=G) (w:=w) (ok).loc0) ?_;rintro _ η2 ⟨Fl1,xl1,cl1,rfl,q⟩;have ok:=(ok).lift2 q;refine .z .ex<|.z .ex<|.z .asS<|.z .asI<|.nil<|.ret ⟨.tuple #[.slice xl1 ((frL w).length) cl1,.int .i64 ((frC w:Nat):Int)],Res.two rfl rfl rfl,⟨_,xl1,cl1,by rw [frOp_l (by simpa using C1) (by omega)]<;>rfl,by rw [frOp_l (by simpa using C1) (by omega)];exact ok⟩⟩
theorem flist_any {G:Pgr} {h:Heap} {so:Nat} {F:Nat→Prop} {w:St} (ok:Hp h F [dsI G so F w] [] h) :
  HC Tryz.prog 17 #[.pointer (some ⟨so,0,none⟩)] h (fun v h'=>∃F' x c,∃S:List Int,S.Perm (frL w)∧S.Pairwise (·≤·)∧v=.tuple #[.slice x S.length c,.int .i64 ((frC w:Nat):Int)]∧Hp h F [capI 1 3 (x,S.length,c) (S.map iv),dsI G so F' w] [] h'):=by
 have hso:=ds_ok ok.m0;have hzc:=okSz_c hso.z;have hfew:=St.few hso;have hhr:=St.head_r hso;have hhp:=St.head_pages (w:=w);have hH:=hhr.size;have hHf:=hhr.free;have hHm:=hhr.many;have hHc:=hhr.cookie;have hHv:=hhr.version;refine HC.go Tryz.func17 17 ?_;refine .s<|.z .asS<|.z .asI<|.nil<|.seq<|.s<|.z .mvP<|.z (.pEqS T.pt27)<|.nil<|.cf<|.skip<|.s<|.z .mvP<|.c' 10 .func (fall_any (G:=G) (w:=w) (ok).loc0) ?_;rintro _ η1 ⟨Fl1,xl1,cl1,rfl,q⟩;have ok:=(ok).lift2 q;refine .z .mvU<|.z .ex<|.z .ex<|.z .asS<|.z .asI<|.nil<|.s<|.z .mvS<|.c' 14 .func (sortI_any (a:=xl1) (c:=cl1) (ks:=(frL w)) (ok) (by have:=frL_few hso;omega)) ?_;rintro _ η2 ⟨S,rfl,hSp,hSs,ok⟩;rw [hSp.length_eq] at ok;refine .nil ?_;refine .s<|.z .mvS<|.z .mvI<|.z .asS<|.z .asI<|.nil<|.ret ⟨.tuple #[.slice xl1 ((frL w).length) cl1,.int .i64 ((frC w:Nat):Int)],Res.two rfl rfl rfl,⟨_,xl1,cl1,S,hSp,hSs,by rw [hSp.length_eq],by rw [hSp.length_eq];exact ok⟩⟩
theorem fheaded_any {G:Pgr} {h:Heap} {so:Nat} {F:Nat→Prop} {w:St} {f m:Int} (ok:Hp h F [dsI G so F w] [] h) (hf:0≤f∧f≤4294967296) (hm : -1≤m∧m≤4294967296) :
  HC Tryz.prog 78 #[.pointer (some ⟨so,0,none⟩),.int .i64 f,.int .i64 m] h (fun v h'=>∃F',v=.int .i64 (((hdd w f m).2:Nat):Int)∧Hp h F [dsI G so F' (hdd w f m).1] [] h'):=by
 have hso:=ds_ok ok.m0;have hzc:=okSz_c hso.z;have hfew:=St.few hso;have hhr:=St.head_r hso;have hhp:=St.head_pages (w:=w);have hH:=hhr.size;have hHf:=hhr.free;have hHm:=hhr.many;have hHc:=hhr.cookie;have hHv:=hhr.version;refine HC.go Tryz.func78 17 ?_;refine .s<|.z .asI<|.nil<|.s<|.z .mvP<|.c' 9 .func (sHead_any (G:=G) (w:=w) (ok).loc0) ?_;rintro _ η1 ⟨Fh1,rfl,q⟩;have ok:=(ok).lift1 q;rw [show w.head.val=.agg #[.int .i64 w.head.size,.int .i64 w.head.pages,.int .i64 w.head.free,.int .i64 w.head.many,.int .i64 w.head.cookie,.int .i64 w.head.version] from rfl];refine .a' 7 (.alA T.zr38 ok) ?_;rintro _ η2 ⟨pb1,rfl,ok,xe⟩;refine .ur' (.stW (vs:=[.int .i64 w.head.size,.int .i64 w.head.pages,.int .i64 w.head.free,.int .i64 w.head.many,.int .i64 w.head.cookie,.int .i64 w.head.version]) T.sz38 ok (oneL rfl)) ?_;rintro η3 ⟨ok,cg⟩;refine .nil ?_;refine .s<|.z .mvI<|.z .mvI<|.z (.fa T.fd38_2)<|.ur' (.stI T.sz3 ok) ?_;rintro η4 ⟨ok,cg⟩;refine .z (.fa T.fd38_3)<|.ur' (.stI T.sz3 ok) ?_;rintro η5 ⟨ok,cg⟩;refine .nil ?_;refine .s<|.z .mvP<|.z (.ldb T.ag38 ok.m0 T.sz38)<|.c' 16 .func (sSetHead_any (G:=G) (w:=w) (H:=(⟨w.head.size,w.head.pages,f,m,w.head.cookie,w.head.version⟩:Hd)) (ok.n1).loc0 ⟨⟨by show _≤w.head.size;omega,by show w.head.size≤_;omega⟩,⟨by show _≤w.head.pages;omega,by show w.head.pages≤_;omega⟩,⟨by show _≤f;omega,by show f≤_;omega⟩,⟨by show _≤m;omega,by show m≤_;omega⟩,⟨by show _≤w.head.cookie;omega,by show w.head.cookie≤_;omega⟩,⟨by show _≤w.head.version;omega,by show w.head.version≤_;omega⟩⟩) ?_;rintro _ η6 ⟨Fs1,rfl,q⟩;have ok:=(ok.n1).lift1 q;refine .z .asI<|.nil<|.ret ⟨.int .i64 (((w.setHead (⟨w.head.size,w.head.pages,f,m,w.head.cookie,w.head.version⟩:Hd)).2:Nat):Int),Res.one rfl rfl,⟨_,rfl,(ok).k1⟩⟩
theorem ix_iff {v:Int} {l:List Int} : 0≤ixOf v l↔v∈l:=⟨fun h=>Classical.byContradiction fun hn=>by rw [ixOf_none hn] at h;omega,fun h=>Classical.byContradiction fun hn=>ixOf_lt (by omega) h⟩
theorem zer_len {z:Nat} : (zer z).length=z:=List.length_replicate
theorem contains_any {h:Heap} {F E:Nat→Prop} {a:Option Addr} {c:Nat} {l:List Int} {v:Int} (hl:RdL h F E (a,l.length,c) l) (hN:l.length≤1000000) :
  HC Tryz.prog 74 #[.slice a l.length c,.int .i64 v] h (fun r h'=>r=.bool (decide (v∈l))∧h'=h):=by
 refine HC.go Tryz.func74 9 ?_;refine .s<|.z .asB<|.nil<|.s<|.z .mvS<|.z .mvI<|.k 7 .func (index_any (a:=a) (n:=l.length) (c:=c) (v:=v) (l:=l) (RdL.ints (x:=(a,l.length,c)) hl))<|.z .geq<|.z .asB<|.nil<|.ret ⟨.bool (decide (0≤(ixOf v l))),Res.one rfl rfl,⟨by rw [decide_eq_decide.2 ix_iff],rfl⟩⟩
theorem frGrow_5 {w:St} (h:16777216 / (w.z:Int)<(w.pgs.length:Int)+1):frGrow w=(w,0,5):=if_pos h
theorem frGrow_e {w:St} (h:¬16777216 / (w.z:Int)<(w.pgs.length:Int)+1) (h2:(w.write ((w.pgs.length:Int)+1) (zer w.z)).2≠0):frGrow w=((w.write ((w.pgs.length:Int)+1) (zer w.z)).1,0,(w.write ((w.pgs.length:Int)+1) (zer w.z)).2):=by unfold frGrow;rw [if_neg h,if_pos h2]
theorem frGrow_h {w:St} (h:¬16777216 / (w.z:Int)<(w.pgs.length:Int)+1) (h2:(w.write ((w.pgs.length:Int)+1) (zer w.z)).2=0):frGrow w=((hdd (w.write ((w.pgs.length:Int)+1) (zer w.z)).1 0 0).1,(w.pgs.length:Int)+1,(hdd (w.write ((w.pgs.length:Int)+1) (zer w.z)).1 0 0).2):=by unfold frGrow;rw [if_neg h,if_neg (by rw [h2];decide)]
theorem fgrow_any {G:Pgr} {h:Heap} {so:Nat} {F:Nat→Prop} {w:St} (ok:Hp h F [dsI G so F w] [] h) :
  HC Tryz.prog 80 #[.pointer (some ⟨so,0,none⟩)] h (fun v h'=>∃F',v=.tuple #[.int .i64 (frGrow w).2.1,.int .i64 (((frGrow w).2.2:Nat):Int)]∧Hp h F [dsI G so F' (frGrow w).1] [] h'):=by
 have hso:=ds_ok ok.m0;have hzc:=okSz_c hso.z;have hfew:=St.few hso;have hhr:=St.head_r hso;have hhp:=St.head_pages (w:=w);have hH:=hhr.size;have hHf:=hhr.free;have hHm:=hhr.many;have hHc:=hhr.cookie;have hHv:=hhr.version;refine HC.go Tryz.func80 27 ?_;refine .s<|.z .asI<|.z .asI<|.nil<|.s<|.z .mvP<|.c' 7 .func (sHead_any (G:=G) (w:=w) (ok).loc0) ?_;rintro _ η1 ⟨Fh1,rfl,q⟩;have ok:=(ok).lift1 q;rw [show w.head.val=.agg #[.int .i64 w.head.size,.int .i64 (w.pgs.length:Int),.int .i64 w.head.free,.int .i64 w.head.many,.int .i64 w.head.cookie,.int .i64 w.head.version] from (by rw [←St.head_pages];rfl)];refine .z (.fd T.fd38_1 T.ag3)<|.z .add<|.z .asI<|.nil<|.seq<|.s<|.z .mvI<|.z .mvP<|.k 12 .func (sSize_any (G:=G) (F:=Fh1) (w:=w) ok.m0)<|.z .quo<|.z .gtr<|.nil<|.cd (fun C0=>?_) (fun C0=>?_)
 ·
  refine .s<|.z .asI<|.z .asI<|.nil<|.ret ⟨.tuple #[.int .i64 0,.int .i64 5],Res.two rfl rfl rfl,⟨_,by rw [frGrow_5 (by omega)]<;>rfl,by rw [frGrow_5 (by omega)];exact (ok)⟩⟩
 refine .skip<|.seq<|.s<|.z .mvP<|.z .mvI<|.z .mvP<|.k 18 .func (sSize_any (G:=G) (F:=Fh1) (w:=w) ok.m0)<|.a' 19 (.mks w.z w.z T.el44 T.sz5 T.by5 T.zr5 ok (hnm:=by omega)) ?_;rintro _ η2 ⟨pb1,rfl,ok,xe⟩;have ok:=ok.cx (ys:=(List.replicate w.z (0:UInt8)).map bv) (zeros8 _);refine .c' 20 .func (sWriteC_any (G:=G) (w:=w) (no:=((w.pgs.length:Int)+1)) (l:=(zer w.z)) (ok.n1) (by rw [zer_len];omega)) ?_;rintro _ η3 ⟨Fk1,rfl,q⟩;have ok:=(ok.n1).lift1 q;refine .z .asI<|.nil<|.s<|.z .mvI<|.z .neq<|.nil<|.cd (fun C1=>?_) (fun C1=>?_)
 ·
  refine .s<|.z .mvI<|.z .asI<|.z .asI<|.nil<|.ret ⟨.tuple #[.int .i64 0,.int .i64 (((w.write ((w.pgs.length:Int)+1) (zer w.z)).2:Nat):Int)],Res.two rfl rfl rfl,⟨_,by rw [frGrow_e (by omega) (by omega)]<;>rfl,by rw [frGrow_e (by omega) (by omega)];exact (ok).k1⟩⟩
 refine .skip<|.s<|.z .mvI<|.z .mvP<|.c' 26 .func (fheaded_any (G:=G) (w:=(w.write ((w.pgs.length:Int)+1) (zer w.z)).1) (f:=0) (m:=0) (ok).loc0 (by omega) (by omega)) ?_;rintro _ η4 ⟨Fz1,rfl,q⟩;have ok:=(ok).lift1 q;refine .z .asI<|.z .asI<|.nil<|.ret ⟨.tuple #[.int .i64 ((w.pgs.length:Int)+1),.int .i64 (((hdd ((w.write ((w.pgs.length:Int)+1) (zer w.z)).1) 0 0).2:Nat):Int)],Res.two rfl rfl rfl,⟨_,by rw [frGrow_h (by omega) (by omega)]<;>rfl,by rw [frGrow_h (by omega) (by omega)];exact (ok).k1⟩⟩
section
variable {w:St}
theorem write_z {no:Int} {b:List UInt8} : (w.write no b).1.z=w.z:=by
 unfold St.write;split<;>(try rfl);split<;>(try rfl);split<;>rfl
theorem tkW_z:(tkW w).1.z=w.z:=by
 unfold tkW;split
 ·exact write_z
 ·rfl
theorem takeF_e (h:(frOp w).2≠0):takeF w=(w,0,(frOp w).2):=if_pos h
theorem takeF_g (h:(frOp w).2=0) (h2:(frOp w).1=[]):takeF w=toldF (frGrow w):=by unfold takeF;rw [if_neg (by rw [h];decide),if_pos h2]
theorem takeF_w (h:(frOp w).2=0) (h2:(frOp w).1≠[]) (h3:(tkW w).2≠0):takeF w=((tkW w).1,0,(tkW w).2):=by unfold takeF;rw [if_neg (by rw [h];decide),if_neg h2,if_pos h3]
theorem takeF_z (h:(frOp w).2=0) (h2:(frOp w).1≠[]) (h3:(tkW w).2=0) (h4:(tkZ w).2≠0):takeF w=((tkZ w).1,0,(tkZ w).2):=by unfold takeF;rw [if_neg (by rw [h];decide),if_neg h2,if_neg (by rw [h3];decide),if_pos h4]
theorem takeF_h (h:(frOp w).2=0) (h2:(frOp w).1≠[]) (h3:(tkW w).2=0) (h4:(tkZ w).2=0):takeF w=toldF ((tkH w).1,tkNo w,(tkH w).2):=by unfold takeF;rw [if_neg (by rw [h];decide),if_neg h2,if_neg (by rw [h3];decide),if_neg (by rw [h4];decide)]
theorem giveF_1 {no:Int} (h:w.in_=true) (h2:0<w.pgs.length) (h3:no<2∨(w.pgs.length:Int)<no):giveF w no=(w,1):=if_pos ⟨h,h2,h3⟩
theorem giveF_e {no:Int} (h:¬(w.in_=true∧0<w.pgs.length∧(no<2∨(w.pgs.length:Int)<no))) (h2:(frOp w).2≠0):giveF w no=(w,(frOp w).2):=by unfold giveF;rw [if_neg h,if_pos h2]
theorem giveF_7 {no:Int} (h:¬(w.in_=true∧0<w.pgs.length∧(no<2∨(w.pgs.length:Int)<no))) (h2:(frOp w).2=0) (h3:no∈(frOp w).1):giveF w no=(w,7):=by unfold giveF;rw [if_neg h,if_neg (by rw [h2];decide),if_pos h3]
theorem giveF_a {no:Int} (h:¬(w.in_=true∧0<w.pgs.length∧(no<2∨(w.pgs.length:Int)<no))) (h2:(frOp w).2=0) (h3:no∉(frOp w).1) (h4:w.head.free≠0) (h5:tkN w<(w.z-8) / 4):giveF w no=thenH (gvA w no) w.head.free (w.head.many+1):=by unfold giveF;rw [if_neg h,if_neg (by rw [h2];decide),if_neg h3,if_pos ⟨h4,h5⟩]
theorem giveF_b {no:Int} (h:¬(w.in_=true∧0<w.pgs.length∧(no<2∨(w.pgs.length:Int)<no))) (h2:(frOp w).2=0) (h3:no∉(frOp w).1) (h4:¬(w.head.free≠0∧tkN w<(w.z-8) / 4)):giveF w no=thenH (gvB w no) no (w.head.many+1):=by unfold giveF;rw [if_neg h,if_neg (by rw [h2];decide),if_neg h3,if_neg h4]
theorem thenH_e {x:St × Nat} {f m:Int} (h:x.2≠0):thenH x f m=x:=if_pos h
theorem thenH_0 {x:St × Nat} {f m:Int} (h:x.2=0):thenH x f m=hdd x.1 f m:=if_neg (by rw [h];decide)
end
theorem ftake_any {G:Pgr} {h:Heap} {so:Nat} {F:Nat→Prop} {w:St} (ok:Hp h F [dsI G so F w] [] h) :
  HC Tryz.prog 21 #[.pointer (some ⟨so,0,none⟩)] h (fun v h'=>∃F',v=.tuple #[.int .i64 (takeF w).2.1,.int .i64 (((takeF w).2.2:Nat):Int)]∧Hp h F [dsI G so F' (takeF w).1] [] h'):=by
 have hso:=ds_ok ok.m0;have hzc:=okSz_c hso.z;have hfew:=St.few hso;have hhr:=St.head_r hso;have hhp:=St.head_pages (w:=w);have hH:=hhr.size;have hHf:=hhr.free;have hHm:=hhr.many;have hHc:=hhr.cookie;have hHv:=hhr.version;refine HC.go Tryz.func21 92 ?_;refine .s<|.z .asI<|.z .asI<|.nil<|.s<|.z .mvP<|.c' 14 .func (fopen_any (G:=G) (w:=w) (ok).loc0) ?_;rintro _ η1 ⟨Fl1,xl1,cl1,rfl,q⟩;have ok:=(ok).lift2 q;refine .z .mvU<|.z .ex<|.z .ex<|.z .asS<|.z .asI<|.nil<|.seq<|.s<|.z .mvI<|.z .neq<|.nil<|.cd (fun C0=>?_) (fun C0=>?_)
 ·
  refine .s<|.z .mvI<|.z .asI<|.z .asI<|.nil<|.ret ⟨.tuple #[.int .i64 0,.int .i64 (((frOp w).2:Nat):Int)],Res.two rfl rfl rfl,⟨_,by rw [takeF_e (by omega)]<;>rfl,by rw [takeF_e (by omega)];exact (ok.n1).k1⟩⟩
 refine .skip<|.seq<|.s<|.z .mvS<|.z (.len T.el24)<|.z .eql<|.nil<|.cd (fun C1=>?_) (fun C1=>?_)
 ·
  refine .s<|.z .mvP<|.c' 24 .func (fgrow_any (G:=G) (w:=w) (ok.n1).loc0) ?_;rintro _ η2 ⟨Ft1,rfl,q⟩;have ok:=(ok.n1).lift1 q;refine .z .ex<|.z .ex<|.k 27 .func (ftold_any (no:=(frGrow w).2.1) (e:=(((frGrow w).2.2:Nat):Int)))<|.z .ex<|.z .ex<|.z .asI<|.z .asI<|.nil<|.ret ⟨.tuple #[.int .i64 (if (((frGrow w).2.2:Nat):Int)=0 then (frGrow w).2.1 else 0),.int .i64 (((frGrow w).2.2:Nat):Int)],Res.two rfl rfl rfl,⟨_,by rw [takeF_g (by omega) (List.eq_nil_of_length_eq_zero (by omega))];unfold toldF;simp only [Int.natCast_eq_zero],by rw [takeF_g (by omega) (List.eq_nil_of_length_eq_zero (by omega))];exact (ok).k1⟩⟩
 have hop:(frOp w).2=0:=by omega
 have hne:(frOp w).1≠[]:=fun h=>by rw [h] at C1;exact C1 rfl
 obtain ⟨hf1,hf2,hf3⟩:=frAll_1 (frOp_0 hop).2.2 hne;have hf3:(rdN (tkA w) 4 4)≤(w.z-8) / 4:=hf3;have hr4:=rdN_lt (l:=tkA w) (p:=0);have hr8:=rdN_lt (l:=tkA w) (p:=8+4*((rdN (tkA w) 4 4)-1));refine .skip<|.s<|.z .mvP<|.c' 31 .func (sHead_any (G:=G) (w:=w) (ok.n1).loc0) ?_;rintro _ η3 ⟨Fh1,rfl,q⟩;have ok:=(ok.n1).lift1 q;rw [show w.head.val=.agg #[.int .i64 w.head.size,.int .i64 (w.pgs.length:Int),.int .i64 w.head.free,.int .i64 w.head.many,.int .i64 w.head.cookie,.int .i64 w.head.version] from (by rw [←St.head_pages];rfl)];refine .a' 6 (.alA T.zr38 ok) ?_;rintro _ η4 ⟨pb1,rfl,ok,xe⟩;refine .ur' (.stW (vs:=[.int .i64 w.head.size,.int .i64 (w.pgs.length:Int),.int .i64 w.head.free,.int .i64 w.head.many,.int .i64 w.head.cookie,.int .i64 w.head.version]) T.sz38 ok (oneL rfl)) ?_;rintro η5 ⟨ok,cg⟩;refine .nil ?_;refine .s<|.z .mvP<|.z (.fa T.fd38_2)<|.z (.ldx T.ag3 ok.m0)<|.c' 36 .func (sReadOk_any (G:=G) (w:=w) (no:=w.head.free) (b:=(tkA w)) (ok.n1).loc0 (by omega) (by omega)) ?_;rintro _ η6 ⟨Fr1,xr1,cr1,rfl,hlr1,q⟩;have ok:=(ok.n1).lift2 q;refine .z .mvU<|.z .ex<|.z .ex<|.z .asS<|.z .asI<|.nil<|.seq<|.s<|.z .mvI<|.z .neq<|.nil<|.cf<|.skip<|.seq<|.q (hm:=mixed)<|.z (.fa T.fd38_2)<|.z (.ldx T.ag3 ok.m2)<|.z (.fa T.fd38_2)<|.z (.ldx T.ag3 ok.m2)<|.z .asI<|.z .asI<|.nil<|.seq<|.s<|.z .mvS<|.k 47 .func (fnum_any (p:=4) (a:=xr1) (c:=cr1) (l:=(tkA w)) (RdL.ofCapB (v:=(xr1,(tkA w).length,cr1)) (l:=(tkA w)) ok.m0) (by omega))<|.z .asI<|.nil<|.s<|.z .mvI<|.z .gtr<|.nil<|.cd (fun C3=>?_) (fun C3=>?_)
 ·
  have hW:tkW w=w.write w.head.free (put4 (put4 (tkA w) (8+4*((rdN (tkA w) 4 4)-1)) 0) 4 ((rdN (tkA w) 4 4)-1)):=if_pos (show 0<(rdN (tkA w) 4 4) by omega);have hNo:tkNo w=((rdN (tkA w) (8+4*((rdN (tkA w) 4 4)-1)) 4:Nat):Int):=if_pos (show 0<(rdN (tkA w) 4 4) by omega);have hFr:tkFr w=w.head.free:=if_pos (show 0<(rdN (tkA w) 4 4) by omega);refine .s<|.z .mvI<|.z .sub<|.z .mul<|.z .add<|?_;rw [show ((8+(4*((((rdN (tkA w) 4 4):Nat):Int)-1))):Int)=((8+4*((rdN (tkA w) 4 4)-1):Nat):Int) from by omega];refine .z .asI<|.nil<|.s<|.z .mvS<|.z .mvI<|.k 56 .func (fnum_any (p:=8+4*((rdN (tkA w) 4 4)-1)) (a:=xr1) (c:=cr1) (l:=(tkA w)) (RdL.ofCapB (v:=(xr1,(tkA w).length,cr1)) (l:=(tkA w)) ok.m0) (by omega))<|.z .asI<|.nil<|.s<|.z .mvS<|.z .mvI<|.c' 59 .func (fput_any (p:=8+4*((rdN (tkA w) 4 4)-1)) (n:=0) (l:=(tkA w)) (ok).loc0 (by first | omega | (rw [put4_len (by omega)];omega)) (by omega) (by first | omega | (rw [put4_len (by omega)];omega))) ?_;rintro _ η7 ⟨rfl,q⟩;have ok:=(ok).lift1 q;refine .nil ?_;refine .s<|.z .mvS<|.z .mvI<|.z .sub<|?_;rw [show (((((rdN (tkA w) 4 4):Nat):Int)-1):Int)=(((rdN (tkA w) 4 4)-1:Nat):Int) from by omega];refine .c' 63 .func (fput_any (p:=4) (n:=(rdN (tkA w) 4 4)-1) (l:=(put4 (tkA w) (8+4*((rdN (tkA w) 4 4)-1)) 0)) (ok).loc0 (by first | omega | (rw [put4_len (by omega)];omega)) (by omega) (by first | omega | (rw [put4_len (by omega)];omega))) ?_;rintro _ η8 ⟨rfl,q⟩;have ok:=(ok).lift1 q;refine .nil ?_;refine .s<|.z .mvP<|.z .mvI<|.z .mvS<|.c' 67 .func (sWriteC_any (G:=G) (w:=w) (no:=w.head.free) (l:=(put4 (put4 (tkA w) (8+4*((rdN (tkA w) 4 4)-1)) 0) 4 ((rdN (tkA w) 4 4)-1))) (ok.n1) (by first | (rw [zer_len];omega) | (rw [put4_len (by rw [put4_len (by omega)];omega),put4_len (by omega)];omega))) ?_;rintro _ η9 ⟨Fk1,rfl,q⟩;have ok:=(ok.n1).lift1 q;have hrl67:(w.write w.head.free (put4 (put4 (tkA w) (8+4*((rdN (tkA w) 4 4)-1)) 0) 4 ((rdN (tkA w) 4 4)-1)))=tkW w:=by rw [hW]
  rw [hrl67] at ok⊢;refine .z .asI<|.nil<|.s<|.z .mvI<|.z .neq<|.nil<|.cd (fun C4=>?_) (fun C4=>?_)
  ·
   refine .s<|.z .mvI<|.z .asI<|.z .asI<|.nil<|.ret ⟨.tuple #[.int .i64 0,.int .i64 ((tkW w).2:Int)],Res.two rfl rfl rfl,⟨_,by rw [takeF_w hop hne (by omega)]<;>rfl,by rw [takeF_w hop hne (by omega)];exact (ok).k1⟩⟩
  have hW0:(tkW w).2=0:=by omega
  refine .skip<|.seq<|.s<|.z .mvP<|.z .mvI<|.z .mvP<|.k 76 .func (sSize_any (G:=G) (F:=Fk1) (w:=((tkW w).1)) ok.m0)<|?_;rw [tkW_z];refine .a' 77 (.mks w.z w.z T.el44 T.sz5 T.by5 T.zr5 ok) ?_;rintro _ η10 ⟨pb2,rfl,ok,xe⟩;have ok:=ok.cx (ys:=(List.replicate w.z (0:UInt8)).map bv) (zeros8 _);refine .c' 78 .func (sWriteC_any (G:=G) (w:=(tkW w).1) (no:=(((rdN (tkA w) (8+4*((rdN (tkA w) 4 4)-1)) 4):Nat):Int)) (l:=(zer w.z)) (ok.n1) (by first | (rw [zer_len];omega) | (rw [put4_len (by rw [put4_len (by omega)];omega),put4_len (by omega)];omega))) ?_;rintro _ η11 ⟨Fk2,rfl,q⟩;have ok:=(ok.n1).lift1 q;have hrl78:(((tkW w).1).write (((rdN (tkA w) (8+4*((rdN (tkA w) 4 4)-1)) 4):Nat):Int) (zer w.z))=tkZ w:=by unfold tkZ;rw [hNo]
  rw [hrl78] at ok⊢;refine .z .asI<|.nil<|.s<|.z .mvI<|.z .neq<|.nil<|.cd (fun C5=>?_) (fun C5=>?_)
  ·
   refine .s<|.z .mvI<|.z .asI<|.z .asI<|.nil<|.ret ⟨.tuple #[.int .i64 0,.int .i64 ((tkZ w).2:Int)],Res.two rfl rfl rfl,⟨_,by rw [takeF_z hop hne hW0 (by omega)]<;>rfl,by rw [takeF_z hop hne hW0 (by omega)];exact (ok).k1⟩⟩
  refine .skip<|.s<|.z .mvI<|.z .mvP<|.z .mvI<|.z (.fa T.fd38_3)<|.z (.ldx T.ag3 ok.m3)<|.z .sub<|.c' 88 .func (fheaded_any (G:=G) (w:=(tkZ w).1) (f:=w.head.free) (m:=(w.head.many-1)) (ok).loc0 (by omega) (by omega)) ?_;rintro _ η12 ⟨Fz1,rfl,q⟩;have ok:=(ok).lift1 q;have hrl88:(hdd ((tkZ w).1) w.head.free (w.head.many-1))=tkH w:=by unfold tkH;rw [hFr]
  rw [hrl88] at ok⊢;refine .k 89 .func (ftold_any (no:=(((rdN (tkA w) (8+4*((rdN (tkA w) 4 4)-1)) 4):Nat):Int)) (e:=((tkH w).2:Int)))<|.z .ex<|.z .ex<|.z .asI<|.z .asI<|.nil<|.ret ⟨.tuple #[.int .i64 (if ((tkH w).2:Int)=0 then (((rdN (tkA w) (8+4*((rdN (tkA w) 4 4)-1)) 4):Nat):Int) else 0),.int .i64 ((tkH w).2:Int)],Res.two rfl rfl rfl,⟨_,by rw [takeF_h hop hne hW0 (by omega)];unfold toldF;simp only [hNo,Int.natCast_eq_zero],by rw [takeF_h hop hne hW0 (by omega)];exact (ok).k1⟩⟩
 have hW:tkW w=(w,0):=if_neg (show ¬0<(rdN (tkA w) 4 4) by omega);have hW0:(tkW w).2=0:=by rw [hW]
 have hNo:tkNo w=w.head.free:=if_neg (show ¬0<(rdN (tkA w) 4 4) by omega);have hFr:tkFr w=((rdN (tkA w) 0 4:Nat):Int):=if_neg (show ¬0<(rdN (tkA w) 4 4) by omega);refine .r<|.z .mvS<|.k 72 .func (fnum_any (p:=0) (a:=xr1) (c:=cr1) (l:=(tkA w)) (RdL.ofCapB (v:=(xr1,(tkA w).length,cr1)) (l:=(tkA w)) ok.m0) (by omega))<|.z .asI<|.nil<|.seq<|.s<|.z .mvP<|.z .mvI<|.z .mvP<|.k 76 .func (sSize_any (G:=G) (F:=Fr1) (w:=w) ok.m1)<|.a' 77 (.mks w.z w.z T.el44 T.sz5 T.by5 T.zr5 ok) ?_;rintro _ η13 ⟨pb3,rfl,ok,xe⟩;have ok:=ok.cx (ys:=(List.replicate w.z (0:UInt8)).map bv) (zeros8 _);refine .c' 78 .func (sWriteC_any (G:=G) (w:=w) (no:=w.head.free) (l:=(zer w.z)) (ok.n2) (by first | (rw [zer_len];omega) | (rw [put4_len (by rw [put4_len (by omega)];omega),put4_len (by omega)];omega))) ?_;rintro _ η14 ⟨Fk3,rfl,q⟩;have ok:=(ok.n2).lift1 q;have hrl78:(w.write w.head.free (zer w.z))=tkZ w:=by unfold tkZ;rw [hNo,hW]
 rw [hrl78] at ok⊢;refine .z .asI<|.nil<|.s<|.z .mvI<|.z .neq<|.nil<|.cd (fun C5=>?_) (fun C5=>?_)
 ·
  refine .s<|.z .mvI<|.z .asI<|.z .asI<|.nil<|.ret ⟨.tuple #[.int .i64 0,.int .i64 ((tkZ w).2:Int)],Res.two rfl rfl rfl,⟨_,by rw [takeF_z hop hne hW0 (by omega)]<;>rfl,by rw [takeF_z hop hne hW0 (by omega)];exact (ok).k1⟩⟩
 refine .skip<|.s<|.z .mvI<|.z .mvP<|.z .mvI<|.z (.fa T.fd38_3)<|.z (.ldx T.ag3 ok.m3)<|.z .sub<|.c' 88 .func (fheaded_any (G:=G) (w:=(tkZ w).1) (f:=(((rdN (tkA w) 0 4):Nat):Int)) (m:=(w.head.many-1)) (ok).loc0 (by omega) (by omega)) ?_;rintro _ η15 ⟨Fz2,rfl,q⟩;have ok:=(ok).lift1 q;have hrl88:(hdd ((tkZ w).1) (((rdN (tkA w) 0 4):Nat):Int) (w.head.many-1))=tkH w:=by unfold tkH;rw [hFr]
 rw [hrl88] at ok⊢;refine .k 89 .func (ftold_any (no:=w.head.free) (e:=((tkH w).2:Int)))<|.z .ex<|.z .ex<|.z .asI<|.z .asI<|.nil<|.ret ⟨.tuple #[.int .i64 (if ((tkH w).2:Int)=0 then w.head.free else 0),.int .i64 ((tkH w).2:Int)],Res.two rfl rfl rfl,⟨_,by rw [takeF_h hop hne hW0 (by omega)];unfold toldF;simp only [hNo,Int.natCast_eq_zero],by rw [takeF_h hop hne hW0 (by omega)];exact (ok).k1⟩⟩
theorem frOp_few {w:St} (k:StOk w):(frOp w).1.length≤65536:=by
 unfold frOp;split
 ·simp
 split
 ·simp
 ·exact frL_few k
theorem gvRange {w:St} {no:Int} (h:¬(w.in_=true∧0<w.pgs.length∧(no<2∨(w.pgs.length:Int)<no))) (hi:w.in_=true) (hp:w.pgs.length≠0):2≤no∧no≤(w.pgs.length:Int):=by
 refine ⟨Classical.byContradiction fun h2=>h ⟨hi,by omega,.inl (by omega)⟩,Classical.byContradiction fun h2=>h ⟨hi,by omega,.inr (by omega)⟩⟩
theorem frFree {w:St} (k:StOk w) {l:List Int} (h:frAll w=some l) (h0:w.head.free≠0):2≤w.head.free∧w.head.free≤(w.pgs.length:Int)∧tkN w≤(w.z-8) / 4:=by
 refine frAll_1 h fun e=>?_;subst e;unfold frAll at h;cases hg:frGo w.pgs ((w.z-8) / 4) (w.pgs.length+1) w.head.free [] with
 | none=>rw [hg] at h;cases h
 | some l'=>
  rw [hg] at h;have h2:(if (l'.length:Int)=w.head.many then some l' else none)=some []:=h;split at h2
  ·rename_i hm;injection h2 with h2;subst h2;have h3:=dec_many (w:=w) (by simpa using hm.symm);exact h0 h3
  ·cases h2
theorem fgive_any {G:Pgr} {h:Heap} {so:Nat} {F:Nat→Prop} {w:St} {no:Int} (ok:Hp h F [dsI G so F w] [] h) (hno : -9223372036854775808≤no∧no≤9223372036854775807) :
  HC Tryz.prog 19 #[.pointer (some ⟨so,0,none⟩),.int .i64 no] h (fun v h'=>∃F',v=.int .i64 (((giveF w no).2:Nat):Int)∧Hp h F [dsI G so F' (giveF w no).1] [] h'):=by
 have hso:=ds_ok ok.m0;have hzc:=okSz_c hso.z;have hfew:=St.few hso;have hhr:=St.head_r hso;have hhp:=St.head_pages (w:=w);have hH:=hhr.size;have hHf:=hhr.free;have hHm:=hhr.many;have hHc:=hhr.cookie;have hHv:=hhr.version;refine HC.go Tryz.func19 114 ?_;refine .s<|.z .asI<|.nil<|.seq<|.seq<|.join (fun s hh=>∃(jb:Bool) (Fj:Nat→Prop),Has s [(0,.pointer (some ⟨so,0,none⟩)),(1,.int .i64 no),(34,.bool jb)]∧Hp h F [dsI G so Fj w] [] hh∧(jb=true↔(w.in_=true∧0<w.pgs.length∧(no<2∨(w.pgs.length:Int)<no)))) ?_ ?_
 ·
  refine .r<|.z .mvP<|.z (.pNeS T.pt27)<|.z .mvB<|.z .mvP<|.k 16 .func (sIn_any (G:=G) (F:=F) (w:=w) ok.m0)<|.z .pkt<|.z .mvB<|.spl (fun G18=>?_) (fun G18=>?_)
  ·
   refine .z .mvP<|.c' 20 .func (sHead_any (G:=G) (w:=w) (ok).loc0) ?_;rintro _ η1 ⟨Fh1,rfl,q⟩;have ok:=(ok).lift1 q;rw [show w.head.val=.agg #[.int .i64 w.head.size,.int .i64 (w.pgs.length:Int),.int .i64 w.head.free,.int .i64 w.head.many,.int .i64 w.head.cookie,.int .i64 w.head.version] from (by rw [←St.head_pages];rfl)];refine .z (.fd T.fd38_1 T.ag3)<|.z .gtr<|.z .pkt<|.z .mvB<|.sd (fun G24=>?_) (fun G24=>?_)
   ·
    refine .z .mvI<|.z .lss<|.z .mvB<|.sd (fun G27=>?_) (fun G27=>?_)
    ·
     refine .y<|.y<|.y<|.y<|.y<|.z .pkt<|.z .pkt<|.nil<|.end<|⟨true,Fh1,⟨rfl,rfl,rfl,trivial⟩,ok,by simp_all<;>omega⟩
    refine .z .mvI<|.z .mvP<|.c' 30 .func (sHead_any (G:=G) (w:=w) (ok).loc0) ?_;rintro _ η2 ⟨Fh2,rfl,q⟩;have ok:=(ok).lift1 q;rw [show w.head.val=.agg #[.int .i64 w.head.size,.int .i64 (w.pgs.length:Int),.int .i64 w.head.free,.int .i64 w.head.many,.int .i64 w.head.cookie,.int .i64 w.head.version] from (by rw [←St.head_pages];rfl)];refine .z (.fd T.fd38_1 T.ag3)<|.z .gtr<|.z .pkf<|.z .pkt<|.nil<|.end<|⟨(decide ((w.pgs.length:Int)<no)),Fh2,⟨rfl,rfl,rfl,trivial⟩,ok,by simp_all<;>omega⟩
   refine .y<|.y<|.y<|.y<|.y<|.y<|.y<|.y<|.y<|.z .pkf<|.nil<|.end<|⟨false,Fh1,⟨rfl,rfl,rfl,trivial⟩,ok,by simp_all<;>omega⟩
  refine .y<|.y<|.y<|.y<|.z .pkf<|.z .mvB<|.y<|.y<|.y<|.y<|.y<|.y<|.y<|.y<|.y<|.z .pkf<|.nil<|.end<|⟨false,F,⟨rfl,rfl,rfl,trivial⟩,ok,by simp_all<;>omega⟩
 rintro s η3 ⟨jb,Fj,hs,ok,hjb⟩;refine .frame hs fun τ=>?_;refine .cond (fun C0=>?_) (fun C0=>?_)
 ·
  have hgc:=hjb.1 C0;refine .s<|.z .asI<|.nil<|.ret ⟨.int .i64 1,Res.one rfl rfl,⟨_,by rw [giveF_1 hgc.1 hgc.2.1 hgc.2.2]<;>rfl,by rw [giveF_1 hgc.1 hgc.2.1 hgc.2.2];exact (ok)⟩⟩
 have hna:¬(w.in_=true∧0<w.pgs.length∧(no<2∨(w.pgs.length:Int)<no)):=fun h=>by rw [hjb.2 h] at C0;cases C0
 refine .skip<|.s<|.z .mvP<|.c' 37 .func (fopen_any (G:=G) (w:=w) (ok).loc0) ?_;rintro _ η4 ⟨Fl1,xl1,cl1,rfl,q⟩;have ok:=(ok).lift2 q;refine .z .mvU<|.z .ex<|.z .ex<|.z .asS<|.z .asI<|.nil<|.seq<|.block fun K0 hK0=>.s<|.z .mvI<|.z .neq<|.z .asB<|.nil<|.cd (fun C1=>?_) (fun C1=>?_)
 ·
  refine .s<|.z .mvI<|.z .asI<|.nil<|.ret ⟨.int .i64 (((frOp w).2:Nat):Int),Res.one rfl rfl,⟨_,by rw [giveF_e hna (by omega)]<;>rfl,by rw [giveF_e hna (by omega)];exact (ok.n1).k1⟩⟩
 refine .s<|.z .mvS<|.z .mvI<|.k 47 .func (contains_any (v:=no) (a:=xl1) (c:=cl1) (l:=(frOp w).1) (RdL.ofInts (x:=(xl1,((frOp w).1).length,cl1)) (E:=none_) (ok.m0).sl) (by have:=frOp_few hso;omega))<|.z .asB<|.nil<|.cd (fun C2=>?_) (fun C2=>?_)
 ·
  refine .s<|.z .asI<|.nil<|.ret ⟨.int .i64 7,Res.one rfl rfl,⟨_,by rw [giveF_7 hna (by omega) C2]<;>rfl,by rw [giveF_7 hna (by omega) C2];exact (ok.n1).k1⟩⟩
 have hop:(frOp w).2=0:=by omega
 have hni:no∉(frOp w).1:=C2;obtain ⟨hoi,hop2,hoa⟩:=frOp_0 hop;refine .skip<|.end<|hK0 _ _<|.s<|.z .mvP<|.c' 49 .func (sHead_any (G:=G) (w:=w) (ok.n1).loc0) ?_;rintro _ η5 ⟨Fh3,rfl,q⟩;have ok:=(ok.n1).lift1 q;rw [show w.head.val=.agg #[.int .i64 w.head.size,.int .i64 (w.pgs.length:Int),.int .i64 w.head.free,.int .i64 w.head.many,.int .i64 w.head.cookie,.int .i64 w.head.version] from (by rw [←St.head_pages];rfl)];refine .a' 7 (.alA T.zr38 ok) ?_;rintro _ η6 ⟨pb1,rfl,ok,xe⟩;refine .ur' (.stW (vs:=[.int .i64 w.head.size,.int .i64 (w.pgs.length:Int),.int .i64 w.head.free,.int .i64 w.head.many,.int .i64 w.head.cookie,.int .i64 w.head.version]) T.sz38 ok (oneL rfl)) ?_;rintro η7 ⟨ok,cg⟩;refine .nil ?_;refine .seq<|.s<|.z (.fa T.fd38_2)<|.z (.ldx T.ag3 ok.m0)<|.z .neq<|.nil<|.cd (fun C3=>?_) (fun C3=>?_)
 ·
  obtain ⟨hf1,hf2,hf3⟩:=frFree hso hoa C3;have hf3:(rdN (tkA w) 4 4)≤(w.z-8) / 4:=hf3;obtain ⟨k,rfl⟩:∃k:Nat,no=(k:Int):=⟨no.toNat,by have:=gvRange hna hoi hop2;omega⟩;have hkr:=gvRange hna hoi hop2;refine .s<|.z .mvP<|.z (.fa T.fd38_2)<|.z (.ldx T.ag3 ok.m0)<|.c' 57 .func (sReadOk_any (G:=G) (w:=w) (no:=w.head.free) (b:=(tkA w)) (ok.n1).loc0 (by omega) (by omega)) ?_;rintro _ η8 ⟨Fr1,xr1,cr1,rfl,hlr1,q⟩;have ok:=(ok.n1).lift2 q;refine .z .mvU<|.z .ex<|.z .ex<|.z .asS<|.z .asI<|.nil<|.seq<|.s<|.z .mvI<|.z .neq<|.nil<|.cf<|.skip<|.s<|.z .mvS<|.k 64 .func (fnum_any (p:=4) (a:=xr1) (c:=cr1) (l:=(tkA w)) (RdL.ofCapB (v:=(xr1,(tkA w).length,cr1)) (l:=(tkA w)) ok.m0) (by omega))<|.z .asI<|.nil<|.s<|.z .mvI<|.z .mvP<|.k 67 .func (froom_any (G:=G) (F:=Fr1) (w:=w) ok.m1)<|.z .lss<|.nil<|.cd (fun C5=>?_) (fun C5=>?_)
  ·
   refine .s<|.z .mvS<|.z .mvI<|.z (.mulI (a:=4))<|.z (.addI (a:=8))<|?_;rw [show (((8+(4*(rdN (tkA w) 4 4)):Nat):Int):Int)=((8+4*(rdN (tkA w) 4 4):Nat):Int) from by omega];refine .z .mvI<|.c' 74 .func (fput_any (p:=8+4*(rdN (tkA w) 4 4)) (n:=k) (l:=(tkA w)) (ok).loc0 (by first | omega | (rw [put4_len (by omega)];omega) | (rw [zer_len];omega)) (by omega) (by first | omega | (rw [put4_len (by omega)];omega) | (rw [zer_len];omega))) ?_;rintro _ η9 ⟨rfl,q⟩;have ok:=(ok).lift1 q;refine .nil ?_;refine .s<|.z .mvS<|.z .mvI<|.z (.addI (b:=1))<|?_;rw [show ((((rdN (tkA w) 4 4)+1:Nat):Int):Int)=(((rdN (tkA w) 4 4)+1:Nat):Int) from by omega];refine .c' 78 .func (fput_any (p:=4) (n:=(rdN (tkA w) 4 4)+1) (l:=(put4 (tkA w) (8+4*(rdN (tkA w) 4 4)) k)) (ok).loc0 (by first | omega | (rw [put4_len (by omega)];omega) | (rw [zer_len];omega)) (by omega) (by first | omega | (rw [put4_len (by omega)];omega) | (rw [zer_len];omega))) ?_;rintro _ η10 ⟨rfl,q⟩;have ok:=(ok).lift1 q;refine .nil ?_;refine .seq<|.s<|.z .mvP<|.z (.fa T.fd38_2)<|.z (.ldx T.ag3 ok.m2)<|.z .mvS<|.c' 83 .func (sWriteC_any (G:=G) (w:=w) (no:=w.head.free) (l:=(put4 (put4 (tkA w) (8+4*(rdN (tkA w) 4 4)) k) 4 ((rdN (tkA w) 4 4)+1))) (ok.n1) (by first | (rw [put4_len (by rw [put4_len (by omega)];omega),put4_len (by omega)];omega) | (rw [put4_len (by rw [zer_len];omega),zer_len];omega))) ?_;rintro _ η11 ⟨Fk1,rfl,q⟩;have ok:=(ok.n1).lift1 q;have hrl83:(w.write w.head.free (put4 (put4 (tkA w) (8+4*(rdN (tkA w) 4 4)) k) 4 ((rdN (tkA w) 4 4)+1)))=gvA w (k:Int):=by unfold gvA;rw [Int.toNat_natCast];rfl
   rw [hrl83] at ok⊢;refine .z .asI<|.nil<|.s<|.z .mvI<|.z .neq<|.nil<|.cd (fun C6=>?_) (fun C6=>?_)
   ·
    refine .s<|.z .mvI<|.z .asI<|.nil<|.ret ⟨.int .i64 ((gvA w (k:Int)).2:Int),Res.one rfl rfl,⟨_,by rw [giveF_a hna hop hni C3 (show (rdN (tkA w) 4 4)<_ by omega),thenH_e (by omega)]<;>rfl,by rw [giveF_a hna hop hni C3 (show (rdN (tkA w) 4 4)<_ by omega),thenH_e (by omega)];exact (ok).k1⟩⟩
   refine .skip<|.s<|.z .mvP<|.z (.fa T.fd38_2)<|.z (.ldx T.ag3 ok.m2)<|.z (.fa T.fd38_3)<|.z (.ldx T.ag3 ok.m2)<|.z .add<|.c' 93 .func (fheaded_any (G:=G) (w:=(gvA w (k:Int)).1) (f:=w.head.free) (m:=(w.head.many+1)) (ok).loc0 (by omega) (by omega)) ?_;rintro _ η12 ⟨Fz1,rfl,q⟩;have ok:=(ok).lift1 q;refine .z .asI<|.nil<|.ret ⟨.int .i64 (((hdd ((gvA w (k:Int)).1) w.head.free (w.head.many+1)).2:Nat):Int),Res.one rfl rfl,⟨_,by rw [giveF_a hna hop hni C3 (show (rdN (tkA w) 4 4)<_ by omega),thenH_0 (by omega)]<;>rfl,by rw [giveF_a hna hop hni C3 (show (rdN (tkA w) 4 4)<_ by omega),thenH_0 (by omega)];exact (ok).k1⟩⟩
  refine .skip<|.s<|.z .mvP<|.k 95 .func (sSize_any (G:=G) (F:=Fr1) (w:=w) ok.m1)<|.a' 96 (.mks w.z w.z T.el44 T.sz5 T.by5 T.zr5 ok) ?_;rintro _ η13 ⟨pb2,rfl,ok,xe⟩;have ok:=ok.cx (ys:=(List.replicate w.z (0:UInt8)).map bv) (zeros8 _);refine .z .asS<|.nil<|.s<|.z .mvS<|.z (.fa T.fd38_2)<|.z (.ldx T.ag3 ok.m3)<|?_;rw [show (w.head.free:Int)=((w.head.free.toNat:Nat):Int) from by omega];refine .c' 100 .func (fput_any (p:=0) (n:=w.head.free.toNat) (l:=(zer w.z)) (ok).loc0 (by first | omega | (rw [put4_len (by omega)];omega) | (rw [zer_len];omega)) (by omega) (by first | omega | (rw [put4_len (by omega)];omega) | (rw [zer_len];omega))) ?_;rintro _ η14 ⟨rfl,q⟩;have ok:=(ok).lift1 q;refine .nil ?_;refine .seq<|.s<|.z .mvP<|.z .mvI<|.z .mvS<|.c' 104 .func (sWriteC_any (G:=G) (w:=w) (no:=(k:Int)) (l:=(put4 (zer w.z) 0 w.head.free.toNat)) (ok.n2) (by first | (rw [put4_len (by rw [put4_len (by omega)];omega),put4_len (by omega)];omega) | (rw [put4_len (by rw [zer_len];omega),zer_len];omega))) ?_;rintro _ η15 ⟨Fk2,rfl,q⟩;have ok:=(ok.n2).lift1 q;have hrl104:(w.write (k:Int) (put4 (zer w.z) 0 w.head.free.toNat))=gvB w (k:Int):=by unfold gvB;rfl
  rw [hrl104] at ok⊢;refine .z .asI<|.nil<|.s<|.z .mvI<|.z .neq<|.nil<|.cd (fun C7=>?_) (fun C7=>?_)
  ·
   refine .s<|.z .mvI<|.z .asI<|.nil<|.ret ⟨.int .i64 ((gvB w (k:Int)).2:Int),Res.one rfl rfl,⟨_,by rw [giveF_b hna hop hni (fun h=>by first | exact C3 h.1 | (have h2:(rdN (tkA w) 4 4)<(w.z-8) / 4:=h.2;omega)),thenH_e (by omega)]<;>rfl,by rw [giveF_b hna hop hni (fun h=>by first | exact C3 h.1 | (have h2:(rdN (tkA w) 4 4)<(w.z-8) / 4:=h.2;omega)),thenH_e (by omega)];exact (ok).k1⟩⟩
  refine .skip<|.s<|.z .mvP<|.z .mvI<|.z (.fa T.fd38_3)<|.z (.ldx T.ag3 ok.m3)<|.z .add<|.c' 113 .func (fheaded_any (G:=G) (w:=(gvB w (k:Int)).1) (f:=(k:Int)) (m:=(w.head.many+1)) (ok).loc0 (by omega) (by omega)) ?_;rintro _ η16 ⟨Fz2,rfl,q⟩;have ok:=(ok).lift1 q;refine .z .asI<|.nil<|.ret ⟨.int .i64 (((hdd ((gvB w (k:Int)).1) (k:Int) (w.head.many+1)).2:Nat):Int),Res.one rfl rfl,⟨_,by rw [giveF_b hna hop hni (fun h=>by first | exact C3 h.1 | (have h2:(rdN (tkA w) 4 4)<(w.z-8) / 4:=h.2;omega)),thenH_0 (by omega)]<;>rfl,by rw [giveF_b hna hop hni (fun h=>by first | exact C3 h.1 | (have h2:(rdN (tkA w) 4 4)<(w.z-8) / 4:=h.2;omega)),thenH_0 (by omega)];exact (ok).k1⟩⟩
 obtain ⟨k,rfl⟩:∃k:Nat,no=(k:Int):=⟨no.toNat,by have:=gvRange hna hoi hop2;omega⟩;have hkr:=gvRange hna hoi hop2;refine .skip<|.s<|.z .mvP<|.k 95 .func (sSize_any (G:=G) (F:=Fh3) (w:=w) ok.m1)<|.a' 96 (.mks w.z w.z T.el44 T.sz5 T.by5 T.zr5 ok) ?_;rintro _ η17 ⟨pb3,rfl,ok,xe⟩;have ok:=ok.cx (ys:=(List.replicate w.z (0:UInt8)).map bv) (zeros8 _);refine .z .asS<|.nil<|.s<|.z .mvS<|.z (.fa T.fd38_2)<|.z (.ldx T.ag3 ok.m1)<|?_;rw [show (w.head.free:Int)=((w.head.free.toNat:Nat):Int) from by omega];refine .c' 100 .func (fput_any (p:=0) (n:=w.head.free.toNat) (l:=(zer w.z)) (ok).loc0 (by first | omega | (rw [put4_len (by omega)];omega) | (rw [zer_len];omega)) (by omega) (by first | omega | (rw [put4_len (by omega)];omega) | (rw [zer_len];omega))) ?_;rintro _ η18 ⟨rfl,q⟩;have ok:=(ok).lift1 q;refine .nil ?_;refine .seq<|.s<|.z .mvP<|.z .mvI<|.z .mvS<|.c' 104 .func (sWriteC_any (G:=G) (w:=w) (no:=(k:Int)) (l:=(put4 (zer w.z) 0 w.head.free.toNat)) (ok.n2) (by first | (rw [put4_len (by rw [put4_len (by omega)];omega),put4_len (by omega)];omega) | (rw [put4_len (by rw [zer_len];omega),zer_len];omega))) ?_;rintro _ η19 ⟨Fk3,rfl,q⟩;have ok:=(ok.n2).lift1 q;have hrl104:(w.write (k:Int) (put4 (zer w.z) 0 w.head.free.toNat))=gvB w (k:Int):=by unfold gvB;rfl
 rw [hrl104] at ok⊢;refine .z .asI<|.nil<|.s<|.z .mvI<|.z .neq<|.nil<|.cd (fun C7=>?_) (fun C7=>?_)
 ·
  refine .s<|.z .mvI<|.z .asI<|.nil<|.ret ⟨.int .i64 ((gvB w (k:Int)).2:Int),Res.one rfl rfl,⟨_,by rw [giveF_b hna hop hni (fun h=>by first | exact C3 h.1 | (have h2:(rdN (tkA w) 4 4)<(w.z-8) / 4:=h.2;omega)),thenH_e (by omega)]<;>rfl,by rw [giveF_b hna hop hni (fun h=>by first | exact C3 h.1 | (have h2:(rdN (tkA w) 4 4)<(w.z-8) / 4:=h.2;omega)),thenH_e (by omega)];exact (ok).k1⟩⟩
 refine .skip<|.s<|.z .mvP<|.z .mvI<|.z (.fa T.fd38_3)<|.z (.ldx T.ag3 ok.m2)<|.z .add<|.c' 113 .func (fheaded_any (G:=G) (w:=(gvB w (k:Int)).1) (f:=(k:Int)) (m:=(w.head.many+1)) (ok).loc0 (by omega) (by omega)) ?_;rintro _ η20 ⟨Fz3,rfl,q⟩;have ok:=(ok).lift1 q;refine .z .asI<|.nil<|.ret ⟨.int .i64 (((hdd ((gvB w (k:Int)).1) (k:Int) (w.head.many+1)).2:Nat):Int),Res.one rfl rfl,⟨_,by rw [giveF_b hna hop hni (fun h=>by first | exact C3 h.1 | (have h2:(rdN (tkA w) 4 4)<(w.z-8) / 4:=h.2;omega)),thenH_0 (by omega)]<;>rfl,by rw [giveF_b hna hop hni (fun h=>by first | exact C3 h.1 | (have h2:(rdN (tkA w) 4 4)<(w.z-8) / 4:=h.2;omega)),thenH_0 (by omega)];exact (ok).k1⟩⟩
open Go Go.HL
theorem spGet_any {G:Pgr} {h:Heap} {so:Nat} {F:Nat→Prop} {w:St} {first n:Int} (ok:Hp h F [dsI G so F w] [] h) (hf:i64N first) (hn:i64N n) :
  HC Tryz.prog 32 #[.pointer (some ⟨so,0,none⟩),.int .i64 first,.int .i64 n] h (fun v h'=>∃F' x c,v=.tuple #[.slice x (chF w first n).2.1.length c,.int .i64 (chF w first n).2.2]∧Hp h F [capI 1 5 (x,(chF w first n).2.1.length,c) ((chF w first n).2.1.map bv),dsI G so F' w] [] h'):=by
 refine HC.go Tryz.func32 21 ?_;refine .s<|.z .asS<|.z .asI<|.nil<|.s<|.z .mvP<|.z .mvI<|.z .mvI<|.c' 15 .func (chain_any (G:=G) (w:=w) (first:=first) (n:=n) (Hp.lc1 ok) hf hn) ?_;rintro _ η1 ⟨Fch1,pach1,pcch1,oach1,occh1,rfl,q⟩;have ok:=Hp.lf1 ok q;refine .z .mvU<|.z .ex<|.z .ex<|.z .ex<|.z .asS<|.z .asS<|.z .asI<|.nil<|.s<|.z .mvS<|.z .mvI<|.z .asS<|.z .asI<|.nil<|.ret ⟨.tuple #[.slice oach1 ((chF w first n).2.1.length) occh1,.int .i64 ((chF w first n).2.2)],Res.two rfl rfl rfl,⟨Fch1,oach1,occh1,rfl,(ok.n2).k2⟩⟩
theorem spPages_any {G:Pgr} {h:Heap} {so:Nat} {F:Nat→Prop} {w:St} {first n:Int} (ok:Hp h F [dsI G so F w] [] h) (hf:i64N first) (hn:i64N n) :
  HC Tryz.prog 33 #[.pointer (some ⟨so,0,none⟩),.int .i64 first,.int .i64 n] h (fun v h'=>∃F' x c,v=.tuple #[.slice x (chF w first n).1.length c,.int .i64 (chF w first n).2.2]∧Hp h F [capI 1 3 (x,(chF w first n).1.length,c) ((chF w first n).1.map iv),dsI G so F' w] [] h'):=by
 refine HC.go Tryz.func33 21 ?_;refine .s<|.z .asS<|.z .asI<|.nil<|.s<|.z .mvP<|.z .mvI<|.z .mvI<|.c' 15 .func (chain_any (G:=G) (w:=w) (first:=first) (n:=n) (Hp.lc1 ok) hf hn) ?_;rintro _ η1 ⟨Fch1,pach1,pcch1,oach1,occh1,rfl,q⟩;have ok:=Hp.lf1 ok q;refine .z .mvU<|.z .ex<|.z .ex<|.z .ex<|.z .asS<|.z .asS<|.z .asI<|.nil<|.s<|.z .mvS<|.z .mvI<|.z .asS<|.z .asI<|.nil<|.ret ⟨.tuple #[.slice pach1 ((chF w first n).1.length) pcch1,.int .i64 ((chF w first n).2.2)],Res.two rfl rfl rfl,⟨Fch1,pach1,pcch1,rfl,(ok.n1).k2⟩⟩
def localN (total size:Int):Int:=if 0≤total∧(size=256∨size=512∨size=1024∨size=2048∨size=4096) then min total (size / 4-36) else 0
theorem localN_n {t z:Int} (h:¬(0≤t∧(z=256∨z=512∨z=1024∨z=2048∨z=4096))):localN t z=0:=if_neg h
theorem localN_y {t z:Int} (h:0≤t∧(z=256∨z=512∨z=1024∨z=2048∨z=4096)):localN t z=min t (z / 4-36):=if_pos h
def giveL:St→List Int→St × Nat
 | w,[]=>(w,0)
 | w,no::l=>if (giveF w no).2≠0 then giveF w no else giveL (giveF w no).1 l
def dropF (w:St) (first n:Int):St × Int:=if w.in_=false then (w,10) else if (chF w first n).2.2≠0 then (w,(chF w first n).2.2) else ((giveL w (chF w first n).1).1,((giveL w (chF w first n).1).2:Int))
theorem spLocal_any {h:Heap} {total size:Int} (ht:i64N total) (hz:i64N size) :
  HC Tryz.prog 25 #[.int .i64 total,.int .i64 size] h (fun v h'=>v=.int .i64 (localN total size)∧h'=h):=by
 have ht1:=ht.1;have hz1:=hz.1;refine HC.go Tryz.func25 27 ?_;refine .s<|.z .asI<|.nil<|.seq<|.s<|.z .mvI<|.z .lss<|.z .mvB<|.sd (fun G7=>?_) (fun G7=>?_)
 ·
  refine .y<|.y<|.z .pkt<|.z .mvB<|.y<|.y<|.z .pkt<|.z .mvB<|.y<|.y<|.y<|.y<|.y<|.z .pkt<|.nil<|.ct<|.s<|.z .asI<|.nil<|.ret ⟨.int .i64 0,Res.one rfl rfl,⟨by rw [localN_n (by omega)],rfl⟩⟩
 refine .z .mvI<|.z .lss<|.z .pkf<|.z .mvB<|.sd (fun G11=>?_) (fun G11=>?_)
 ·
  refine .y<|.y<|.z .pkt<|.z .mvB<|.y<|.y<|.y<|.y<|.y<|.z .pkt<|.nil<|.ct<|.s<|.z .asI<|.nil<|.ret ⟨.int .i64 0,Res.one rfl rfl,⟨by rw [localN_n (by omega)],rfl⟩⟩
 refine .z .mvI<|.z .gtr<|.z .pkf<|.z .mvB<|.sd (fun G15=>?_) (fun G15=>?_)
 ·
  refine .y<|.y<|.y<|.y<|.y<|.z .pkt<|.nil<|.ct<|.s<|.z .asI<|.nil<|.ret ⟨.int .i64 0,Res.one rfl rfl,⟨by rw [localN_n (by omega)],rfl⟩⟩
 obtain ⟨k,rfl⟩:∃k:Nat,size=(k:Int):=⟨size.toNat,by omega⟩;have hpw:=and_pow k (by omega) (by omega);refine .z .mvI<|.z .mvI<|.z .sub<|.z (.bandI k (k-1))<|.z .neq<|.z .pkf<|.nil<|.cd (fun C0=>?_) (fun C0=>?_)
 ·
  refine .s<|.z .asI<|.nil<|.ret ⟨.int .i64 0,Res.one rfl rfl,⟨by rw [localN_n (by omega)],rfl⟩⟩
 refine .skip<|.s<|.z .mvI<|.z .mvI<|.z .quo<|.z .sub<|.z .min2<|.z .asI<|.nil<|.ret ⟨.int .i64 (min total (((k:Int) / 4)-36)),Res.one rfl rfl,⟨by rw [localN_y (by omega)],rfl⟩⟩
theorem lk_rg {w:St} {n:Nat} {lv:ChG→Bool} (hN:w.pgs.length≤65536):∀(f:Nat) (no:Int) (mt:List Int) (g:ChG),(∀k∈g.1,i64N k)→∀k∈(lkGo w (chGo n) lv f no mt g).1.1,i64N k
 | 0,_,_,g,h=>h
 | f+1,no,mt,g,h=>by
  by_cases h0:no=0
  ·rw [lk_00 h0];exact h
  by_cases h1:no<2∨(w.pgs.length:Int)<no∨no∈mt
  ·rw [lk_bad h0 h1];exact h
  have hg:∀k∈(chGo n g no (w.pgs.getD (no-1).toNat [])).1,i64N k:=by
   intro k hk;unfold chGo at hk;split at hk
   ·exact h k hk
   ·rcases List.mem_append.1 hk with hk | hk
    ·exact h k hk
    ·rw [List.mem_singleton.1 hk];unfold i64N;omega
  cases h2:lv (chGo n g no (w.pgs.getD (no-1).toNat [])) with
  | false=>rw [lk_stop h0 h1 h2];exact hg
  | true=>rw [lk_go h0 h1 h2];exact lk_rg hN f _ _ _ hg
theorem chF_rg {w:St} {first n:Int} (hN:w.pgs.length≤65536):∀k∈(chF w first n).1,i64N k:=by
 intro k hk;unfold chF at hk;split at hk
 ·cases hk
 split at hk
 ·cases hk
 split at hk
 ·cases hk
 split at hk
 ·cases hk
 ·exact lk_rg hN _ _ _ _ (by simp) k hk
theorem giveL_0 {w:St} {l:List Int} {i:Nat} (h:l.length≤i):giveL w (l.drop i)=(w,0):=by rw [List.drop_eq_nil_of_le h];rfl
theorem giveL_e {w:St} {l:List Int} {i:Nat} (h:i<l.length) (h2:(giveF w l[i]).2≠0):giveL w (l.drop i)=giveF w l[i]:=by rw [List.drop_eq_getElem_cons h];exact if_pos h2
theorem giveL_s {w:St} {l:List Int} {i:Nat} (h:i<l.length) (h2:¬(giveF w l[i]).2≠0):giveL w (l.drop i)=giveL (giveF w l[i]).1 (l.drop (i+1)):=by rw [List.drop_eq_getElem_cons h];exact if_neg h2
theorem dropF_10 {w:St} {a n:Int} (h:w.in_=false):dropF w a n=(w,10):=if_pos h
theorem dropF_e {w:St} {a n:Int} (h:w.in_=true) (h2:(chF w a n).2.2≠0):dropF w a n=(w,(chF w a n).2.2):=by unfold dropF;rw [if_neg (by rw [h];decide),if_pos h2]
theorem dropF_l {w:St} {a n:Int} (h:w.in_=true) (h2:(chF w a n).2.2=0):dropF w a n=((giveL w (chF w a n).1).1,((giveL w (chF w a n).1).2:Int)):=by unfold dropF;rw [if_neg (by rw [h];decide),if_neg (by rw [h2];decide)]
theorem spDrop_any {G:Pgr} {h:Heap} {so:Nat} {F:Nat→Prop} {w:St} {first n:Int} (ok:Hp h F [dsI G so F w] [] h) (hf:i64N first) (hn:i64N n) :
  HC Tryz.prog 59 #[.pointer (some ⟨so,0,none⟩),.int .i64 first,.int .i64 n] h (fun v h'=>∃F',v=.int .i64 (dropF w first n).2∧Hp h F [dsI G so F' (dropF w first n).1] [] h'):=by
 have hso:=ds_ok ok.m0;have hfew:=St.few hso;have hrg:=chF_rg (w:=w) (first:=first) (n:=n) hfew;refine HC.go Tryz.func59 44 ?_;refine .s<|.z .asI<|.nil<|.seq<|.s<|.z .mvP<|.z (.pNeS T.pt27)<|.z .mvB<|.z .mvP<|.k 17 .func (sIn_any (G:=G) (F:=F) (w:=w) ok.m0)<|.z .not<|.z .pkt<|.nil<|.cond (fun C0=>?_) (fun C0=>?_)
 ·
  refine .s<|.z .asI<|.nil<|.ret ⟨.int .i64 10,Res.one rfl rfl,⟨F,by rw [dropF_10 (by simpa using C0)]<;>rfl,by rw [dropF_10 (by simpa using C0)];exact (ok).k1⟩⟩
 have hin:w.in_=true:=by simpa using C0
 refine .skip<|.s<|.z .mvP<|.z .mvI<|.z .mvI<|.c' 24 .func (chain_any (G:=G) (w:=w) (first:=first) (n:=n) (Hp.lc1 ok) hf hn) ?_;rintro _ η1 ⟨Fch1,pach1,pcch1,oach1,occh1,rfl,q⟩;have ok:=Hp.lf1 ok q;refine .z .mvU<|.z .ex<|.z .ex<|.z .ex<|.z .asS<|.z .asS<|.z .asI<|.nil<|.seq<|.s<|.z .mvI<|.z .neq<|.nil<|.cd (fun C1=>?_) (fun C1=>?_)
 ·
  refine .s<|.z .mvI<|.z .asI<|.nil<|.ret ⟨.int .i64 ((chF w first n).2.2),Res.one rfl rfl,⟨Fch1,by rw [dropF_e hin C1]<;>rfl,by rw [dropF_e hin C1];exact (ok).k1⟩⟩
 have he0:(chF w first n).2.2=0:=by simpa using C1
 refine .skip<|.seq<|.seq<|?_;have ok:=(ok.n1).frzI (l:=(chF w first n).1) rfl;have hrc:=ok.r0.c;have hrm:=ok.r0.m;simp only at hrc hrm;refine .r<|.z .mvS<|.z (.len T.el24)<|.z .mvI<|.nil<|.block fun K0 hK0=>.loop (fun m s hh=>∃(i:Nat) (wi:St) (Fo:Nat→Prop),Has s [(0,.pointer (some ⟨so,0,none⟩)),(31,.slice pach1 ((chF w first n).1.length) pcch1),(32,.int .i64 (((chF w first n).1.length:Nat):Int)),(33,.int .i64 (i:Int))]∧Hp h F [dsI G so Fo wi] [rdI (blkC (sv (pach1,(chF w first n).1.length,pcch1))) none_ (pach1,(chF w first n).1.length,pcch1) ((chF w first n).1)] hh∧i≤(chF w first n).1.length∧giveL wi ((chF w first n).1.drop i)=giveL w (chF w first n).1∧m=(chF w first n).1.length-i) ?_ ?_
 ·exact ⟨_,0,w,Fch1,⟨rfl,rfl,rfl,rfl,trivial⟩,(ok).k1,Nat.zero_le _,rfl,rfl⟩
 rintro _ _ η2 ⟨i,wi,Fo,hs,ok,hi,hgl,rfl⟩ J0 hJ0;refine .frame hs fun τ=>?_;refine .s<|.z .lss<|.nil<|.seq<|.cdr (fun C2=>?_) (fun C2=>?_)
 ·
  refine .exit<|hK0 _ _<|.s<|.z .asI<|.nil<|.ret ⟨.int .i64 0,Res.one rfl rfl,⟨Fo,by rw [dropF_l hin he0,←hgl,giveL_0 (by omega)]<;>rfl,by rw [dropF_l hin he0,←hgl,giveL_0 (by omega)];exact (ok).k1.tR⟩⟩
 have hil:i<(chF w first n).1.length:=by omega
 refine .skip<|.seq<|.block fun K1 hK1=>.s<|?_;obtain ⟨bb1,oo1,rfl,fb1⟩:=ok.r0.pos (by omega);refine .z (.ix1 i T.el24 T.sz3 (hi:=by omega))<|.z (.ld T.ag3 (ok.r0.i64 (i:=i) (by omega)))<|.z .asI<|.nil<|.s<|.z .mvP<|.z .mvI<|.c' 39 .func (fgive_any (G:=G) (w:=wi) (no:=((chF w first n).1)[i]) (ok).loc0 (by exact hrg _ (List.getElem_mem hil))) ?_;rintro _ η3 ⟨Fv1,rfl,q⟩;have ok:=(ok).lift1 q;refine .z .asI<|.nil<|.s<|.z .mvI<|.z .neq<|.nil<|.cd (fun C3=>?_) (fun C3=>?_)
 ·
  refine .s<|.z .mvI<|.z .asI<|.nil<|.ret ⟨.int .i64 (((giveF wi (((chF w first n).1)[i])).2:Nat):Int),Res.one rfl rfl,⟨Fv1,by rw [dropF_l hin he0,←hgl,giveL_e hil (by omega)]<;>rfl,by rw [dropF_l hin he0,←hgl,giveL_e hil (by omega)];exact (ok).k1.tR⟩⟩
 refine .skip<|.end<|hK1 _ _<|.r<|.z (.addI (b:=1))<|.z .mvI<|.nil<|.end<|hJ0 _ _ _ ⟨i+1,((giveF wi (((chF w first n).1)[i])).1),Fv1,⟨rfl,rfl,rfl,rfl,trivial⟩,(ok).k1,by omega,by rw [←giveL_s hil (by omega)];exact hgl,rfl⟩ (by omega)
abbrev SB:=Option Addr × Nat × List UInt8
structure RwB {α:Type} (k:Nat) (f:α→List Value) (g:α→SB) (h:Heap) (E:Nat→Prop) (x:SV) (l:List α):Prop where
 sl:Sl h k (sv x) (l.flatMap f)
 n:x.2.1=l.length
 bl:∀j,blk (sv x) j→E j
 by':∀y∈l,RdL h E E ((g y).1,(g y).2.2.length,(g y).2.1) (g y).2.2
section
variable {α:Type} {k:Nat} {f:α→List Value} {g:α→SB} {h h':Heap} {E E' G:Nat→Prop} {x:SV} {l:List α}
theorem RwB.st (c:Chg G h h') (d:∀j,E j→¬G j) (r:RwB k f g h E x l):RwB k f g h' E x l:=⟨Sl.chg c r.sl fun j hj=>d j (r.bl j hj),r.n,r.bl,fun y hy=>(r.by' y hy).st c d d⟩
@[reducible] def rwI (k:Nat) (f:α→List Value) (g:α→SB) (E:Nat→Prop) (x:SV) (l:List α):Itm:=⟨fun h=>RwB k f g h E x l,E,fun _ _ _ c d r=>r.st c d⟩
theorem RwB.pos {a:Option Addr} {n c:Nat} (r:RwB k f g h E (a,n,c) l) (hk:0<n):∃b o,a=some ⟨b,o,none⟩∧E b:=by
 obtain ⟨a',n',c',e,_,_,h3⟩:=r.sl;injection e with e1 e2 e3;subst e1 e2 e3;obtain ⟨b,o,e,_⟩:=h3.2 hk;subst e;exact ⟨b,o,rfl,r.bl b ⟨o,n,c,rfl,hk⟩⟩
theorem RwB.m {a:Option Addr} {n c:Nat} (r:RwB k f g h E (a,n,c) l):n≤c∧c≤9223372036854775807:=by
 obtain ⟨a',n',c',e,h1,h2,h3⟩:=r.sl;injection e with e1 e2 e3;subst e1 e2 e3;exact ⟨h1,h2⟩
theorem RwB.ofCap {e:TypeId} (hk:0<k) (hf:∀y,(f y).length=k) (c:Cap h k e (sv x) (l.flatMap f)) (hb:∀j,blkC (sv x) j→E j) (h2:∀y∈l,RdL h E E ((g y).1,(g y).2.2.length,(g y).2.1) (g y).2.2):RwB k f g h E x l:=by
 obtain ⟨a,n,c'⟩:=x;have hs:=c.sl;refine ⟨hs,?_,fun j ⟨o,n,c,e,_⟩=>hb j ⟨o,n,c,e⟩,h2⟩;have h1:=hs.cells.1;have h3:(l.flatMap f).length=l.length*k:=by
  clear hs h1 c h2;induction l with
  | nil=>simp
  | cons y l ih=>rw [List.flatMap_cons,List.length_append,hf,ih,List.length_cons,Nat.add_mul];omega
 rw [h3] at h1;exact (Nat.eq_of_mul_eq_mul_right hk h1).symm
end
theorem sl_at1 {α:Type} {f:α→List Value} (hf:∀y,(f y).length=1) {h:Heap} {b o n c:Nat} {l:List α} (r:Sl h 1 (.slice (some ⟨b,o,none⟩) n c) (l.flatMap f)) {i:Nat} (hi:i<l.length) {v:Value} (hv:(f l[i])[0]? = some v):cell h b (o+i)=some v:=by
 have:=sl_at hf r hi (j:=0) hv;simpa using this
def RB.cells (x:RB):List Value:=[.slice x.a x.l.length x.c]
def RB.sb (x:RB):SB:=(x.a,x.c,x.l)
theorem RB.cells_len (x:RB):x.cells.length=1:=rfl
abbrev PgB (h:Heap) (E:Nat→Prop) (x:SV) (l:List RB):Prop:=RwB 1 RB.cells RB.sb h E x l
@[reducible] def pgwI (E:Nat→Prop) (x:SV) (l:List RB):Itm:=rwI 1 RB.cells RB.sb E x l
def pgs (l:List RB):List (List UInt8):=l.map RB.l
theorem pgs_len {l:List RB} : (pgs l).length=l.length:=List.length_map _
theorem pgs_at {l:List RB} {i:Nat} (h:i<l.length):(pgs l)[i]'(by rw [pgs_len];exact h)=l[i].l:=List.getElem_map _
def Pby (h:Heap) (E:Nat→Prop) (l:List RB):Prop:=∀y∈l,RdL h E E (y.a,y.l.length,y.c) y.l
@[reducible] def pbyI (E:Nat→Prop) (l:List RB):Itm:=⟨fun h=>Pby h E l,E,fun _ _ _ c d b y hy=>(b y hy).st c d d⟩
theorem Pby.nil {h:Heap} {E:Nat→Prop} : Pby h E []:=fun _ hy=>by cases hy
theorem Pby.mono {h:Heap} {E E':Nat→Prop} {l:List RB} (hE:∀j,E j→E' j) (b:Pby h E l):Pby h E' l:=fun y hy=>(b y hy).mono hE hE
theorem Pby.snoc {h:Heap} {E:Nat→Prop} {l:List RB} {x:RB} (b:Pby h E l) (hx:RdL h E E (x.a,x.l.length,x.c) x.l):Pby h E (l++[x]):=fun y hy=>(List.mem_append.1 hy).elim (b y) fun h=>by rw [List.mem_singleton.1 h];exact hx
theorem PgB.of {h:Heap} {E E':Nat→Prop} {e:TypeId} {x:SV} {l:List RB} (c:Cap h 1 e (sv x) (l.flatMap RB.cells)) (b:Pby h E' l) (hc:∀j,blkC (sv x) j→E j) (hE:∀j,E' j→E j):PgB h E x l:=RwB.ofCap (by decide) RB.cells_len c hc fun y hy=>(b y hy).mono hE hE
end Go.Proofs.YtndlpekckpdncaaGreat
namespace Go.HL
open Go Go.Proofs.YtndlpekckpdncaaGreat
section
variable {h0 h h':Heap} {D G:Nat→Prop} {M R:List Itm}
theorem Hp.pbyPut {Q:Nat→Prop} {bs:List RB} {a:Option Addr} {c:Nat} {l:List UInt8} (ok:Hp h0 D (capI 1 5 (a,l.length,c) (l.map bv)::M) (pbyI Q bs::R) h):Hp h0 D M (pbyI (fun j=>Q j∨blkC (sv (a,l.length,c)) j) (bs++[⟨a,c,l⟩])::R) h:=by
 have o:Hp h0 D M (rdI (blkC (sv (a,l.length,c))) none_ (a,l.length,c) l::pbyI Q bs::R) h:=ok.frzB rfl;have o2:=o.or (r:=pbyI Q bs) (r':=rdI (blkC (sv (a,l.length,c))) none_ (a,l.length,c) l) (by simp) (by simp) (pbyI (fun j=>Q j∨blkC (sv (a,l.length,c)) j) (bs++[⟨a,c,l⟩]))
  (Pby.snoc (Pby.mono (fun j h=>.inl h) o.r1) ((show RdL h (blkC (sv (a,l.length,c))) none_ (a,l.length,c) l from o.r0).mono (fun j h=>.inr h) (fun j f=>f.elim))) (fun j h=>h.imp id .inl)
 exact o2.sub (by simp;intro a h;exact .inr (.inr (.inr h)))
theorem Hp.pbyNil (ok:Hp h0 D M R h):Hp h0 D M (pbyI none_ []::R) h:=ok.newR (Ext.refl _) _ Pby.nil fun _ f=>f.elim
end
end Go.HL
namespace Go.Proofs.YtndlpekckpdncaaGreat
open Go Go.HL
theorem pgs_snoc {l:List RB} {x:RB} : pgs (l++[x])=pgs l++[x.l]:=List.map_append
def ckP (a:Option Addr) (l:List UInt8) (n i:Nat):RB:=⟨cutA a i (i+min n (l.length-i)) 1,((l.drop i).take (min n (l.length-i))).length,(l.drop i).take (min n (l.length-i))⟩
def ckL (a:Option Addr) (l:List UInt8) (n:Nat):Nat→Nat→List RB
 | 0,_=>[]
 | f+1,i=>if i<l.length then ckP a l n i::ckL a l n f (i+n) else []
theorem ck_end {a:Option Addr} {l:List UInt8} {n f i:Nat} (h:¬i<l.length):ckL a l n f i=[]:=by
 cases f with
 | zero=>rfl
 | succ f=>exact if_neg h
theorem ck_step {a:Option Addr} {l:List UInt8} {n f i:Nat} (h:i<l.length):ckL a l n (f+1) i=ckP a l n i::ckL a l n f (i+n):=if_pos h
theorem ckP_len {a:Option Addr} {l:List UInt8} {n i:Nat} : (ckP a l n i).l.length=min n (l.length-i):=by unfold ckP;rw [List.length_take,List.length_drop];omega
theorem chunk_any {h:Heap} {a:Option Addr} {c n:Nat} {l:List UInt8} (hn:1≤n) :
  HC Tryz.prog 116 #[.slice a l.length c,.int .i64 (n:Int)] h (fun v h'=>∃b1 b2,v=.func (.func 157) #[] #[.pointer (some ⟨b1,0,none⟩),.pointer (some ⟨b2,0,none⟩)]∧Hp h none_ [boxI b1 44 [.slice a l.length c],boxI b2 3 [.int .i64 (n:Int)]] [] h'):=by
 have ok:=Hp.nil h none_;refine HC.go Tryz.func116 9 ?_;refine .s<|.a' 2 (.bxS ok) ?_;rintro _ η1 ⟨pb1,rfl,ok,xe⟩;refine .a' 3 (.bxI ok) ?_;rintro _ η2 ⟨pb2,rfl,ok,xe⟩;refine .z .asN<|.nil<|.seq<|.s<|.z (.ldx T.ag3 ok.m0)<|.z .lss<|.nil<|.cd (fun C0=>?_) (fun C0=>?_)
 ·
  omega
 refine .skip<|.s<|.z (.mkf (vs:=[.pointer (some ⟨pb1,0,none⟩),.pointer (some ⟨pb2,0,none⟩)]))<|.z .asF<|.nil<|.ret ⟨.func (.func 157) #[] #[.pointer (some ⟨pb1,0,none⟩),.pointer (some ⟨pb2,0,none⟩)],Res.one rfl rfl,⟨pb1,pb2,rfl,ok.n1⟩⟩
theorem chunk1_any {β:Type} {ab:β→List RB} {Y:β→Itm} {y0:β} {h:Heap} {b1 b2 l0 c n k0:Nat} {a:Option Addr} {l:List UInt8} {D:Nat→Prop}
  (hY:∀(y:β) (x:RB) (hh:Heap),(ab y).length≤k0+1000000→Hp hh (Y y).F [Y y] [] hh→HY Tryz.prog l0 #[.slice x.a x.l.length x.c] hh (fun v h'=>∃y',v=.bool true∧ab y'=ab y++[x]∧Hp hh (Y y).F [Y y'] [] h'))
  (hn:1≤n∧n≤1000000) (hl:l.length≤1000000) (hcap:l.length≤c∧c≤9223372036854775807) (hk:(ab y0).length=k0) (ok:Hp h D [boxI b1 44 [.slice a l.length c],boxI b2 3 [.int .i64 (n:Int)],Y y0] [] h) :
  HC Tryz.prog 157 #[.func (.yield l0) #[] #[],.pointer (some ⟨b1,0,none⟩),.pointer (some ⟨b2,0,none⟩)] h (fun v h'=>∃y',ab y'=ab y0++ckL a l n (l.length+1) 0∧Hp h D [boxI b1 44 [.slice a l.length c],boxI b2 3 [.int .i64 (n:Int)],Y y'] [] h'):=by
 refine HC.go Tryz.func157 31 ?_;refine .s<|.z .asI<|.nil<|.block fun K0 hK0=>.loop (fun m s hh=>∃(i f:Nat) (y:β),Has s [(0,.func (.yield l0) #[] #[]),(1,.pointer (some ⟨b1,0,none⟩)),(2,.pointer (some ⟨b2,0,none⟩)),(4,.int .i64 (i:Int))]∧Hp h D [boxI b1 44 [.slice a l.length c],boxI b2 3 [.int .i64 (n:Int)],Y y] [] hh∧ab y++ckL a l n f i=ab y0++ckL a l n (l.length+1) 0∧l.length<i+f∧(ab y).length≤k0+i∧i≤3000000∧m=l.length+1-i) ?_ ?_
 ·exact ⟨_,0,l.length+1,y0,⟨rfl,rfl,rfl,rfl,trivial⟩,(ok).k3,rfl,by omega,by omega,by omega,rfl⟩
 rintro _ _ η1 ⟨i,f,y,hs,ok,hab0,hlf,hln,hib,rfl⟩ J0 hJ0;refine .frame hs fun τ=>?_;refine .seq<|.s<|.z .mvI<|.z (.ldx T.ag44 ok.m0)<|.z (.len T.el44)<|.z .lss<|.nil<|.cdr (fun C0=>?_) (fun C0=>?_)
 ·
  refine .exit<|hK0 _ _<|.end<|⟨.tuple #[],Res.none rfl,⟨y,by rw [←hab0,ck_end (by omega),List.append_nil],(ok).k3⟩⟩
 have hil:i<l.length:=by omega
 obtain ⟨f,rfl⟩:∃g,f=g+1:=⟨f-1,by omega⟩;refine .skip<|.seq<|.block fun K1 hK1=>.seq<|.q (hm:=mixed)<|.z (.ldx T.ag3 ok.m1)<|.z (.ldx T.ag44 ok.m0)<|.z .mvI<|.z (.sll i T.el44 T.sz5)<|.z (.len T.el44)<|.z .min2<|?_;obtain ⟨ee,hee⟩:∃x,min n (l.length-i)=x:=⟨_,rfl⟩;rw [show (min (n:Int) ((l.length-i:Nat):Int))=(ee:Int) from by omega];refine .z .asI<|.nil<|.seq<|.ry<|.z .mvF<|.z (.ldx T.ag44 ok.m0)<|.z .mvI<|.z .mvI<|.z .mvI<|.z .addI<|.z .mvI<|.z .mvI<|.z .addI<|.z (.sllhm i (i+ee) (i+ee) T.el44 T.sz5)<|?_;generalize hn1:i+ee-i=cn1;obtain rfl:cn1=((l.drop i).take ee).length:=by rw [←hn1,List.length_take,List.length_drop];omega
 refine .y 29 (hY y (⟨cutA a i (i+ee) 1,((l.drop i).take ee).length,((l.drop i).take ee)⟩:RB) _ (by omega) (ok.n2).loc0) ?_;rintro _ η2 ⟨y1,rfl,hab,q⟩;have ok:=(ok.n2).lift1 q;refine .z .not<|.nil<|.cf<|.skip<|.end<|hK1 _ _<|?_;have hab2:ab y1++ckL a l n f (i+n)=ab y0++ckL a l n (l.length+1) 0:=by rw [←hab0,ck_step hil,hab,List.append_assoc];unfold ckP;rw [hee];rfl
 refine .r<|.z .mvI<|.z (.ldx T.ag3 ok.m2)<|.z .addI<|.z .asI<|.nil<|.end<|hJ0 _ _ _ ⟨i+n,f,y1,⟨rfl,rfl,rfl,rfl,trivial⟩,(ok.n2.n2).k3,hab2,by omega,by rw [hab,List.length_append];simp;omega,by omega,rfl⟩ (by omega)
structure AB where
 pa:Option Addr
 pc:Nat
 pl:List RB
def abL (b l:Nat) (lc:LpC) (y:AB):List Itm:=[boxI b 28 [.slice y.pa y.pl.length y.pc],capI 1 44 (y.pa,y.pl.length,y.pc) (y.pl.flatMap RB.cells),lpI lc l .ready none]
@[reducible] def abI (b l:Nat) (lc:LpC) (y:AB):Itm:=starI (abL b l lc y)
theorem appseq_any {h:Heap} {b1 b2 c n:Nat} {a:Option Addr} {l:List UInt8} {D:Nat→Prop} (hn:1≤n∧n≤1000000) (hl:l.length≤1000000) (hcap:l.length≤c∧c≤9223372036854775807) (ok:Hp h D [boxI b1 44 [.slice a l.length c],boxI b2 3 [.int .i64 (n:Int)]] [] h) :
  HC Tryz.prog 156 #[.slice none 0 0,.func (.func 157) #[] #[.pointer (some ⟨b1,0,none⟩),.pointer (some ⟨b2,0,none⟩)]] h (fun v h'=>∃pa pc,v=.slice pa (ckL a l n (l.length+1) 0).length pc∧Hp h D [capI 1 44 (pa,(ckL a l n (l.length+1) 0).length,pc) ((ckL a l n (l.length+1) 0).flatMap RB.cells),boxI b1 44 [.slice a l.length c],boxI b2 3 [.int .i64 (n:Int)]] [] h'):=by
 refine HC.goR Tryz.func156 13 ?_;refine .seq<|.lift<|.r<|.a' 2 (.bxS ok) ?_;rintro _ η1 ⟨pb1,rfl,ok,xe⟩;refine .z .asS<|.nil<|.end<|HSD.on<|.seq<|.seq<|.lift<|.r<|.z .mvF<|.nil<|.end<|HSD.on<|.rg' (lb:=[.pointer (some ⟨b1,0,none⟩),.pointer (some ⟨b2,0,none⟩)]) fun lc l1 D1 η2 hlc hxr hsr hl1 hD1 hlp hdf=>?_?_;have ok:=ok.rgNew' hxr hsr hl1 hD1 hlp hdf;have hY:∀(y:AB) (x:RB) (hh:Heap),y.pl.length≤0+1000000→Hp hh (abI pb1 l1 lc y).F [abI pb1 l1 lc y] [] hh→HY Tryz.prog l1 #[.slice x.a x.l.length x.c] hh (fun v h'=>∃y',v=.bool true∧y'.pl=y.pl++[x]∧Hp hh (abI pb1 l1 lc y).F [abI pb1 l1 lc y'] [] h'):=by
  rintro ⟨pa,pc,pl⟩ ⟨xa,xc,xl⟩ hh hpl ok;replace hpl:pl.length≤0+1000000:=hpl;generalize hDF:(abI pb1 l1 lc ⟨pa,pc,pl⟩).F=DF at ok⊢;have ok:Hp hh DF [boxI pb1 28 [.slice pa pl.length pc],capI 1 44 (pa,pl.length,pc) (pl.flatMap RB.cells),lpI lc l1 .ready none] [] hh:=Hp.unstar ok;refine HY.go' (args:=[.slice xa xl.length xc]) hlc ok.m2 ?_;refine .r<|.z .asS<|.nil<|.end<|⟨ok.m2,fun η3 cgl szl lpl=>?_⟩;have ok:=(ok.n2).lp cgl lpl;refine .block fun K1 hK1=>.r<|.z (.ldx T.ag28 ok.m1)<|.z .mvS<|.a' 10 (.lit [.tmp 9] (cs:=[.slice xa xl.length xc]) T.el28 T.sz44 T.zr44 ok ⟨rfl,trivial⟩) ?_;rintro _ η4 ⟨pb2,rfl,ok,xe⟩;refine .a' 11 (.app (news:=[.slice xa xl.length xc]) T.el28 T.sz44 T.by44 T.zr44 ok.n3 (ok.n3.m1).sl (oneL rfl) (by rw [flat_len RB.cells_len];simp only [List.length_cons,List.length_nil];omega)) ?_;rintro _ η5 ⟨ya1,yn1,yc1,rfl,ok,ap⟩;have ok:=ok.cx (ys:=(pl++[(⟨xa,xc,xl⟩:RB)]).flatMap RB.cells) (by simp [RB.cells]);obtain rfl:yn1=(pl++[(⟨xa,xc,xl⟩:RB)]).length:=(Sl.sz (Cap.sl ok.m0) RB.cells_len (by decide)).1.symm;refine .ur' (.stS T.sz28 ok.n3) ?_;rintro η6 ⟨ok,cg⟩;refine .nil ?_;refine .end<|hK1 _ _<|.end<|⟨ok.m3,fun η7 cgl szl lpl=>?_⟩;have ok:=(ok.n3).lp cgl lpl;exact ⟨⟨ya1,yc1,pl++[(⟨xa,xc,xl⟩:RB)]⟩,rfl,rfl,Hp.star (l:=abL pb1 l1 lc ⟨ya1,yc1,pl++[(⟨xa,xc,xl⟩:RB)]⟩) (M:=[]) (ok.n2.n2).k3⟩
 have ok:=ok.nilC (k:=1) (e:=44);have ok:=Hp.star (l:=abL pb1 l1 lc ⟨none,0,[]⟩) (M:=[dfI D1,boxI b1 44 [.slice a l.length c],boxI b2 3 [.int .i64 (n:Int)]]) (ok.n1.n1.n3);have okf:Hp h D ([boxI b1 44 [.slice a l.length c],boxI b2 3 [.int .i64 (n:Int)],abI pb1 l1 lc ⟨none,0,[]⟩]++[dfI D1]) [] _:=ok.n3.n3;refine HC.mono (chunk1_any (ab:=AB.pl) (Y:=abI pb1 l1 lc) (y0:=⟨none,0,[]⟩) (k0:=0) (a:=a) (l:=l) (n:=n) hY hn hl hcap rfl (Hp.lc3 okf)) ?_;rintro _ η8 ⟨⟨pa,pc,pl⟩,hab,q⟩;have ok:=Hp.lf3 okf q;have ok:Hp h D [boxI pb1 28 [.slice pa pl.length pc],capI 1 44 (pa,pl.length,pc) (pl.flatMap RB.cells),lpI lc l1 .ready none,boxI b1 44 [.slice a l.length c],boxI b2 3 [.int .i64 (n:Int)],dfI D1] [] _:=Hp.unstar (ok.n2);have hpl:pl=ckL a l n (l.length+1) 0:=hab;refine ⟨.ready,none,by decide,ok.m2,fun η9 cgl szl=>?_⟩;have ok:=(ok.n2).lpEnd cgl;show HS none _ _ _ _ _ _;refine .s<|.z (.ldx T.ag28 ok.m0)<|.z .asS<|.nil<|.ret ⟨D1,rfl,ok.m4,fun η10 cgd szd=>?_⟩;have ok:=(ok.n4).df cgd;refine ⟨.slice pa pl.length pc,Res.one rfl rfl,⟨pa,pc,by rw [←hpl],by rw [←hpl];exact (ok.n3.n3.n3).k3⟩⟩
theorem collect_any {h:Heap} {b1 b2 c n:Nat} {a:Option Addr} {l:List UInt8} {D:Nat→Prop} (hn:1≤n∧n≤1000000) (hl:l.length≤1000000) (hcap:l.length≤c∧c≤9223372036854775807) (ok:Hp h D [boxI b1 44 [.slice a l.length c],boxI b2 3 [.int .i64 (n:Int)]] [] h) :
  HC Tryz.prog 115 #[.func (.func 157) #[] #[.pointer (some ⟨b1,0,none⟩),.pointer (some ⟨b2,0,none⟩)]] h (fun v h'=>∃pa pc,v=.slice pa (ckL a l n (l.length+1) 0).length pc∧Hp h D [capI 1 44 (pa,(ckL a l n (l.length+1) 0).length,pc) ((ckL a l n (l.length+1) 0).flatMap RB.cells),boxI b1 44 [.slice a l.length c],boxI b2 3 [.int .i64 (n:Int)]] [] h'):=by
 refine HC.go Tryz.func115 5 ?_;refine .s<|.z .asS<|.nil<|.s<|.z .mvF<|.c' 4 .func (appseq_any hn hl hcap (Hp.lc2 ok)) ?_;rintro _ η1 ⟨pa,pc,rfl,q⟩;have ok:=(Hp.lf2 ok q);refine .z .asS<|.nil<|.ret ⟨.slice pa ((ckL a l n (l.length+1) 0).length) pc,Res.one rfl rfl,⟨pa,pc,rfl,ok⟩⟩
end Go.Proofs.YtndlpekckpdncaaGreat
