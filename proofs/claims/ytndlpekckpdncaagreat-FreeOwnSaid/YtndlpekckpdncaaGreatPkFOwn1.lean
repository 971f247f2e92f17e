/- What each operation of the model yields, as rules of the logic. Conditions: those that each rule names. Slices as lists of cells, and heaps that agree but for some blocks. Conditions: those that each fact names. The operations that make or turn memory, as rules of the logic. Conditions: those that each rule names. The rules of the logic in few words: code as a list of what is still to run. Conditions: those that each rule names. Closed facts on the types of this translation, written by a program of this claim; each is decided by the kernel. The document's store: with, Begin, SetHead, Write. Conditions: the state is readable. A page's bytes of a number; numbers among others; rows of numbers that are the same. Conditions: few. How a law whose call returns true and turns nothing old closes its row. Conditions: those that each fact names. How arguments that come in read: types opened one by one. Conditions: those that each fact names. No page is both free and in use. Conditions: the arguments are numbers of 64 bits. The arguments of the laws on the free list, opened. Conditions: none. The law FreeOwn returns true at every input and leaves its arguments as they were. Conditions: none. -/
import Derived.Test.YtndlpekckpdncaaGreatPkF6
import Derived.Test.YtndlpekckpdncaaGreatProg
import Derived.ProofKit
import Derived.OpenShut
import Derived.Below
import Derived.Carry
import Derived.Deep.Slices
import Derived.ChangeArms
import Derived.ChangeMaps5
import Derived.Test.YtndlpekckpdncaaGreatRows
set_option maxRecDepth 100000
set_option maxHeartbeats 2000000
set_option linter.all false
namespace Go.HL
open Go
def boB (P:Program) (t:TypeId):Bool:=match P.underlying t with | some .bool=>true | _=>false
theorem boB_iff {P:Program} {t:TypeId} (h:boB P t=true):P.underlying t=some .bool:=by
 unfold boB at h;split at h<;>simp_all
theorem flat_at {α:Type} {f:α→List Value} {k:Nat} (hf:∀x,(f x).length=k):∀(l:List α) (i j:Nat) (hi:i<l.length),j<k→(l.flatMap f)[i*k+j]? = (f l[i])[j]?
 | x::l,0,j,_,hj=>by simp only [List.flatMap_cons,Nat.zero_mul,Nat.zero_add];rw [List.getElem?_append_left (by rw [hf];exact hj)];rfl
 | x::l,i+1,j,hi,hj=>by
  simp only [List.flatMap_cons];rw [List.getElem?_append_right (by rw [hf,Nat.add_mul];omega),hf];have:(i+1)*k+j-k=i*k+j:=by rw [Nat.add_mul];omega
  rw [this,flat_at hf l i j (by simpa using hi) hj];rfl
namespace V
variable {P:Program} {s:Slots} {h:Heap} {d:Option Tmp} {ty:TypeId} {pos:String} {af:Array Edge} {g:Option (Nat × Bool)} {x y c:Operand} {t u:TypeId}
theorem eqGB {op:BinOp} {a b:Bool} {w:World} : (eqGuard op t x y (.bool a) (.bool b)).run P w=.ok () w:=by
 unfold eqGuard;cases op<;>simp
theorem equal_bo {a b:Bool} (ht:boB P t=true) (w:World):(Op.equal t (.bool a) (.bool b)).run P w=.ok (a == b) w:=run_equal_bool w t a b (boB_iff ht)
theorem boNeq {a b r:Bool} (hx:ev s x=.bool a) (hy:ev s y=.bool b) (ht:boB P t=true) (hr:(a != b)=r):OpV P ⟨d,.binOp .neq t x y u,ty,pos,af,g⟩ s h (.bool r):=fun w _=>by
 subst hr;simp [execOp,hx,hy,eqGB,binOp,equal_bo ht,bne]
end V
open Go
namespace OpV
variable {P:Program} {s:Slots} {h:Heap} {d:Option Tmp} {ty:TypeId} {pos:String} {af:Array Edge} {g:Option (Nat × Bool)} {x y c:Operand} {t u:TypeId}
theorem bNe {a b:Bool} (ht:boB P t=true) (hx:ev s x=.bool a:=by exact rfl) (hy:ev s y=.bool b:=by exact rfl):OpV P ⟨d,.binOp .neq t x y u,ty,pos,af,g⟩ s h (.bool (a != b)):=V.boNeq hx hy ht rfl
end OpV
end Go.HL
namespace Go.Proofs.YtndlpekckpdncaaGreat
open Go Go.HL
namespace T
theorem bo4:boB Go.Proofs.Tryz.prog 4=true:=by kernel_rfl
end T
open Go Go.HL
theorem rmay_any {h:Heap} {z c:Int} {ah:Bool} (hz:i64N z) :
  HC Tryz.prog 14 #[.agg #[.int .i64 z,.bool ah,.int .i64 c]] h (fun v h'=>v=.bool (decide ((z=256∨z=512∨z=1024∨z=2048∨z=4096)∧1≤c∧c≤1024))∧Ext h h'):=by
 have hz1:=hz.1;have hz2:=hz.2;have ok:=Hp.nil h none_;refine HC.go Tryz.func14 28 ?_;refine .seq<|.r<|.a' 1 (.bxA (cs:=[.int .i64 z,.bool ah,.int .i64 c]) ok) ?_;rintro _ η1 ⟨pb1,rfl,ok,xe⟩;refine .z .asB<|.nil ?_;refine .seq<|.r<|.z .asI<|.nil ?_;refine .seq<|.block fun K0 hK0=>.loop (fun m s hh=>∃(k:Nat),Has s [(1,.pointer (some ⟨pb1,0,none⟩)),(3,.int .i64 (k:Int))]∧Hp h none_ [boxI pb1 23 [.int .i64 z,.bool ah,.int .i64 c]] [] hh∧(k=256∨k=512∨k=1024∨k=2048∨k=4096)∧(k=256∨(k:Int)<2*z)∧m=4096-k) ?_ ?_
 ·exact ⟨_,256,⟨rfl,rfl,trivial⟩,ok,.inl rfl,.inl rfl,rfl⟩
 rintro _ _ η2 ⟨k,hs,ok,hkc,hkz,rfl⟩ J0 hJ0;refine .frame hs fun τ=>?_;refine .seq<|.seq<|.join (fun s hh=>∃(bb:Bool),Has s [(1,.pointer (some ⟨pb1,0,none⟩)),(3,.int .i64 (k:Int)),(11,.bool bb)]∧Hp h none_ [boxI pb1 23 [.int .i64 z,.bool ah,.int .i64 c]] [] hh∧bb=decide ((k:Int)<z∧(k:Int)<4096)) ?_ ?_
 ·
  refine .r<|.z .mvI<|.z (.fa T.fd23_0)<|.z (.ldx T.ag3 ok.m0)<|.z .lss<|.z .mvB<|.sd (fun G8=>?_) (fun G8=>?_)
  ·
   refine .z .mvI<|.z .lss<|.z .pkt<|.nil ?_;refine .end<|⟨_,⟨rfl,rfl,rfl,trivial⟩,ok,by rw [decide_eq_decide];exact ⟨fun h=>⟨by assumption,h⟩,fun h=>h.2⟩⟩
  refine .y<|.y<|.z .pkf<|.nil ?_;refine .end<|⟨false,⟨rfl,rfl,rfl,trivial⟩,ok,(decide_eq_false (fun h=>by have:=h.1;omega)).symm⟩
 rintro s η3 ⟨bb,hs,ok,hbb⟩;refine .frame hs fun τ=>?_;refine .condr (fun C0=>?_) (fun C0=>?_)
 ·
  have hge:=of_decide_eq_false (hbb.symm.trans C0);refine .exit<|hK0 _ _<|.seq<|.r<|.z (.fa T.fd23_0)<|.z (.ldx T.ag3 ok.m0)<|.z .mvI<|.z .eql<|.z .mvB<|.sd (fun G18=>?_) (fun G18=>?_)
  ·
   refine .z (.fa T.fd23_2)<|.z (.ldx T.ag3 ok.m0)<|.z .geq<|.z .pkt<|.z .mvB<|.sd (fun G23=>?_) (fun G23=>?_)
   ·
    refine .z (.fa T.fd23_2)<|.z (.ldx T.ag3 ok.m0)<|.z .leq<|.z .pkt<|.z .asB<|.nil ?_;refine .ret ⟨.bool (decide (c≤1024)),Res.one rfl rfl,⟨by simp only [Value.bool.injEq];first | rfl | (rw [decide_eq_decide];omega) | (symm;rw [decide_eq_false_iff_not];omega),ok.chg⟩⟩
   refine .y<|.y<|.y<|.z .pkf<|.z .asB<|.nil ?_;refine .ret ⟨.bool false,Res.one rfl rfl,⟨by simp only [Value.bool.injEq];first | rfl | (rw [decide_eq_decide];omega) | (symm;rw [decide_eq_false_iff_not];omega),ok.chg⟩⟩
  refine .y<|.y<|.y<|.z .pkf<|.z .mvB<|.y<|.y<|.y<|.z .pkf<|.z .asB<|.nil ?_;refine .ret ⟨.bool false,Res.one rfl rfl,⟨by simp only [Value.bool.injEq];first | rfl | (rw [decide_eq_decide];omega) | (symm;rw [decide_eq_false_iff_not];omega),ok.chg⟩⟩
 have hlt:=of_decide_eq_true (hbb.symm.trans C0);refine .skip<|.block fun K1 hK1=>.r<|.z .mvI<|.z (.mulI (a:=2))<|.z .asI<|.nil ?_;refine .end<|hK1 _ _<|.end<|hJ0 _ _ _ ⟨2*k,⟨rfl,rfl,trivial⟩,ok,dbl_step (z:=z) hkc (by omega),.inr (by omega),rfl⟩ (by omega)
theorem any_step {l:List Int} {v:Int} {i:Nat} (h:i<l.length) (hn:v∉l.take i) (h2:l[i]≠v):v∉l.take (i+1):=by
 rw [List.take_succ_eq_append_getElem h,List.mem_append,List.mem_singleton];rintro (q | q)
 ·exact hn q
 ·exact h2 q.symm
theorem has16_any {h:Heap} {F E:Nat→Prop} {a:Option Addr} {c:Nat} {l:List Int} {v:Int} (hl:RdL h F E (a,l.length,c) l) :
  HC Tryz.prog 20 #[.slice a l.length c,.int .i64 v] h (fun r h'=>r=.bool (decide (v∈l))∧h'=h):=by
 have hlc:=hl.c;have hlm:=hl.m;simp only at hlc hlm;refine HC.go Tryz.func20 18 ?_;refine .seq<|.r<|.z .asB<|.nil ?_;refine .seq<|.seq<|.r<|.z .asI<|.nil ?_;refine .block fun K0 hK0=>.loop (fun m s hh=>∃(i:Nat),Has s [(0,.slice a l.length c),(1,.int .i64 v),(5,.int .i64 (i:Int))]∧h=hh∧i≤l.length∧v∉l.take i∧m=l.length-i) ?_ ?_
 ·exact ⟨_,0,⟨rfl,rfl,rfl,trivial⟩,rfl,Nat.zero_le _,by simp,rfl⟩
 rintro _ _ _ ⟨i,hs,rfl,hi,hn,rfl⟩ J0 hJ0;refine .frame hs fun τ=>?_;refine .seq<|.seq<|.r<|.z .mvI<|.z .mvS<|.z (.len T.el24)<|.z .lss<|.nil ?_;refine .cdr (fun C0=>?_) (fun C0=>?_)
 ·
  refine .exit<|hK0 _ _<|.seq<|.r<|.z .asB<|.nil ?_;refine .ret ⟨.bool false,Res.one rfl rfl,⟨by rw [decide_eq_false (by rwa [List.take_of_length_le (by omega)] at hn)],rfl⟩⟩
 have hil:i<l.length:=by omega
 refine .skip<|.seq<|.block fun K1 hK1=>.seq<|.r<|.z .mvS<|.z .mvI<|?_;obtain ⟨bb1,oo1,rfl,fb1⟩:=hl.pos (by omega);refine .z (.ix1 i T.el24 T.sz3 (hi:=by omega))<|.z (.ld T.ag3 (hl.i64 (i:=i) (by omega)))<|.z .mvI<|.z .eql<|.nil ?_;refine .cd (fun C1=>?_) (fun C1=>?_)
 ·
  refine .seq<|.r<|.z .asB<|.nil ?_;refine .ret ⟨.bool true,Res.one rfl rfl,⟨by rw [decide_eq_true (C1▸List.getElem_mem hil)],rfl⟩⟩
 refine .skip<|.end<|hK1 _ _<|.r<|.z .mvI<|.z (.addI (b:=1))<|.z .asI<|.nil ?_;refine .end<|hJ0 _ _ _ ⟨i+1,⟨rfl,rfl,rfl,trivial⟩,rfl,by omega,any_step (by omega) hn C1,rfl⟩ (by omega)
end Go.Proofs.YtndlpekckpdncaaGreat
namespace Go.HL
open Go Go.RowKit Go.ChangeShapes Go.WideShapes Go.ChangeAt
theorem addr_add (b o j:Nat):(⟨b,o,none⟩:Addr).add j=⟨b,o+j,none⟩:=by unfold Addr.add;split<;>simp_all
structure Opn (P:Program) (t:TypeId) {α:Type} (R:Heap→List Value→α→Prop):Prop where
 run:∀ {H:Type} {enc:TypeId × Value→H} {w:World} {sp:Nat→Bool} {held:Bool} {fuel:Nat} {cs:List Value} {x:DataW H × List MemPlace},DataW.trod enc P w 0 sp held fuel t cs=some x→∃a,R w.heap cs a
section
variable {P:Program} {t e:TypeId}
theorem Opn.mono {α β:Type} {R:Heap→List Value→α→Prop} {R':Heap→List Value→β→Prop} (o:Opn P t R) (h:∀hp cs a,R hp cs a→∃b,R' hp cs b):Opn P t R':=⟨fun hx=>let ⟨a,ha⟩:=o.run hx;h _ _ a ha⟩
theorem Opn.i64 (ht:P.underlying t=some (.int .i64)):Opn P t (fun _ cs (z:Int)=>cs=[.int .i64 z]∧-9223372036854775808≤z∧z≤9223372036854775807):=⟨fun hx=>by
 obtain ⟨n,rfl,_,hw⟩:=DataW.trod_int ht hx;exact ⟨n,rfl,by simpa [Lit.wf,IntKind.min,IntKind.max,IntKind.signed,IntKind.bits] using hw⟩⟩
theorem Opn.bool (ht:P.underlying t=some .bool):Opn P t (fun _ cs (b:Bool)=>cs=[.bool b]):=⟨fun hx=>by
 obtain ⟨b,rfl,_⟩:=DataW.trod_bool ht hx;exact ⟨b,rfl⟩⟩
theorem cells_spot {w:World} {base k:Nat} {b o:Nat} {spot:_} {cs:List Value} (h:w.cells? base ((⟨b,o,spot⟩:Addr).add (0*k)) k=some cs) (hk:0<k):spot=none:=by
 obtain ⟨_,h1,h2⟩:=World.cells?_some h;obtain ⟨c,hc⟩:∃c,cs[0]? = some c:=⟨cs[0],by simp [h1,hk]⟩;have h3:=h2 0 hk;rw [hc] at h3;have h4:=World.cell?_spot h3;simpa [Addr.add] using h4
theorem cells_at {w:World} {base k:Nat} {b o i:Nat} {cs:List Value} (h:w.cells? base ((⟨b,o,none⟩:Addr).add (i*k)) k=some cs):cs.length=k∧∀j v,cs[j]? = some v→cell w.heap b (o+i*k+j)=some v:=by
 obtain ⟨_,h1,h2⟩:=World.cells?_some h;refine ⟨h1,fun j v hv=>?_⟩;have hj:j<k:=by have:=(List.getElem?_eq_some_iff.1 hv).1;omega
 have h3:=h2 j hj;rw [hv,addr_add,addr_add,cell?_eq] at h3;exact h3
theorem choose_lists {α β:Type} {R:Nat→β→α→Prop} : ∀(n:Nat),(∀i,i<n→∃y z,R i y z)→∃(os:List β) (l:List α),os.length=n∧l.length=n∧∀i (h1:i<os.length) (h2:i<l.length),R i os[i] l[i]
 | 0,_=>⟨[],[],rfl,rfl,fun i h=>absurd h (by simp)⟩
 | n+1,each=>by
  obtain ⟨os,l,g1,g2,g3⟩:=choose_lists n (fun i hi=>each i (by omega));obtain ⟨y,z,g4⟩:=each n (by omega);refine ⟨os++[y],l++[z],by simp [g1],by simp [g2],fun i h1 h2=>?_⟩;by_cases hi:i<n
  ·have e1:(os++[y])[i]=os[i]'(by omega):=List.getElem_append_left (by omega);have e2:(l++[z])[i]=l[i]'(by omega):=List.getElem_append_left (by omega);rw [e1,e2];exact g3 i _ _
  ·have hi':i=n:=by simp [g1] at h1;omega
   subst hi';have e1:(os++[y])[i]=y:=by simp [g1]
   have e2:(l++[z])[i]=z:=by simp [g2]
   rw [e1,e2];exact g4
theorem map_one {α β:Type} (f:α→β):∀l:List α,l.map f=l.flatMap fun x=>[f x]
 | []=>rfl
 | x::l=>by simp only [List.map_cons,List.flatMap_cons,←map_one f l];rfl
theorem Opn.slice {α β:Type} {f:β→List Value} {Q:Heap→β→α→Prop} {k:Nat} (ht:P.underlying t=some (.slice e)) (hk:P.cellsOf e=k) (hk0:0<k) (hf:∀o,(f o).length=k) (he:Opn P e (fun h cs a=>∃o,cs=f o∧Q h o a)) :
  Opn P t (fun h cs (l:List α)=>∃(x:SV) (os:List β),cs=[sv x]∧Sl h k (sv x) (os.flatMap f)∧All2 (Q h) os l):=by
 refine ⟨?_⟩;intro H enc w sp held fuel cs x hx;rcases DataW.trod_slice ht hx with ⟨rfl,_⟩ | ⟨a,len,cap,elems,rest,n,_,rfl,_,_,hl,hm,hlen,hel,_,_⟩
 ·exact ⟨[],(none,0,0),[],rfl,Sl.nil _ _,All2.nil⟩
 obtain ⟨b,o,spot⟩:=a;have get:∀i,i<len→∃cs,w.cells? 0 ((⟨b,o,spot⟩:Addr).add (i*k)) k=some cs∧∃z y,cs=f y∧Q w.heap y z:=fun i hi=>by
  have h1:=hel i hi;have h2:elems[i]? = some (elems[i]'(by omega)):=by simp
  rw [h2,hk,Option.bind_eq_some_iff] at h1;obtain ⟨cs,h3,h4⟩:=h1;obtain ⟨z,y,hq⟩:=he.run h4;exact ⟨cs,h3,z,y,hq⟩
 have hspot:0<len→spot=none:=fun hp=>let ⟨_,h,_⟩:=get 0 hp;cells_spot h hk0;obtain ⟨os,l,ho1,hl1,hall⟩:=choose_lists (R:=fun i y z=>Q w.heap y z∧∀j v,(f y)[j]? = some v→cell w.heap b (o+i*k+j)=some v) len (fun i hi=>by
  obtain ⟨cs,h3,z,y,rfl,hq⟩:=get i hi;have:=hspot (by omega);subst this;exact ⟨y,z,hq,(cells_at h3).2⟩)
 unfold maxLen at hm;refine ⟨l,(some ⟨b,o,spot⟩,len,cap),os,rfl,⟨_,_,_,rfl,hl,by omega,?_,fun hp=>?_⟩,by omega,fun i h1 h2=>(hall i h1 h2).1⟩
 ·rw [flat_len hf,ho1]
 ·have hs:=hspot hp;subst hs;refine ⟨b,o,rfl,fun i x hi=>?_⟩;have hlt:=(List.getElem?_eq_some_iff.1 hi).1;rw [flat_len hf,ho1] at hlt;have hdm:i=i / k*k+i%k:=by rw [Nat.mul_comm];exact (Nat.div_add_mod i k).symm
  have h1:i / k<len:=Nat.div_lt_of_lt_mul (by rw [Nat.mul_comm];exact hlt);have h2:i%k<k:=Nat.mod_lt _ hk0;rw [hdm,flat_at hf os (i / k) (i%k) (by omega) h2] at hi;rw [hdm,←Nat.add_assoc];exact (hall (i / k) (by omega) (by omega)).2 _ _ hi
theorem Opn.ints (ht:P.underlying t=some (.slice e)) (he:P.underlying e=some (.int .i64)) (hc:P.cellsOf e=1):Opn P t (fun h cs (l:List Int)=>∃x:SV,cs=[sv x]∧Ints h (sv x) l∧∀z∈l,-9223372036854775808≤z∧z≤9223372036854775807):=
 (Opn.slice (f:=fun x:Int=>[iv x]) (Q:=fun _ o a=>o=a∧-9223372036854775808≤a∧a≤9223372036854775807) ht hc (by omega) (fun _=>rfl) ((Opn.i64 he).mono fun _ _ a h=>⟨a,a,h.1,rfl,h.2⟩)).mono fun h cs l ⟨x,os,h1,h2,h3⟩=>by
  have:os=l:=List.ext_getElem h3.1 fun i h4 h5=>(h3.2 i h4 h5).1;subst this;refine ⟨os,x,h1,?_,fun z hz=>?_⟩
  ·have e:=map_one iv os;unfold Ints;rw [e];exact h2
  ·obtain ⟨i,hi,rfl⟩:=List.mem_iff_getElem.1 hz;exact (h3.2 i hi hi).2
theorem opn_struct {fs:Array Field} (ht:P.underlying t=some (.struct fs)) {H:Type} {enc:TypeId × Value→H} {w:World} {sp:Nat→Bool} {held:Bool} {fuel:Nat} {cs:List Value} {x:DataW H × List MemPlace} (hx:DataW.trod enc P w 0 sp held fuel t cs=some x) :
  cs.length=P.cellsOf t∧∀(i:Nat) (f:Field),fs[i]? = some f→∃n y,DataW.trod enc P w 0 sp held n f.type ((cs.drop f.offset).take (P.cellsOf f.type))=some y:=by
 obtain ⟨xs,n,_,_,h1,h2,h3⟩:=DataW.trod_struct ht hx;refine ⟨h1,fun i f hf=>?_⟩;have hi:i<xs.length:=by have:=(Array.getElem?_eq_some_iff.1 hf).1;omega
 exact ⟨n,xs[i],by rw [h3 i f hf];simp⟩
theorem opn_field {i off ft k:Nat} (hf:fdB P t i=some (off,ft,k)) {H:Type} {enc:TypeId × Value→H} {w:World} {sp:Nat→Bool} {held:Bool} {fuel:Nat} {cs:List Value} {x:DataW H × List MemPlace} (hx:DataW.trod enc P w 0 sp held fuel t cs=some x)
  {α:Type} {R:Heap→List Value→α→Prop} (o:Opn P ft R):∃a,R w.heap ((cs.drop off).take k) a:=by
 obtain ⟨fs,fd,inf,ht,hfi,rfl,rfl,h3,h4⟩:=fdB_iff hf;obtain ⟨n,y,h2⟩:=(opn_struct ht hx).2 i fd hfi;have:P.cellsOf fd.type=k:=by simp [Program.cellsOf,h3,h4]
 rw [this] at h2;exact o.run h2
theorem Opn.arg {α:Type} {R:Heap→List Value→α→Prop} (o:Opn P t R) {H:Type} {enc:TypeId × Value→H} {w:World} {sp:Nat→Bool} {held:Bool} {v:Value} {d:DataW H} {ps:List MemPlace} (h:DataW.Trod enc P w 0 sp held t v d ps):∃a,R w.heap v.cells.toList a:=
 let ⟨_,hf⟩:=h;o.run hf
end
open Go
theorem sv_cells {a:Option Addr} {n c:Nat} {x:SV} (h:(Value.slice a n c).cells.toList=[sv x]):x=(a,n,c):=by
 simp [Value.cells] at h;obtain ⟨h1,h2,h3⟩:=h;obtain ⟨x1,x2,x3⟩:=x;simp_all
end Go.HL
namespace Go.Proofs.YtndlpekckpdncaaGreat
open Go Go.HL
theorem own_give {w:St} {T:Trk} (f:FrS w T) {no:Int} : ∃w2 T2 c2,giveF w no=(w2,c2)∧FrS w2 T2∧w2.z=w.z∧w2.now.length=w.now.length∧(c2=0↔2≤no∧no≤(w.now.length:Int)∧no∉flatT T)∧(no∈flatT T2↔(2≤no∧no≤(w.now.length:Int)∧no∉flatT T)∨no∈flatT T):=by
 by_cases h1:2≤no∧no≤(w.now.length:Int)
 ·by_cases h3:no∈flatT T
  ·refine ⟨w,T,7,giveF_7 (f.give_ h1.1 h1.2) (by rw [f.op]) (by rw [f.op];exact h3),f,rfl,rfl,⟨fun h=>absurd h (by decide),fun h=>absurd h3 h.2.2⟩,⟨fun h=>.inr h,fun _=>h3⟩⟩
  ·by_cases h4:frT T≠0∧tkN w<(w.z-8) / 4
   ·cases T with
    | nil=>exact absurd rfl h4.1
    | cons t T=>
     have h5:=f.give_a h1.1 h1.2 h3 (by rw [←f.tk.2.1];exact h4.2);exact ⟨_,_,0,h5.1,h5.2,rfl,by rw [upP_len,List.length_set],⟨fun _=>⟨h1.1,h1.2,h3⟩,fun _=>rfl⟩,⟨fun _=>.inl ⟨h1.1,h1.2,h3⟩,fun _=>by rw [flatT_cons];simp⟩⟩
   ·have h5:=f.give_b h1.1 h1.2 h3 h4;exact ⟨_,_,0,h5.1,h5.2,rfl,by rw [upP_len,List.length_set],⟨fun _=>⟨h1.1,h1.2,h3⟩,fun _=>rfl⟩,⟨fun _=>.inl ⟨h1.1,h1.2,h3⟩,fun _=>by rw [flatT_cons];simp⟩⟩
 ·refine ⟨w,T,1,giveF_1 f.i (by rw [f.pgs];exact f.n1) (by rw [f.pgs];omega),f,rfl,rfl,⟨fun h=>absurd h (by decide),fun h=>absurd ⟨h.1,h.2.1⟩ h1⟩,⟨fun h=>.inr h,fun h=>h.elim (fun h=>absurd ⟨h.1,h.2.1⟩ h1) id⟩⟩
theorem own_take {w:St} {T:Trk} (f:FrS w T) (hm:(w.now.length+1)*w.z≤16777216):∃w2 T2 x,takeF w=(w2,x,0)∧FrS w2 T2∧w2.z=w.z∧1≤x∧x≤(w2.now.length:Int)∧pageAt w2.now x=zer w.z∧x∉flatT T2∧((x∈flatT T∧(flatT T).length=(flatT T2).length+1∧w2.now.length=w.now.length)∨(flatT T=[]∧x=(w.now.length:Int)+1∧w2.now.length=w.now.length+1)):=by
 cases T with
 | nil=>
  obtain ⟨w2,h1,h2,h3,h4,h5⟩:=f.take_n hm;exact ⟨w2,[],_,h1,h2,h3,by omega,by omega,h5,by simp [flatT],.inr ⟨rfl,rfl,h4⟩⟩
 | cons t T=>
  have hr:=frT_in f.mt (by simp);rcases List.eq_nil_or_concat t.2 with ht | ⟨ns,no,ht⟩
  ·obtain ⟨w2,h1,h2,h3,h4,h5⟩:=f.take_b ht;have hn:=f.mt.nd;rw [flatT_cons,ht] at hn;have hr1:2≤t.1:=hr.1;have hr2:t.1≤(w.now.length:Int):=hr.2;exact ⟨w2,T,_,h1,h2,h3,by omega,by omega,h5,(List.nodup_cons.1 hn).1,.inl ⟨by rw [flatT_cons];simp,by rw [flatT_cons,ht];simp,h4⟩⟩
  ·rw [List.concat_eq_append] at ht;obtain ⟨w2,h1,h2,h3,h4,h5⟩:=f.take_a ht;have hr3:=f.mt.rg no (by rw [flatT_cons,ht];simp);have hn:=f.mt.nd;have hp:(flatT (t::T)).Perm (no::flatT ((t.1,ns)::T)):=by
    rw [flatT_cons,flatT_cons,ht];show (t.1::((ns++[no])++flatT T)).Perm (no::t.1::(ns++flatT T));refine List.Perm.trans (List.Perm.cons _ ?_) (List.Perm.swap _ _ _);rw [List.append_assoc];exact List.perm_middle
   exact ⟨w2,_,_,h1,h2,h3,by omega,by omega,h5,(List.nodup_cons.1 (hp.nodup_iff.1 hn)).1,.inl ⟨hp.mem_iff.2 (by simp),by rw [hp.length_eq];rfl,h4⟩⟩
theorem freeOwn_walk {h:Heap} {F E:Nat→Prop} {z c pages:Int} {ah:Bool} {a:Option Addr} {cl:Nat} {l:List Int} (hl:RdL h F E (a,l.length,cl) l) (hli:∀x∈l,i64N x) (hz:i64N z) :
  HC Tryz.prog 3 #[.agg #[.int .i64 z,.bool ah,.int .i64 c],.int .i64 pages,.slice a l.length cl] h (fun v h'=>v=.bool true∧Ext h h'):=by
 have hlm:=hl.m;have hlc:=hl.c;simp only at hlm hlc;have ok:=(Hp.nil h none_).arg hl;refine HC.go Tryz.func3 201 ?_;refine .seq<|.r<|.a' 3 (.bxA (cs:=[.int .i64 z,.bool ah,.int .i64 c]) ok) ?_;rintro _ η1 ⟨pb1,rfl,ok,xe⟩;refine .z .asB<|.nil ?_;refine .seq<|.seq<|.r<|.z (.ldb T.ag23 ok.m0 T.sz23)<|.c' 26 .func (rmay_any (z:=z) (ah:=ah) (c:=c) hz) ?_;rintro _ η2 ⟨rfl,hx⟩;have ok:=ok.ext hx;refine .z .notd<|.z .mvB<|.sd (fun G28=>?_) (fun G28=>?_)
 ·
  refine .y<|.y<|.z .pkt<|.z .mvB<|.y<|.y<|.z .pkt<|.z .mvB<|.y<|.y<|.y<|.z .pkt<|.nil ?_;refine .ct<|.seq<|.r<|.c' 41 .func live16_any ?_;rintro _ η3 ⟨rfl,hx⟩;have ok:=ok.ext hx;refine .z .asB<|.nil ?_;refine .ret ⟨.bool true,Res.one rfl rfl,⟨rfl,ok.chg⟩⟩
 refine .z .mvI<|.z .lss<|.z .pkf<|.z .mvB<|.sd (fun G32=>?_) (fun G32=>?_)
 ·
  refine .y<|.y<|.z .pkt<|.z .mvB<|.y<|.y<|.y<|.z .pkt<|.nil ?_;refine .ct<|.seq<|.r<|.c' 41 .func live16_any ?_;rintro _ η4 ⟨rfl,hx⟩;have ok:=ok.ext hx;refine .z .asB<|.nil ?_;refine .ret ⟨.bool true,Res.one rfl rfl,⟨rfl,ok.chg⟩⟩
 refine .z .mvI<|.z .gtr<|.z .pkf<|.z .mvB<|.sd (fun G36=>?_) (fun G36=>?_)
 ·
  refine .y<|.y<|.y<|.z .pkt<|.nil ?_;refine .ct<|.seq<|.r<|.c' 41 .func live16_any ?_;rintro _ η5 ⟨rfl,hx⟩;have ok:=ok.ext hx;refine .z .asB<|.nil ?_;refine .ret ⟨.bool true,Res.one rfl rfl,⟨rfl,ok.chg⟩⟩
 refine .z .mvS<|.z (.len T.el24)<|.z .gtr<|.z .pkf<|.nil ?_;refine .cd (fun C0=>?_) (fun C0=>?_)
 ·
  refine .seq<|.r<|.c' 41 .func live16_any ?_;rintro _ η6 ⟨rfl,hx⟩;have ok:=ok.ext hx;refine .z .asB<|.nil ?_;refine .ret ⟨.bool true,Res.one rfl rfl,⟨rfl,ok.chg⟩⟩
 have hmay:=Classical.not_not.1 G28;have hok:okSz z.toNat=true:=by have h1:=hmay.1;simp only [okSz,Bool.or_eq_true,beq_iff_eq];omega
 obtain ⟨zl,hzl,rfl⟩:∃zl:List UInt8,List.replicate zl.length (0:UInt8)=zl∧z=(zl.length:Int):=⟨List.replicate z.toNat 0,by simp,by simp;omega⟩;obtain ⟨n,rfl⟩:∃n:Nat,pages=(n:Int):=⟨pages.toNat,by omega⟩;rw [Int.toNat_natCast] at hok;have hzc:=okSz_c hok;refine .skip<|.seq<|.r<|.z (.ldb T.ag23 ok.m0 T.sz23)<|.z .mvI<|.c' 45 .func (opened16_any (z:=zl.length) (n:=n) (ah:=ah) (c:=c) hok hmay.2 (by omega)) ?_;rintro _ η7 ⟨so,Fw1,Ww1,Ew1,rfl,hE,hW,q⟩;have ok:=ok.addM15 q.tR;rw [show Value.agg Ww1.cells=.agg #[.int .i64 (Ww1.z:Int),.slice Ww1.sa Ww1.sl.length Ww1.sc,.bool Ww1.i,.slice Ww1.na Ww1.nl.length Ww1.nc,.slice Ww1.va Ww1.vl.length Ww1.vc] from rfl];have hf0:FrS (opW zl.length n) []:=by rw [show opW zl.length n=opV zl.length (n-1) from if_neg (by omega)];exact op_fs hok (by omega)
 have hl0:(opW zl.length n).now.length=n:=by rw [show opW zl.length n=opV zl.length (n-1) from if_neg (by omega)];show (opL zl.length (n-1)).length=n;rw [opL_len];omega
 have hz0:(opW zl.length n).z=zl.length:=by rw [show opW zl.length n=opV zl.length (n-1) from if_neg (by omega)];rfl
 refine .z .mvU<|.z .ex<|.z .ex<|.z .ex<|.a' 8 (.alA T.zr31 ok) ?_;rintro _ η8 ⟨pb2,rfl,ok,xe⟩;refine .z .asP<|.ur' (.stW (vs:=[.int .i64 (Ww1.z:Int),.slice Ww1.sa Ww1.sl.length Ww1.sc,.bool Ww1.i,.slice Ww1.na Ww1.nl.length Ww1.nc,.slice Ww1.va Ww1.vl.length Ww1.vc]) T.sz31 ok (oneL rfl)) ?_;rintro η9 ⟨ok,cg⟩;refine .z .asB<|.nil ?_;refine .seq<|.seq<|.r<|.z .mvB<|.z .not<|.nil ?_;refine .cf<|.skip<|.seq<|.seq<|.r<|.z .mvS<|.z (.len T.el24)<|.z .mvI<|.nil ?_;refine .block fun K0 hK0=>.loop (fun m s hh=>∃(i:Nat) (Fo:Nat→Prop) (w:St) (Q:Trk),Has s [(3,.pointer (some ⟨pb1,0,none⟩)),(7,.pointer (some ⟨so,0,none⟩)),(51,.slice a l.length cl),(52,.int .i64 (l.length:Int)),(53,.int .i64 (i:Int))]∧Hp h none_ [dsI (nG ah) so Fo w,boxI pb1 23 [.int .i64 (zl.length:Int),.bool ah,.int .i64 c]] [rdI (fun j=>F j∧j<h.size) (fun j=>E j∧j<h.size) (a,l.length,cl) l] hh∧i≤l.length∧FrS w Q∧w.z=zl.length∧w.now.length≤n+i∧m=l.length-i) ?_ ?_
 ·exact ⟨_,0,Fw1,(opW zl.length n),[],⟨rfl,rfl,rfl,rfl,rfl,trivial⟩,(ok.n2.n2).k2,Nat.zero_le _,hf0,hz0,by omega,rfl⟩
 rintro _ _ η10 ⟨i,Fo,w,Q,hs,ok,hi,hf,hwz,hwl,rfl⟩ J0 hJ0;refine .frame hs fun τ=>?_;refine .seq<|.r<|.z .lss<|.nil ?_;refine .seq<|.cdr (fun C2=>?_) (fun C2=>?_)
 ·
  refine .exit<|hK0 _ _<|.seq<|.r<|.c' 200 .func live16_any ?_;rintro _ η11 ⟨rfl,hx⟩;have ok:=ok.ext hx;refine .z .asB<|.nil ?_;refine .ret ⟨.bool true,Res.one rfl rfl,⟨rfl,ok.chg⟩⟩
 have hil:i<l.length:=by omega
 have hpw:w.pgs.length=w.now.length:=by rw [hf.pgs]
 refine .skip<|.seq<|.block fun K1 hK1=>.seq<|.r<|?_;obtain ⟨bb1,oo1,rfl,fb1⟩:=ok.r0.pos (by omega);refine .z (.ix1 i T.el24 T.sz3 (hi:=by omega))<|.z (.ld T.ag3 (ok.r0.i64 (i:=i) (by omega)))<|.z .asI<|.nil ?_;refine .seq<|.r<|.z .mvP<|.c' 59 .func (flistS (G:=(nG ah)) (w:=w) (l:=(flatT Q)) (ok).loc0 hf.all) ?_;rintro _ η12 ⟨Fl1,xl1,cl1,Sl1,hpl1,hsl1,rfl,q⟩;have ok:=(ok).lift2 q;refine .z .mvU<|.z .ex<|.z .ex<|.z .asS<|.z .asI<|.nil ?_;refine .seq<|.r<|.z .mvP<|.c' 63 .func (sHead_any (G:=(nG ah)) (w:=w) (ok.n1).loc0) ?_;rintro _ η13 ⟨Fh1,rfl,q⟩;have ok:=(ok.n1).lift1 q;rw [show w.head.val=.agg #[.int .i64 w.head.size,.int .i64 (w.pgs.length:Int),.int .i64 w.head.free,.int .i64 w.head.many,.int .i64 w.head.cookie,.int .i64 w.head.version] from (by rw [←St.head_pages];rfl)];refine .z (.fd T.fd38_1 T.ag3)<|.z .asI<|.nil ?_;refine .seq<|.seq<|.r<|.z .mvI<|.z .neq<|.z .mvB<|.z .mvP<|.c' 69 .func (sHead_any (G:=(nG ah)) (w:=w) (ok).loc0) ?_;rintro _ η14 ⟨Fh2,rfl,q⟩;have ok:=(ok).lift1 q;rw [show w.head.val=.agg #[.int .i64 w.head.size,.int .i64 (w.pgs.length:Int),.int .i64 w.head.free,.int .i64 w.head.many,.int .i64 w.head.cookie,.int .i64 w.head.version] from (by rw [←St.head_pages];rfl)];refine .z (.fd T.fd38_3 T.ag3)<|.z .mvS<|.z (.len T.el24)<|.z .neq<|.z .pkf<|.nil ?_;refine .cd (fun C3=>?_) (fun C3=>?_)
 ·
  exact absurd (show w.head.many=(Sl1.length:Int) by rw [hf.hd,hpl1.length_eq]) C3
 refine .skip<|.seq<|.seq<|.r<|.z .mvI<|.z .gtr<|.nil ?_;refine .cd (fun C4=>?_) (fun C4=>?_)
 ·
  refine .seq<|.r<|.z .mvP<|.z .mvI<|?_;obtain ⟨w2,T2,c2,g1,hf2,hwz2,hwl2,hc2,hin2⟩:=own_give hf (no:=l[i]);refine .c' 79 .func (ansE (ci:=((c2:Nat):Int)) (fgive_any (G:=(nG ah)) (w:=w) (no:=l[i]) (ok).loc0 (by have:=hli _ (List.getElem_mem hil);exact this)) g1 rfl) ?_;rintro _ η15 ⟨Fv1,rfl,q⟩;have ok:=(ok).lift1 q;refine .z .asI<|.nil ?_;refine .seq<|.join (fun s hh=>∃(rr:Bool),Has s [(3,.pointer (some ⟨pb1,0,none⟩)),(7,.pointer (some ⟨so,0,none⟩)),(11,.int .i64 (l[i])),(12,.slice xl1 Sl1.length cl1),(14,.int .i64 (w.pgs.length:Int)),(15,.int .i64 ((c2:Nat):Int)),(16,.bool rr),(51,.slice (some ⟨bb1,oo1,none⟩) l.length cl),(52,.int .i64 (l.length:Int)),(53,.int .i64 (i:Int))]∧Hp h none_ [dsI (nG ah) so Fv1 w2,capI 1 3 (xl1,Sl1.length,cl1) (Sl1.map iv),boxI pb1 23 [.int .i64 (zl.length:Int),.bool ah,.int .i64 c]] [rdI (fun j=>F j∧j<h.size) (fun j=>E j∧j<h.size) (some ⟨bb1,oo1,none⟩,l.length,cl) l] hh∧rr=decide (2≤l[i]∧l[i]≤(w.now.length:Int)∧l[i]∉flatT Q)) ?_ ?_
  ·
   refine .r<|.z .mvI<|.z .geq<|.z .mvB<|.sd (fun G82=>?_) (fun G82=>?_)
   ·
    refine .z .mvI<|.z .mvI<|.z .leq<|.z .pkt<|.z .mvB<|.sd (fun G87=>?_) (fun G87=>?_)
    ·
     refine .z .mvS<|.z .mvI<|.k 90 .func (has16_any (v:=l[i]) (a:=xl1) (c:=cl1) (l:=Sl1) (RdL.ofInts (x:=(xl1,Sl1.length,cl1)) (E:=none_) (ok.m1).sl))<|.z .notd<|.z .pkt<|.z .asB<|.nil ?_;refine .end<|⟨_,⟨rfl,rfl,rfl,rfl,rfl,rfl,rfl,rfl,rfl,rfl,trivial⟩,ok.n2.n2.n2,by rw [decide_eq_decide,hpl1.mem_iff];exact ⟨fun h=>⟨by omega,by omega,h⟩,fun h=>h.2.2⟩⟩
    refine .y<|.y<|.y<|.y<|.z .pkf<|.z .asB<|.nil ?_;refine .end<|⟨false,⟨rfl,rfl,rfl,rfl,rfl,rfl,rfl,rfl,rfl,rfl,trivial⟩,ok.n2.n2.n2,(decide_eq_false (fun h=>by have:=h.1;have:=h.2.1;omega)).symm⟩
   refine .y<|.y<|.y<|.z .pkf<|.z .mvB<|.y<|.y<|.y<|.y<|.z .pkf<|.z .asB<|.nil ?_;refine .end<|⟨false,⟨rfl,rfl,rfl,rfl,rfl,rfl,rfl,rfl,rfl,rfl,trivial⟩,ok.n2.n2.n2,(decide_eq_false (fun h=>by have:=h.1;have:=h.2.1;omega)).symm⟩
  rintro s η16 ⟨rr,hs,ok,hrr⟩;refine .frame hs fun τ=>?_;refine .seq<|.r<|.z .mvP<|.c' 95 .func (flistS (G:=(nG ah)) (w:=w2) (l:=(flatT T2)) (ok).loc0 hf2.all) ?_;rintro _ η17 ⟨Fl2,xl2,cl2,Sl2,hpl2,hsl2,rfl,q⟩;have ok:=(ok).lift2 q;refine .z .mvU<|.z .ex<|.z .ex<|.z .asS<|.z .asI<|.nil ?_;refine .seq<|.seq<|?_;have hpw2:w2.pgs.length=w2.now.length:=by rw [hf2.pgs]
  have hm2:l[i]∈Sl2↔rr=true∨l[i]∈Sl1:=by rw [hpl2.mem_iff,hpl1.mem_iff,hin2,hrr,decide_eq_true_iff]
  refine .r<|.z .mvI<|.z .eql<|.z .mvB<|.z (.bNe T.bo4)<|.z .mvB<|.spl (fun G102=>?_) (fun G102=>?_)
  ·
   rw [show decide (((c2:Nat):Int)=0)=rr by rw [hrr,decide_eq_decide,←hc2];omega] at G102;simp at G102
  refine .z .mvS<|.z .mvI<|.k 105 .func (has16_any (v:=l[i]) (a:=xl2) (c:=cl2) (l:=Sl2) (RdL.ofInts (x:=(xl2,Sl2.length,cl2)) (E:=none_) (ok.m0).sl))<|.z .mvB<|.z .mvB<|.spl (fun G107=>?_) (fun G107=>?_)
  ·
   refine .y<|.y<|.y<|.z .pkt<|.z (.bNe T.bo4)<|.z .pkf<|.z .mvB<|.spl (fun G114=>?_) (fun G114=>?_)
   ·
    first
    | (rw [decide_eq_true (hm2.2 (.inl G107))] at G114;simp at G114)
    | (have h5:(l[i]∈Sl2)=(l[i]∈Sl1):=propext ⟨fun h=>(hm2.1 h).resolve_left (by simp [G107]),fun h=>hm2.2 (.inr h)⟩;simp only [h5] at G114;simp at G114)
   refine .z .mvP<|.c' 116 .func (sHead_any (G:=(nG ah)) (w:=w2) (ok.n1).loc0) ?_;rintro _ η18 ⟨Fh3,rfl,q⟩;have ok:=(ok.n1).lift1 q;rw [show w2.head.val=.agg #[.int .i64 w2.head.size,.int .i64 (w2.pgs.length:Int),.int .i64 w2.head.free,.int .i64 w2.head.many,.int .i64 w2.head.cookie,.int .i64 w2.head.version] from (by rw [←St.head_pages];rfl)];refine .z (.fd T.fd38_1 T.ag3)<|.z .mvI<|.z .neq<|.z .pkf<|.nil ?_;refine .cd (fun C5=>?_) (fun C5=>?_)
   ·
    exact absurd (show (w2.pgs.length:Int)=(w.pgs.length:Int) by omega) C5
   refine .skip<|.exit<|hK1 _ _<|.r<|.z (.addI (b:=1))<|.z .mvI<|.nil ?_;refine .end<|hJ0 _ _ _ ⟨i+1,Fh3,w2,T2,⟨rfl,rfl,rfl,rfl,rfl,trivial⟩,(ok.n3.n1).k2,by omega,hf2,hwz2.trans hwz,by omega,rfl⟩ (by omega)
  refine .z .mvS<|.z .mvI<|.k 110 .func (has16_any (v:=l[i]) (a:=xl1) (c:=cl1) (l:=Sl1) (RdL.ofInts (x:=(xl1,Sl1.length,cl1)) (E:=none_) (ok.m2).sl))<|.z .pkf<|.z (.bNe T.bo4)<|.z .pkf<|.z .mvB<|.spl (fun G114=>?_) (fun G114=>?_)
  ·
   first
   | (rw [decide_eq_true (hm2.2 (.inl G107))] at G114;simp at G114)
   | (have h5:(l[i]∈Sl2)=(l[i]∈Sl1):=propext ⟨fun h=>(hm2.1 h).resolve_left (by simp [G107]),fun h=>hm2.2 (.inr h)⟩;simp only [h5] at G114;simp at G114)
  refine .z .mvP<|.c' 116 .func (sHead_any (G:=(nG ah)) (w:=w2) (ok.n1).loc0) ?_;rintro _ η19 ⟨Fh4,rfl,q⟩;have ok:=(ok.n1).lift1 q;rw [show w2.head.val=.agg #[.int .i64 w2.head.size,.int .i64 (w2.pgs.length:Int),.int .i64 w2.head.free,.int .i64 w2.head.many,.int .i64 w2.head.cookie,.int .i64 w2.head.version] from (by rw [←St.head_pages];rfl)];refine .z (.fd T.fd38_1 T.ag3)<|.z .mvI<|.z .neq<|.z .pkf<|.nil ?_;refine .cd (fun C5=>?_) (fun C5=>?_)
  ·
   exact absurd (show (w2.pgs.length:Int)=(w.pgs.length:Int) by omega) C5
  refine .skip<|.exit<|hK1 _ _<|.r<|.z (.addI (b:=1))<|.z .mvI<|.nil ?_;refine .end<|hJ0 _ _ _ ⟨i+1,Fh4,w2,T2,⟨rfl,rfl,rfl,rfl,rfl,trivial⟩,(ok.n3.n1).k2,by omega,hf2,hwz2.trans hwz,by omega,rfl⟩ (by omega)
 refine .skip<|.seq<|.r<|.z .mvP<|?_;have hmz:(w.now.length+1)*w.z≤16777216:=Nat.le_trans (Nat.mul_le_mul (show w.now.length+1≤150 by omega) (show w.z≤4096 by omega)) (by decide);obtain ⟨w2,T2,x,g1,hf2,hwz2,hx1,hx2,hx3,hx4,hcase⟩:=own_take hf hmz;refine .c' 123 .func (ansT (ci:=0) (ftake_any (G:=(nG ah)) (w:=w) (ok).loc0) g1 rfl) ?_;rintro _ η20 ⟨Ft1,rfl,q⟩;have ok:=(ok).lift1 q;refine .z .mvU<|.z .ex<|.z .ex<|.z .asI<|.z .asI<|.nil ?_;refine .seq<|.r<|.z .mvP<|.z .mvI<|.c' 129 .func (sReadOk_any (G:=(nG ah)) (w:=w2) (no:=x) (b:=(zer w.z)) (ok).loc0 hx1 (by rw [hf2.pgs];exact hx2) (by rw [hf2.pgs];exact hx3.symm)) ?_;rintro _ η21 ⟨Fr1,xr1,cr1,rfl,hlr1,q⟩;have ok:=(ok).lift2 q;refine .z .mvU<|.z .ex<|.z .ex<|.z .asS<|.z .asI<|.nil ?_;refine .seq<|.r<|.z .mvP<|.c' 134 .func (flistS (G:=(nG ah)) (w:=w2) (l:=(flatT T2)) (ok.n1).loc0 hf2.all) ?_;rintro _ η22 ⟨Fl3,xl3,cl3,Sl3,hpl3,hsl3,rfl,q⟩;have ok:=(ok.n1).lift2 q;refine .z .mvU<|.z .ex<|.z .ex<|.z .asS<|.z .asI<|.nil ?_;refine .seq<|.seq<|?_;have hlt1:=hf.mt.lt hf.n1;have hlt2:=hf2.mt.lt hf2.n1;have hfew:=hf.few;have hfew2:=hf2.few;have hpw2:w2.pgs.length=w2.now.length:=by rw [hf2.pgs]
 have hx5:x∉Sl3:=fun h=>hx4 (hpl3.mem_iff.1 h);have hzz:zer w.z=zl:=by rw [hwz];exact hzl
 have hlen1:=hpl1.length_eq;have hlen3:=hpl3.length_eq;have hcs:(x∈Sl1∧Sl1.length=Sl3.length+1∧w2.pgs.length=w.pgs.length)∨(Sl1.length=0∧x=(w.pgs.length:Int)+1∧w2.pgs.length=w.pgs.length+1):=by
  rcases hcase with ⟨h1,h2,h3⟩ | ⟨h1,h2,h3⟩
  ·exact .inl ⟨hpl1.mem_iff.2 h1,by omega,by omega⟩
  ·exact .inr ⟨by rw [hlen1,h1];rfl,by omega,by omega⟩
 have hwl3:w2.now.length≤n+(i+1):=by rcases hcase with ⟨_,_,h3⟩ | ⟨_,_,h3⟩<;>omega
 clear hcase;refine .r<|.z .mvI<|.z .neq<|.z .mvB<|.z .mvI<|.z .neq<|.z .pkf<|.z .mvB<|.z .mvS<|.z (.fa T.fd23_0)<|.z (.ldx T.ag3 ok.m4)<|.a' 147 (.mks zl.length zl.length T.el44 T.sz5 T.by5 T.zr5 ok) ?_;rintro _ η23 ⟨pb3,rfl,ok,xe⟩;have ok:=ok.cx (ys:=(List.replicate zl.length (0:UInt8)).map bv) (zeros8 _);have ok:=ok.cx (ys:=zl.map bv) (by rw [hzl]);refine .k 148 .func (same_any (a:=xr1) (c:=cr1) (l:=(zer w.z)) (b:=some ⟨pb3,0,none⟩) (d:=zl.length) (l2:=zl) (RdL.ofCapB (v:=(xr1,(zer w.z).length,cr1)) (l:=(zer w.z)) ok.m3) (RdL.ofCapB (v:=(some ⟨pb3,0,none⟩,zl.length,zl.length)) (l:=zl) ok.m0))<|.z .notd<|.z .pkf<|.z .mvB<|.sd (fun G151=>?_) (fun G151=>?_)
 ·
  exact absurd hzz G151
 refine .z .mvS<|.z .mvI<|.k 154 .func (has16_any (v:=x) (a:=xl3) (c:=cl3) (l:=Sl3) (RdL.ofInts (x:=(xl3,Sl3.length,cl3)) (E:=none_) (ok.m1).sl))<|.z .pkf<|.nil ?_;refine .cd (fun C6=>?_) (fun C6=>?_)
 ·
  exact absurd C6 hx5
 refine .skip<|.seq<|.r<|.z .mvS<|.z (.len T.el24)<|.z .gtr<|.z .mvB<|.sd (fun G159=>?_) (fun G159=>?_)
 ·
  refine .z .mvS<|.z .mvI<|.k 162 .func (has16_any (v:=x) (a:=xl1) (c:=cl1) (l:=Sl1) (RdL.ofInts (x:=(xl1,Sl1.length,cl1)) (E:=none_) (ok.m4).sl))<|.z .notd<|.z .mvB<|.sd (fun G164=>?_) (fun G164=>?_)
  ·
   rcases hcs with h | h;exact absurd h.1 G164;omega
  refine .z .mvS<|.z (.len T.el24)<|.z .mvS<|.z (.len T.el24)<|.z .sub<|.z .neq<|.z .pkf<|.z .mvB<|.sd (fun G172=>?_) (fun G172=>?_)
  ·
   rcases hcs with ⟨h1,h2,h3⟩ | ⟨h1,h2,h3⟩<;>omega
  refine .z .mvP<|.c' 174 .func (sHead_any (G:=(nG ah)) (w:=w2) (ok.n2).loc0) ?_;rintro _ η24 ⟨Fh5,rfl,q⟩;have ok:=(ok.n2).lift1 q;rw [show w2.head.val=.agg #[.int .i64 w2.head.size,.int .i64 (w2.pgs.length:Int),.int .i64 w2.head.free,.int .i64 w2.head.many,.int .i64 w2.head.cookie,.int .i64 w2.head.version] from (by rw [←St.head_pages];rfl)];refine .z (.fd T.fd38_1 T.ag3)<|.z .mvI<|.z .neq<|.z .pkf<|.z .pkt<|.z .mvB<|.sd (fun G180=>?_) (fun G180=>?_)
  ·
   rcases hcs with ⟨h1,h2,h3⟩ | ⟨h1,h2,h3⟩<;>omega
  refine .z .mvS<|.z (.len T.el24)<|.z .eql<|.z .mvB<|.sd (fun G184=>?_) (fun G184=>?_)
  ·
   omega
  refine .y<|.y<|.y<|.y<|.y<|.y<|.y<|.y<|.y<|.y<|.y<|.y<|.z .pkf<|.z .pkf<|.nil ?_;refine .cf<|.skip<|.end<|hK1 _ _<|.r<|.z (.addI (b:=1))<|.z .mvI<|.nil ?_;refine .end<|hJ0 _ _ _ ⟨i+1,Fh5,w2,T2,⟨rfl,rfl,rfl,rfl,rfl,trivial⟩,(ok.n5.n1).k2,by omega,hf2,hwz2.trans hwz,by omega,rfl⟩ (by omega)
 refine .y<|.y<|.y<|.y<|.y<|.y<|.y<|.y<|.y<|.y<|.y<|.y<|.y<|.y<|.y<|.y<|.y<|.y<|.y<|.z .pkf<|.z .mvB<|.z .mvS<|.z (.len T.el24)<|.z .eql<|.z .mvB<|.sd (fun G184=>?_) (fun G184=>?_)
 ·
  refine .z .mvI<|.z .mvI<|.z .add<|.z .neq<|.z .mvB<|.sd (fun G189=>?_) (fun G189=>?_)
  ·
   rcases hcs with ⟨h1,h2,h3⟩ | ⟨h1,h2,h3⟩<;>omega
  refine .z .mvP<|.c' 191 .func (sHead_any (G:=(nG ah)) (w:=w2) (ok.n2).loc0) ?_;rintro _ η25 ⟨Fh6,rfl,q⟩;have ok:=(ok.n2).lift1 q;rw [show w2.head.val=.agg #[.int .i64 w2.head.size,.int .i64 (w2.pgs.length:Int),.int .i64 w2.head.free,.int .i64 w2.head.many,.int .i64 w2.head.cookie,.int .i64 w2.head.version] from (by rw [←St.head_pages];rfl)];refine .z (.fd T.fd38_1 T.ag3)<|.z .mvI<|.z .add<|.z .neq<|.z .pkf<|.z .pkt<|.z .pkf<|.nil ?_;refine .cd (fun C7=>?_) (fun C7=>?_)
  ·
   rcases hcs with ⟨h1,h2,h3⟩ | ⟨h1,h2,h3⟩<;>omega
  refine .skip<|.end<|hK1 _ _<|.r<|.z (.addI (b:=1))<|.z .mvI<|.nil ?_;refine .end<|hJ0 _ _ _ ⟨i+1,Fh6,w2,T2,⟨rfl,rfl,rfl,rfl,rfl,trivial⟩,(ok.n5.n1).k2,by omega,hf2,hwz2.trans hwz,by omega,rfl⟩ (by omega)
 omega
theorem len3M {l:List Value} (h:l.length=3):∃a b c,l=[a,b,c]:=by
 match l,h with
 | [a,b,c],_=>exact ⟨a,b,c,rfl⟩
theorem opn_mode:Opn Tryz.prog 23 (fun _ cs (m:Int × Bool × Int)=>cs=[.int .i64 m.1,.bool m.2.1,.int .i64 m.2.2]∧i64N m.1∧i64N m.2.2):=⟨fun hx=>by
 have hl:=(opn_struct Tryz.underlying23 hx).1;have f0:=opn_field T.fd23_0 hx (Opn.i64 Tryz.underlying3);have f1:=opn_field T.fd23_1 hx (Opn.bool Tryz.underlying4);have f2:=opn_field T.fd23_2 hx (Opn.i64 Tryz.underlying3);obtain ⟨c0,c1,c2,rfl⟩:=len3M (hl.trans (by kernel_rfl:_=3));obtain ⟨p,h0,hp⟩:=f0;obtain ⟨q,h1⟩:=f1;obtain ⟨b,h2,hb⟩:=f2;simp at h0 h1 h2;subst h0 h1 h2;exact ⟨(p,q,b),rfl,hp,hb⟩⟩
theorem opn_ints16:Opn Tryz.prog 24 (fun h cs (l:List Int)=>∃x:SV,cs=[sv x]∧Ints h (sv x) l∧∀z∈l,-9223372036854775808≤z∧z≤9223372036854775807):=Opn.ints Tryz.underlying24 Tryz.underlying3 (by kernel_rfl)
theorem freeOwn_row {h:Heap} {m:Int × Bool × Int} {p:Int} {a:Option Addr} {n c:Nat} {l:List Int} (hm:i64N m.1∧i64N m.2.2) (hl:Ints h (.slice a n c) l∧∀z∈l,-9223372036854775808≤z∧z≤9223372036854775807) :
  HC Tryz.prog 3 #[.agg #[.int .i64 m.1,.bool m.2.1,.int .i64 m.2.2],.int .i64 p,.slice a n c] h (fun v h'=>v=.bool true∧Ext h h'):=by
 have r:=RdL.ofInts (x:=(a,n,c)) (E:=none_) hl.1;obtain rfl:n=l.length:=r.n;exact freeOwn_walk r hl.2 hm.1
open Go.ChangeShapes Go.WideShapes Go.ChangeAt Go.RowKit
theorem freeOwn_lifted (os:Os) (started:os.Started) (H:Type) (enc:TypeId × Value→H) :
  ReturnsInHanded {} Tryz.checked os 3 .any (Rows.freeOwnSpec.pre6 enc Tryz.prog Tryz.f3 Rows.freeOwnRow.domain false) (Rows.freeOwnSpec.post enc Tryz.prog Tryz.f3 false true false false):=by
 refine returnsInHanded_of_change (C:=Tryz.checked) own_knob started (by kernel_rfl) Tryz.func3
  (ChangeSpec.witness6 (enc:=enc) (C:=Tryz.checked) false ⟨#[],#[.agg #[.int .i64 0,.bool false,.int .i64 0],.int .i64 0,.slice none 0 0],[]⟩ 8 (by kernel_rfl) (by kernel_rfl) (by kernel_rfl) (by kernel_rfl)) ?_
 intro W base args ds gs before hval0 hW hcnd _;have hval:∀(j:Nat) t v,Tryz.f3.params[j]? = some t→args[j]? = some v→Value.okWide Tryz.prog W .any base t v:=hval0;have hW':=hW;obtain ⟨p,q,hA0,hV,rfl,hfz,hnd⟩:=hW;have hA:DataW.TrodAll enc Tryz.prog W 0 (fun _=>true) true Tryz.f3.params.toList args.toList ds p:=hA0;rw [Tryz.params3] at hA hval;obtain ⟨v0,vs0,d0,ds0,p0,q0,hargs,rfl,rfl,h0,r0⟩:=trodAll_cons hA;obtain ⟨v1,vs1,d1,ds1,p1,q1,rfl,rfl,rfl,h1,r1⟩:=trodAll_cons r0;obtain ⟨v2,vs2,d2,ds2,p2,q2,rfl,rfl,rfl,h2,r2⟩:=trodAll_cons r1;obtain ⟨rfl,rfl,rfl⟩:=trodAll_nil r2;obtain rfl:args = #[v0,v1,v2]:=by cases args;simp_all
 obtain ⟨cs0,rfl,_⟩:=okWide_struct Tryz.underlying23 (hval 0 23 v0 rfl rfl);obtain ⟨l0,hy0,hl0⟩:=opn_mode.arg h0;obtain ⟨ys0⟩:=cs0;obtain rfl:ys0=_:=hy0;obtain ⟨z1,rfl,_,_,w1⟩:=open_int Tryz.underlying3 (hval 1 3 v1 rfl rfl) h1;have b1 : -9223372036854775808≤z1∧z1≤9223372036854775807:=by simpa [Lit.wf,IntKind.min,IntKind.max,IntKind.signed,IntKind.bits] using w1
 obtain ⟨a2,n2,c2,rfl⟩:=okWide_slice Tryz.underlying24 (hval 2 24 v2 rfl rfl);obtain ⟨l2,y2,hy2,hl2⟩:=opn_ints16.arg h2;obtain rfl:=sv_cells hy2;refine (((freeOwn_row hl0 hl2)).2 _ W (At.self W)).mono fun e W' ⟨v,h',he,at',hv,hx⟩=>?_;subst he;subst hv;exact ⟨_,rfl,law_post laid_out hW' rfl (by kernel_rfl) rfl Tryz.underlying4 rfl at' hx⟩
theorem freeOwn_holds:Rows.FreeOwnSaid:=
 OpenClaim.holds_of_wide 3 Tryz.f3 rfl rfl rfl rfl rfl rfl rfl ⟨rfl,rfl,rfl,rfl,rfl⟩ rfl rfl rfl rfl rfl (by kernel_rfl) Tryz.func3 (by kernel_rfl)
  (of_decide_eq_true (by kernel_rfl)) (by unfold Func.isWrapper;first | (rw [if_pos (by decide +kernel)];kernel_rfl) | (rw [if_neg (by decide +kernel)];exact ⟨rfl,rfl⟩))
  (fun os started H enc _=>freeOwn_lifted os started H enc)
end Go.Proofs.YtndlpekckpdncaaGreat
