/- How arguments that come in read: types opened one by one. Conditions: those that each fact names. The law BackOpens at arguments as they come in. Conditions: they are readable. The law BackOpens returns true at every input and leaves its arguments as they were. Conditions: none. -/
import Derived.Test.YtpeaicddbnghfaaGreatPkC9
import Derived.ChangeArms
import Derived.ChangeMaps5
import Derived.Test.YtpeaicddbnghfaaGreatRows
set_option maxRecDepth 100000
set_option maxHeartbeats 2000000
set_option linter.all false
namespace Go.HL
open Go Go.RowKit Go.ChangeShapes Go.WideShapes Go.ChangeAt
structure Opn (P:Program) (t:TypeId) {α:Type} (R:Heap→List Value→α→Prop):Prop where
 run:∀ {H:Type} {enc:TypeId × Value→H} {w:World} {sp:Nat→Bool} {held:Bool} {fuel:Nat} {cs:List Value} {x:DataW H × List MemPlace},DataW.trod enc P w 0 sp held fuel t cs=some x→∃a,R w.heap cs a
section
variable {P:Program} {t e:TypeId}
theorem Opn.mono {α β:Type} {R:Heap→List Value→α→Prop} {R':Heap→List Value→β→Prop} (o:Opn P t R) (h:∀hp cs a,R hp cs a→∃b,R' hp cs b):Opn P t R':=⟨fun hx=>let ⟨a,ha⟩:=o.run hx;h _ _ a ha⟩
theorem Opn.u8 (ht:P.underlying t=some (.int .u8)):Opn P t (fun _ cs (x:UInt8)=>cs=[bv x]):=⟨fun hx=>by
 obtain ⟨n,rfl,_,hw⟩:=DataW.trod_int ht hx;obtain ⟨x,rfl⟩:=byte_val hw;exact ⟨x,rfl⟩⟩
theorem cells_spot {w:World} {base k:Nat} {b o:Nat} {spot:_} {cs:List Value} (h:w.cells? base ((⟨b,o,spot⟩:Addr).add (0*k)) k=some cs) (hk:0<k):spot=none:=by
 obtain ⟨_,h1,h2⟩:=World.cells?_some h;obtain ⟨c,hc⟩:∃c,cs[0]? = some c:=⟨cs[0],by simp [h1,hk]⟩;have h3:=h2 0 hk;rw [hc] at h3;have h4:=World.cell?_spot h3;simpa [Addr.add] using h4
theorem cells_at {w:World} {base k:Nat} {b o i:Nat} {cs:List Value} (h:w.cells? base ((⟨b,o,none⟩:Addr).add (i*k)) k=some cs):cs.length=k∧∀j v,cs[j]? = some v→cell w.heap b (o+i*k+j)=some v:=by
 obtain ⟨_,h1,h2⟩:=World.cells?_some h;refine ⟨h1,fun j v hv=>?_⟩;have hj:j<k:=by have:=(List.getElem?_eq_some_iff.1 hv).1;omega
 have h3:=h2 j hj;rw [hv,addr_add,addr_add,cell?_eq] at h3;exact h3
theorem choose_lists {α β:Type} {R:Nat→β→α→Prop} : ∀(n:Nat),(∀i,i<n→∃y z,R i y z)→∃(os:List β) (l:List α),os.length=n∧l.length=n∧∀i (h1:i<os.length) (h2:i<l.length),R i os[i] l[i]
 | 0,_=>⟨[],[],rfl,rfl,fun i h=>absurd h (by simp)⟩
 | n+1,each=>by
  obtain ⟨os,l,g1,g2,g3⟩:=choose_lists n (fun i hi=>each i (by omega));obtain ⟨y,z,g4⟩:=each n (by omega);refine ⟨os++[y],l++[z],by simp [g1],by simp [g2],fun i h1 h2=>?_⟩;by_cases hi:i<n
  ·have e1:(os++[y])[i]=os[i]'(by omega):=List.getElem_append_left (by omega);have e2:(l++[z])[i]=l[i]'(by omega):=List.getElem_append_left (by omega);rw [e1,e2];exact g3 i _ _
  ·have hi':i=n:=by simp [g1] at h1;omega
   subst hi';have e1:(os++[y])[i]=y:=by simp [g1]
   have e2:(l++[z])[i]=z:=by simp [g2]
   rw [e1,e2];exact g4
theorem map_one {α β:Type} (f:α→β):∀l:List α,l.map f=l.flatMap fun x=>[f x]
 | []=>rfl
 | x::l=>by simp only [List.map_cons,List.flatMap_cons,←map_one f l];rfl
theorem Opn.slice {α β:Type} {f:β→List Value} {Q:Heap→β→α→Prop} {k:Nat} (ht:P.underlying t=some (.slice e)) (hk:P.cellsOf e=k) (hk0:0<k) (hf:∀o,(f o).length=k) (he:Opn P e (fun h cs a=>∃o,cs=f o∧Q h o a)) :
  Opn P t (fun h cs (l:List α)=>∃(x:SV) (os:List β),cs=[sv x]∧Sl h k (sv x) (os.flatMap f)∧All2 (Q h) os l):=by
 refine ⟨?_⟩;intro H enc w sp held fuel cs x hx;rcases DataW.trod_slice ht hx with ⟨rfl,_⟩ | ⟨a,len,cap,elems,rest,n,_,rfl,_,_,hl,hm,hlen,hel,_,_⟩
 ·exact ⟨[],(none,0,0),[],rfl,Sl.nil _ _,All2.nil⟩
 obtain ⟨b,o,spot⟩:=a;have get:∀i,i<len→∃cs,w.cells? 0 ((⟨b,o,spot⟩:Addr).add (i*k)) k=some cs∧∃z y,cs=f y∧Q w.heap y z:=fun i hi=>by
  have h1:=hel i hi;have h2:elems[i]? = some (elems[i]'(by omega)):=by simp
  rw [h2,hk,Option.bind_eq_some_iff] at h1;obtain ⟨cs,h3,h4⟩:=h1;obtain ⟨z,y,hq⟩:=he.run h4;exact ⟨cs,h3,z,y,hq⟩
 have hspot:0<len→spot=none:=fun hp=>let ⟨_,h,_⟩:=get 0 hp;cells_spot h hk0;obtain ⟨os,l,ho1,hl1,hall⟩:=choose_lists (R:=fun i y z=>Q w.heap y z∧∀j v,(f y)[j]? = some v→cell w.heap b (o+i*k+j)=some v) len (fun i hi=>by
  obtain ⟨cs,h3,z,y,rfl,hq⟩:=get i hi;have:=hspot (by omega);subst this;exact ⟨y,z,hq,(cells_at h3).2⟩)
 unfold maxLen at hm;refine ⟨l,(some ⟨b,o,spot⟩,len,cap),os,rfl,⟨_,_,_,rfl,hl,by omega,?_,fun hp=>?_⟩,by omega,fun i h1 h2=>(hall i h1 h2).1⟩
 ·rw [flat_len hf,ho1]
 ·have hs:=hspot hp;subst hs;refine ⟨b,o,rfl,fun i x hi=>?_⟩;have hlt:=(List.getElem?_eq_some_iff.1 hi).1;rw [flat_len hf,ho1] at hlt;have hdm:i=i / k*k+i%k:=by rw [Nat.mul_comm];exact (Nat.div_add_mod i k).symm
  have h1:i / k<len:=Nat.div_lt_of_lt_mul (by rw [Nat.mul_comm];exact hlt);have h2:i%k<k:=Nat.mod_lt _ hk0;rw [hdm,flat_at hf os (i / k) (i%k) (by omega) h2] at hi;rw [hdm,←Nat.add_assoc];exact (hall (i / k) (by omega) (by omega)).2 _ _ hi
theorem Opn.bytes (ht:P.underlying t=some (.slice e)) (he:P.underlying e=some (.int .u8)) (hc:P.cellsOf e=1):Opn P t (fun h cs (l:List UInt8)=>∃x:SV,cs=[sv x]∧Bytes h (sv x) l):=
 (Opn.slice (f:=fun x:UInt8=>[bv x]) (Q:=fun _ o a=>o=a) ht hc (by omega) (fun _=>rfl) ((Opn.u8 he).mono fun _ _ a h=>⟨a,a,h,rfl⟩)).mono fun h cs l ⟨x,os,h1,h2,h3⟩=>by
  have:os=l:=List.ext_getElem h3.1 fun i h4 h5=>h3.2 i h4 h5;subst this;refine ⟨os,x,h1,?_⟩;have e:=map_one bv os;unfold Bytes;rw [e];exact h2
theorem opn_struct {fs:Array Field} (ht:P.underlying t=some (.struct fs)) {H:Type} {enc:TypeId × Value→H} {w:World} {sp:Nat→Bool} {held:Bool} {fuel:Nat} {cs:List Value} {x:DataW H × List MemPlace} (hx:DataW.trod enc P w 0 sp held fuel t cs=some x) :
  cs.length=P.cellsOf t∧∀(i:Nat) (f:Field),fs[i]? = some f→∃n y,DataW.trod enc P w 0 sp held n f.type ((cs.drop f.offset).take (P.cellsOf f.type))=some y:=by
 obtain ⟨xs,n,_,_,h1,h2,h3⟩:=DataW.trod_struct ht hx;refine ⟨h1,fun i f hf=>?_⟩;have hi:i<xs.length:=by have:=(Array.getElem?_eq_some_iff.1 hf).1;omega
 exact ⟨n,xs[i],by rw [h3 i f hf];simp⟩
theorem opn_field {i off ft k:Nat} (hf:fdB P t i=some (off,ft,k)) {H:Type} {enc:TypeId × Value→H} {w:World} {sp:Nat→Bool} {held:Bool} {fuel:Nat} {cs:List Value} {x:DataW H × List MemPlace} (hx:DataW.trod enc P w 0 sp held fuel t cs=some x)
  {α:Type} {R:Heap→List Value→α→Prop} (o:Opn P ft R):∃a,R w.heap ((cs.drop off).take k) a:=by
 obtain ⟨fs,fd,inf,ht,hfi,rfl,rfl,h3,h4⟩:=fdB_iff hf;obtain ⟨n,y,h2⟩:=(opn_struct ht hx).2 i fd hfi;have:P.cellsOf fd.type=k:=by simp [Program.cellsOf,h3,h4]
 rw [this] at h2;exact o.run h2
theorem Opn.arg {α:Type} {R:Heap→List Value→α→Prop} (o:Opn P t R) {H:Type} {enc:TypeId × Value→H} {w:World} {sp:Nat→Bool} {held:Bool} {v:Value} {d:DataW H} {ps:List MemPlace} (h:DataW.Trod enc P w 0 sp held t v d ps):∃a,R w.heap v.cells.toList a:=
 let ⟨_,hf⟩:=h;o.run hf
end
theorem len3 {cs:List Value} (h:cs.length=3):∃a b c,cs=[a,b,c]:=by
 match cs,h with
 | [a,b,c],_=>exact ⟨a,b,c,rfl⟩
end Go.HL
namespace Go.Proofs.YtpeaicddbnghfaaGreat
open Go Go.HL
structure RFs where
 fa:Option Addr
 fc:Nat
 f:List UInt8
 ga:Option Addr
 gc:Nat
 g:List UInt8
 mb:UInt8
def RFs.cells (x:RFs):List Value:=[.slice x.fa x.f.length x.fc,.slice x.ga x.g.length x.gc,bv x.mb]
theorem opn_files13:Opn Tryz.prog 67 (fun h cs (x:RFs)=>cs=x.cells∧RdL h any_ any_ (x.fa,x.f.length,x.fc) x.f∧RdL h any_ any_ (x.ga,x.g.length,x.gc) x.g):=⟨fun hx=>by
 have hl:=(opn_struct Tryz.underlying67 hx).1;have f0:=opn_field T.fd67_0 hx (Opn.bytes Tryz.underlying22 Tryz.underlying5 (by kernel_rfl));have f1:=opn_field T.fd67_1 hx (Opn.bytes Tryz.underlying22 Tryz.underlying5 (by kernel_rfl));have f2:=opn_field T.fd67_2 hx (Opn.u8 Tryz.underlying5);obtain ⟨c0,c1,c2,rfl⟩:=len3 (hl.trans (by kernel_rfl:_=3));obtain ⟨b,⟨a,n,c⟩,h0,hb⟩:=f0;obtain ⟨b',⟨a',n',c'⟩,h1,hb'⟩:=f1;obtain ⟨k,h2⟩:=f2;simp at h0 h1 h2;subst h0 h1 h2;have r:=RdL.ofBytes (E:=any_) hb;have r':=RdL.ofBytes (E:=any_) hb';obtain rfl:n=b.length:=r.n;obtain rfl:n'=b'.length:=r'.n;exact ⟨⟨a,c,b,a',c',b',k⟩,rfl,r.mono (fun _ _=>trivial) (fun _ _=>trivial),r'.mono (fun _ _=>trivial) (fun _ _=>trivial)⟩⟩
theorem bopens_row {h:Heap} {x:UInt8} {o:RFs} (ho:RdL h any_ any_ (o.fa,o.f.length,o.fc) o.f∧RdL h any_ any_ (o.ga,o.g.length,o.gc) o.g):HC Tryz.prog 7 #[.int .u8 (x.toNat:Int),.agg o.cells.toArray] h (fun v h'=>v=.bool true∧Ext h h'):=bopens_walk ho.1 ho.2 x.toNat_lt o.mb.toNat_lt
open Go.ChangeShapes Go.WideShapes Go.ChangeAt Go.RowKit
theorem own_knob:ownKnob Tryz.prog.godebug=none:=by kernel_rfl
theorem laid_out:laidOutB Tryz.prog=true:=by kernel_rfl
theorem backOpens_lifted (os:Os) (started:os.Started) (H:Type) (enc:TypeId × Value→H) :
  ReturnsInHanded {} Tryz.checked os 7 .any (Rows.backOpensSpec.pre6 enc Tryz.prog Tryz.f7 Rows.backOpensRow.domain false) (Rows.backOpensSpec.post enc Tryz.prog Tryz.f7 false true false false):=by
 refine returnsInHanded_of_change (C:=Tryz.checked) own_knob started (by kernel_rfl) Tryz.func7
  (ChangeSpec.witness6 (enc:=enc) (C:=Tryz.checked) false ⟨#[],#[.int .u8 0,.agg #[.slice none 0 0,.slice none 0 0,.int .u8 0]],[]⟩ 8 (by kernel_rfl) (by kernel_rfl) (by kernel_rfl) (by kernel_rfl)) ?_
 intro W base args ds gs before hval0 hW hcnd _;have hval:∀(j:Nat) t v,Tryz.f7.params[j]? = some t→args[j]? = some v→Value.okWide Tryz.prog W .any base t v:=hval0;have hW':=hW;obtain ⟨p,q,hA0,hV,rfl,hfz,hnd⟩:=hW;have hA:DataW.TrodAll enc Tryz.prog W 0 (fun _=>true) true Tryz.f7.params.toList args.toList ds p:=hA0;rw [Tryz.params7] at hA hval;obtain ⟨v0,vs0,d0,ds0,p0,q0,hargs,rfl,rfl,h0,r0⟩:=trodAll_cons hA;obtain ⟨v1,vs1,d1,ds1,p1,q1,rfl,rfl,rfl,h1,r1⟩:=trodAll_cons r0;obtain ⟨rfl,rfl,rfl⟩:=trodAll_nil r1;obtain rfl:args = #[v0,v1]:=by cases args;simp_all
 obtain ⟨z0,rfl,_,_,w0⟩:=open_int Tryz.underlying5 (hval 0 5 v0 rfl rfl) h0;obtain ⟨x0,rfl⟩:=byte_val w0;obtain ⟨cs1,rfl,_⟩:=okWide_struct Tryz.underlying67 (hval 1 67 v1 rfl rfl);obtain ⟨l1,hy1,hl1⟩:=opn_files13.arg h1;obtain ⟨ys1⟩:=cs1;obtain rfl:ys1=_:=hy1;refine ((bopens_row (x:=x0) (o:=l1) hl1).2 _ W (At.self W)).mono fun e W' ⟨v,h',he,at',hv,hx⟩=>?_;subst he;subst hv;exact ⟨_,rfl,law_post laid_out hW' rfl (by kernel_rfl) rfl Tryz.underlying4 rfl at' hx⟩
theorem backOpens_holds:Rows.BackOpensSaid:=
 OpenClaim.holds_of_wide 7 Tryz.f7 rfl rfl rfl rfl rfl rfl rfl ⟨rfl,rfl,rfl,rfl,rfl⟩ rfl rfl rfl rfl rfl (by kernel_rfl) Tryz.func7 (by kernel_rfl)
  (of_decide_eq_true (by kernel_rfl)) (by unfold Func.isWrapper;first | (rw [if_pos (by decide +kernel)];kernel_rfl) | (rw [if_neg (by decide +kernel)];exact ⟨rfl,rfl⟩))
  (fun os started H enc _=>backOpens_lifted os started H enc)
end Go.Proofs.YtpeaicddbnghfaaGreat
