/- What a cursor's entry has. Conditions: the tree stands. The document's entries: Put, Drop. Conditions: none. A store with a tree; payloads. Conditions: few. Payloads; a tree is filled. Conditions: the acts are readable, few. The chapter's example. Conditions: none. What any pages say of a chain. Conditions: the arguments are readable. A walk of a tree whose root does not read. Conditions: the root's page is there. The document's cursor; Drop. Conditions: none. A spoilt tree: a cursor stays, nothing is yielded. Conditions: the acts are readable. How a law whose call returns true and turns nothing old closes its row. Conditions: those that each fact names. How arguments that come in read: types opened one by one. Conditions: those that each fact names. Arguments of the laws on cursors, opened: acts. Conditions: none. The law WalkSpoilt at its opened arguments. Conditions: none. -/
import Derived.Test.YtfegfklipbnhjaaGreatPkZ10
import Derived.ProofKit
import Derived.OpenShut
import Derived.Below
import Derived.Carry
import Derived.Deep.Slices
import Derived.ChangeArms
import Derived.ChangeMaps5
set_option maxRecDepth 100000
set_option maxHeartbeats 2000000
set_option linter.all false
namespace Go.Proofs.YtfegfklipbnhjaaGreat
open Go Go.HL
theorem geL_get {key:Int} : ∀ {l:List En},(l.map Prod.fst).Pairwise (· < ·)->getE l key=(geL key l).bind fun e=>if e.1=key then some e.2 else none
 | [],_=>rfl
 | e::l,hs=>by
  rw [kE,kK] at hs;have ih:=geL_get (key:=key) hs.2;unfold getE geL at *;by_cases h1:e.1=key
  ·rw [List.find?_cons_of_pos (by simpa using h1),List.find?_cons_of_pos (by simp;omega)];simp [h1]
  ·rw [List.find?_cons_of_neg (by simpa using h1)];by_cases h2:key<=e.1
   ·rw [List.find?_cons_of_pos (by simpa using h2),List.find?_eq_none.2 fun x hx=>by have:=hs.1 x.1 (List.mem_map_of_mem hx);simp;omega];simp [h1]
   ·rw [List.find?_cons_of_neg (by simpa using h2)];exact ih
def valO (on:Bool) (key:Int) (l:List En):List UInt8 × Nat:=if on=true then (match getE l key with | some b=>(b,0) | none=>([],4)) else ([],10)
theorem TW.val {w:St} {Q:Trk} {X Y tp cp:List Int} {root key:Int} {D:Nat} {es:List Cel} {l:List En} (t:TW w Q X Y root D es l tp cp) :
  (¬((geE key es).isSome=true/\((geE key es).getD cel0).key=key)->getE l key=.none)/\((geE key es).isSome=true/\((geE key es).getD cel0).key=key->∃b pl,getE l key=some b/\chF w (((geE key es).getD cel0).spill:Int) ((((geE key es).getD cel0).total:Int)-(((geE key es).getD cel0).loc.length:Int))=(pl,b.drop (nbE w.z b),0)/\((geE key es).getD cel0).loc++b.drop (nbE w.z b)=b/\((geE key es).getD cel0).loc.length<=16384/\b.length<=16384/\((geE key es).getD cel0).total<=16384/\((geE key es).getD cel0).spill<=1048576):=by
 have hs:=t.t.srt;rw [t.e.keys] at hs;have hg:=geL_get (key:=key) hs;have hcn:cp.Nodup:=by
  have:=t.px.nodup_iff.1 t.o.nx;exact (kT.1 (kT.1 this).2.1).1
 rcases geE_ent (key:=key) t.e with ⟨h1,h2⟩ | ⟨c,e,pl,h1,h2,h3,h4,h5⟩
 ·rw [h1,hg,h2];exact ⟨fun _=>rfl,fun h=>by cases h.1⟩
 ·have hc:(geE key es).getD cel0=c:=by rw [h1];rfl
  rw [hc,hg,h2,h1];have hx:∀k∈pl,k∈X:=fun k hk=>t.px.mem_iff.2 (by simp [h4 k hk]);refine ⟨fun h=>?_,fun ⟨_,hk⟩=>?_⟩
  ·have:e.1≠key:=fun he=>h ⟨rfl,by rw [h3.ky];exact he⟩;show (if e.1=key then some e.2 else .none)=.none;rw [if_neg this]
  ·have he:e=(key,e.2):=Prod.ext (by rw [<-h3.ky];exact hk) rfl;rw [he] at h3;obtain ⟨g1,g2⟩:=t.chain h3 hx (h5 hcn);have hm:=h3.m;have hl:=h3.lc;have ht:=h3.t;have ho:=okCl1_b (h3.ok fun k hk=>by have:=t.o.rg (hx k hk);have:=t.o.fr.few;omega);refine ⟨e.2,pl,?_,g1,g2,by omega,hm,by omega,ho.2.2⟩;show (if e.1=key then some e.2 else .none)=_;rw [if_pos (congrArg Prod.fst he)]
theorem wload_any {G:Pgr} {h:Heap} {D F:Nat->Prop} {so:Nat} {ch tt sp lcc:Nat} {ky:Int} {la:Option Addr} {lc:List UInt8} {w:St} (hsp:i64N (sp:Int)) (hn:i64N ((tt:Int)-(lc.length:Int))) {pl:List Int} {ol:List UInt8} {Fl El:Nat->Prop} (ok:Hp h D [dsI G so F w] [rdI Fl El (la,lc.length,lcc) lc] h) (e:chF w (sp:Int) ((tt:Int)-(lc.length:Int))=(pl,ol,0)) (hL:lc.length<=100000/\ol.length<=100000) :
  Hc 70 #[.P so,.agg #[.J ky,.J (ch:Int),.J (tt:Int),.slice la lc.length lcc,.J (sp:Int)]] h (fun v h'=>∃F' x c',v=.tuple #[.slice x (lc++ol).length c',.J 0]/\Hp h D [capI 1 5 (x,(lc++ol).length,c') ((lc++ol).map bv),dsI G so F' w] [] h'):=by
 have hn1 : -9223372036854775808<=(tt:Int)-(lc.length:Int):=hn.1;have hn2:(tt:Int)-(lc.length:Int)<=9223372036854775807:=hn.2;refine HC.go Tryz.func70 30 ?_;refine .s<|.a' 3 (.bxA (cs:=[.J ky,.J (ch:Int),.J (tt:Int),.slice la lc.length lcc,.J (sp:Int)]) ok) ?_;rintro _ U1 ⟨pb1,rfl,ok,xe⟩;refine .z .asS<|.z .asI<|.nil<|.s<|.z .mvP<|.z (.fa T.fd113_4)<|.z (.ldx T.ag3 ok.m0)<|.z (.fa T.fd113_2)<|.z (.ldx T.ag3 ok.m0)<|.z (.fa T.fd113_3)<|.z (.ldx T.ag35 ok.m0)<|.z (.len T.el35)<|.z .sub<|.c' 18 .func (spGetE (G:=G) (w:=w) (ok.n1).loc0 hsp hn e) ?_;rintro _ U2 ⟨Fg1,xg1,cg1,rfl,q⟩;have ok:=(ok.n1).lift2 q;refine .z .mvU<|.z .ex<|.z .ex<|.z .asS<|.z .asI<|.nil<|.seq<|.s<|.z .mvI<|.z .neq<|.nil<|.cf<|.skip<|.s<|.a' 24 (.lit [] (cs:=[]) T.el35 T.sz5 T.zr5 ok trivial) ?_;rintro _ U3 ⟨pb2,rfl,ok,xe⟩;have ok:=ok.cx (ys:=([]:List UInt8).map bv) rfl;refine .z (.fa T.fd113_3)<|.z (.ldx T.ag35 ok.m3)<|.a' 27 (.app (news:=lc.map bv) T.el35 T.sz5 T.by5 T.zr5 ok (ok.r0).by bv_all (by simp only [qM,qA,qJ,qV,qB,kW,List.length_range,fixedN_len,sealN_len];omega)) ?_;rintro _ U4 ⟨ya1,yn1,yc1,rfl,ok,ap⟩;have ok:=ok.cx (ys:=(lc).map bv) (by simp [bv]);obtain rfl:yn1=(lc).length:=ok.lenB;refine .z .mvS<|.a' 29 (.app (news:=ol.map bv) T.el35 T.sz5 T.by5 T.zr5 ok (ok.m1).sl bv_all (by simp only [qM,qA,qJ,qV,qB,kW,List.length_range,fixedN_len,sealN_len];omega)) ?_;rintro _ U5 ⟨ya2,yn2,yc2,rfl,ok,ap⟩;have ok:=ok.cx (ys:=(lc++ol).map bv) (by simp [bv]);obtain rfl:yn2=(lc++ol).length:=ok.lenB;refine .z .asS<|.z .asI<|.nil<|.ret ⟨.tuple #[.slice ya2 ((lc++ol).length) yc2,.J 0],Res.two rfl rfl rfl,⟨Fg1,ya2,yc2,rfl,(ok.n2.n1).k2.e0⟩⟩
theorem wvalue_any {G:Pgr} {h:Heap} {D F:Nat->Prop} {so cb Dp:Nat} {w:St} {Q:Trk} {X Y tp cp:List Int} {root key0:Int} {on:Bool} {es:List Cel} {l:List En} (ok:Hp h D [boxI cb 124 [.P so,.J root,.bool on,.J key0],dsI G so F w] [] h) (tw:TW w Q X Y root Dp es l tp cp) (hD:Dp<=14) :
  Hc 29 #[.P cb] h (fun v h'=>∃F' x c,v=.tuple #[.slice x (valO on key0 l).1.length c,.J ((valO on key0 l).2:Int)]/\Hp h D [capI 1 5 (x,(valO on key0 l).1.length,c) ((valO on key0 l).1.map bv),boxI cb 124 [.P so,.J root,.bool on,.J key0],dsI G so F' w] [] h'):=by
 refine HC.go Tryz.func29 53 ?_;refine .s<|.z .asS<|.z .asI<|.nil<|.seq<|.s<|.z .mvP<|.z (.pEqS T.pt44)<|.nil<|.cf<|.skip<|.seq<|.s<|.z .mvP<|.z .nil<|.z (.fa T.fd124_2)<|.z (.ldx T.ag4 ok.m0)<|.z .not<|.nil<|.cond (fun C1=>?_) (fun C1=>?_)
 ·
  refine .s<|.z .asS<|.z .asI<|.nil<|.ret ⟨.tuple #[.N,.J 10],Res.two rfl rfl rfl,(by
   have hvl:valO on key0 l=([],10):=by unfold valO;rw [if_neg (by simpa using C1)]
   rw [hvl];exact ⟨F,none,0,rfl,Hp.nilC ((ok).k2)⟩)⟩
 have hon:on=true:=by simpa using C1
 refine .skip<|.seq<|.join (fun s hh=>∃(b4:Nat) (F8:Nat->Prop) (xf:Option Addr) (nf:Nat) (Ef:Nat->Prop),Has s [(0,.P cb),(4,.P b4),(5,.bool ((geE key0 es).isSome)),(6,.J 0)]/\Hp h D [boxI b4 113 [.J (((geE key0 es).getD cel0).key),.J (((geE key0 es).getD cel0).child:Int),.J (((geE key0 es).getD cel0).total:Int),.slice xf (((geE key0 es).getD cel0).loc.length) nf,.J (((geE key0 es).getD cel0).spill:Int)],rdI Ef Ef (xf,((geE key0 es).getD cel0).loc.length,nf) ((geE key0 es).getD cel0).loc,dsI G so F8 w,boxI cb 124 [.P so,.J root,.bool on,.J key0]] [] hh) ?_ ?_
 ·
  refine .a 12 (fun fl hh=>cond fl True (Hp h D [boxI cb 124 [.P so,.J root,.bool on,.J key0],dsI G so F w] [] hh)) mixed ?_;have hS:=ok;refine .g 0 false rfl 15 hS (fun _=>.mvP)<|.g 1 false rfl 16 hS (fun _=>.nil)<|.g 2 false rfl 17 hS (fun _=>.fa T.fd124_0)<|.l 3 false rfl 18 hS (fun _ hS=>.ldx T.ag24 hS.m0)<|.g 4 false rfl 19 hS (fun _=>.mvP)<|.g 5 false rfl 20 hS (fun _=>.nil)<|.g 6 false rfl 21 hS (fun _=>.fa T.fd124_1)<|.l 7 false rfl 22 hS (fun _ hS=>.ldx T.ag3 hS.m0)<|.g 8 false rfl 23 hS (fun _=>.mvP)<|.g 9 false rfl 24 hS (fun _=>.nil)<|.g 10 false rfl 25 hS (fun _=>.fa T.fd124_3)<|.l 11 false rfl 26 hS (fun _ hS=>.ldx T.ag2 hS.m0)<|.o2 12 17 ?_ ?_
  ·
   refine .c' true rfl 27 .func (wlowT_any (key:=key0) ((Hp.lc1 (ok.n1))) tw hD) ?_;rintro _ U1 ⟨F8,xf,nf,Ef,rfl,q⟩;have ok:=Hp.lf1 (ok.n1) q;refine ⟨trivial,?_⟩;refine .g 13 true rfl 14 trivial (fun _=>.mvU)<|.g 14 true rfl 28 trivial (fun _=>.ex)<|.g 15 true rfl 29 trivial (fun _=>.ex)<|.g 16 true rfl 30 trivial (fun _=>.ex)<|.o1 17<|.a' true rfl 4 (.alA T.zr113 ok) ?_;rintro _ U2 ⟨pb1,rfl,ok,xe⟩;refine ⟨trivial,?_⟩;refine .o1 18<|.ur' true rfl (.stW (vs:=[.J (((geE key0 es).getD cel0).key),.J (((geE key0 es).getD cel0).child:Int),.J (((geE key0 es).getD cel0).total:Int),.slice xf (((geE key0 es).getD cel0).loc.length) nf,.J (((geE key0 es).getD cel0).spill:Int)]) T.sz113 ok (oneL rfl)) ?_;rintro U3 ⟨ok,cg⟩;refine ⟨trivial,?_⟩;refine .g 19 true rfl 5 trivial (fun _=>.asB)<|.g 20 true rfl 6 trivial (fun _=>.asI)<|.e ?_;refine .end<|⟨pb1,F8,xf,nf,Ef,⟨rfl,rfl,rfl,rfl,trivial⟩,ok.n3.n3.n3.n3⟩
  ·
   refine .a' false rfl 4 (.alA T.zr113 ok) ?_;rintro _ U4 ⟨pb2,rfl,ok,xe⟩;refine ⟨ok.n2.n2.k2,?_⟩;have hS:=ok.n2.n2.k2;refine .o1 12<|.c' true rfl 27 .func (wlowT_any (key:=key0) ((Hp.lc1 (ok.n2))) tw hD) ?_;rintro _ U5 ⟨F8,xf,nf,Ef,rfl,q⟩;have ok:=Hp.lf1 (ok.n2) q;refine ⟨trivial,?_⟩;refine .g 13 true rfl 14 trivial (fun _=>.mvU)<|.g 14 true rfl 28 trivial (fun _=>.ex)<|.g 15 true rfl 29 trivial (fun _=>.ex)<|.g 16 true rfl 30 trivial (fun _=>.ex)<|.o1 18<|.ur' true rfl (.stW (vs:=[.J (((geE key0 es).getD cel0).key),.J (((geE key0 es).getD cel0).child:Int),.J (((geE key0 es).getD cel0).total:Int),.slice xf (((geE key0 es).getD cel0).loc.length) nf,.J (((geE key0 es).getD cel0).spill:Int)]) T.sz113 ok.n2 (oneL rfl)) ?_;rintro U6 ⟨ok,cg⟩;refine ⟨trivial,?_⟩;refine .g 19 true rfl 5 trivial (fun _=>.asB)<|.g 20 true rfl 6 trivial (fun _=>.asI)<|.e ?_;refine .end<|⟨pb2,F8,xf,nf,Ef,⟨rfl,rfl,rfl,rfl,trivial⟩,ok.n3.n3.n3.n3⟩
 rintro s U7 ⟨b4,F8,xf,nf,Ef,hs,ok⟩;refine .frame hs fun τ=>?_;refine .seq<|.s<|.z .mvI<|.z .neq<|.nil<|.cf<|.skip<|.seq<|.seq<|.join (fun s hh=>∃(bb:Bool),Has s [(0,.P cb),(4,.P b4),(44,.bool bb)]/\Hp h D [boxI b4 113 [.J (((geE key0 es).getD cel0).key),.J (((geE key0 es).getD cel0).child:Int),.J (((geE key0 es).getD cel0).total:Int),.slice xf (((geE key0 es).getD cel0).loc.length) nf,.J (((geE key0 es).getD cel0).spill:Int)],rdI Ef Ef (xf,((geE key0 es).getD cel0).loc.length,nf) ((geE key0 es).getD cel0).loc,dsI G so F8 w,boxI cb 124 [.P so,.J root,.bool on,.J key0]] [] hh/\(bb=true↔¬((geE key0 es).isSome=true/\((geE key0 es).getD cel0).key=key0))) ?_ ?_
 ·
  refine .q (hm:=mixed)<|.z .mvB<|.z .not<|.z .mvB<|.spl (fun G36=>?_) (fun G36=>?_)
  ·
   refine .y<|.y<|.y<|.y<|.y<|.y<|.y<|.z .pkt<|.nil<|.end<|⟨_,⟨rfl,rfl,rfl,trivial⟩,ok.n3.n3.n3.n3,by simp_all⟩
  refine .z (.fa T.fd113_0)<|.z (.ldx T.ag2 ok.m0)<|.z .mvP<|.z .nil<|.z (.fa T.fd124_3)<|.z (.ldx T.ag2 ok.m3)<|.z .neq<|.z .pkf<|.nil<|.end<|⟨_,⟨rfl,rfl,rfl,trivial⟩,ok.n3.n3.n3.n3,by simp_all⟩
 rintro s U8 ⟨bb,hs,ok,hbb⟩;refine .frame hs fun τ=>?_;refine .cond (fun C3=>?_) (fun C3=>?_)
 ·
  have hno:=tw.val.1 (hbb.1 C3);refine .s<|.z .asS<|.z .asI<|.nil<|.ret ⟨.tuple #[.N,.J 4],Res.two rfl rfl rfl,(by
   have hvl:valO on key0 l=([],4):=by unfold valO;rw [if_pos hon,hno]
   rw [hvl];exact ⟨F8,none,0,rfl,Hp.nilC ((ok.n2.n3).k2)⟩)⟩
 obtain ⟨b,pl,hv1,hv2,hv3,hv4,hv5,hv6,hv7⟩:=tw.val.2 (Classical.not_not.1 (fun h=>by have h9:=hbb.2 h;rw [C3] at h9;cases h9));refine .skip<|.seq<|.a 5 (fun fl hh=>cond fl True (Hp h D [boxI b4 113 [.J (((geE key0 es).getD cel0).key),.J (((geE key0 es).getD cel0).child:Int),.J (((geE key0 es).getD cel0).total:Int),.slice xf (((geE key0 es).getD cel0).loc.length) nf,.J (((geE key0 es).getD cel0).spill:Int)],rdI Ef Ef (xf,((geE key0 es).getD cel0).loc.length,nf) ((geE key0 es).getD cel0).loc,dsI G so F8 w,boxI cb 124 [.P so,.J root,.bool on,.J key0]] [] hh)) mixed ?_;have hS:=ok;refine .g 0 false rfl 45 hS (fun _=>.mvP)<|.g 1 false rfl 46 hS (fun _=>.nil)<|.g 2 false rfl 47 hS (fun _=>.fa T.fd124_0)<|.l 3 false rfl 48 hS (fun _ hS=>.ldx T.ag24 hS.m3)<|.l 4 false rfl 49 hS (fun _ hS=>.ldb T.ag113 hS.m0 T.sz113)<|.o1 5<|?_;have okv:=((ok.n2.n2).frz);refine .c' true rfl 50 .func (wload_any (ky:=((geE key0 es).getD cel0).key) (ch:=((geE key0 es).getD cel0).child) (tt:=((geE key0 es).getD cel0).total) (la:=xf) (lcc:=nf) (lc:=((geE key0 es).getD cel0).loc) (sp:=((geE key0 es).getD cel0).spill) ⟨by omega,by omega⟩ ⟨by omega,by omega⟩ ((Hp.lc1 okv).sub (R':=[rdI Ef Ef (xf,((geE key0 es).getD cel0).loc.length,nf) ((geE key0 es).getD cel0).loc]) (by simp)) hv2 ⟨by omega,by rw [qH];omega⟩) ?_;rintro _ U9 ⟨F9,xv,cv,rfl,q⟩;have ok:=Hp.lf1 (okv) q;rw [hv3] at ok⊢;refine ⟨trivial,?_⟩;refine .g 6 true rfl 51 trivial (fun _=>.ex)<|.g 7 true rfl 52 trivial (fun _=>.ex)<|.g 8 true rfl 2 trivial (fun _=>.asS)<|.g 9 true rfl 3 trivial (fun _=>.asI)<|.e ?_;refine .ret ⟨.tuple #[.slice xv b.length cv,.J 0],Res.two rfl rfl rfl,(by
  have hvl:valO on key0 l=(b,0):=by unfold valO;rw [if_pos hon,hv1]
  rw [hvl];exact ⟨F9,xv,cv,rfl,(ok.n1.n3.n2).k3.e0⟩)⟩
structure RE where
 key:Int
 r:RB
def RE.cells (x:RE):List Value:=[.J x.key,.slice x.r.a x.r.l.length x.r.c]
theorem RE.cells_len (x:RE):x.cells.length=2:=rfl
def RE.e (x:RE):En:=(x.key,x.r.l)
def stepP (x:RE) (s:List RE × Bool) (y:RE):List RE × Bool:=((if s.2=false/\x.key<=y.key then s.1++[x] else s.1)++(if y.key≠x.key then [y] else []),s.2 || decide (x.key<=y.key))
def putR (l:List RE) (x:RE):List RE:=if (l.foldl (stepP x) ([],false)).2=true then (l.foldl (stepP x) ([],false)).1 else (l.foldl (stepP x) ([],false)).1++[x]
theorem foldP_hi {x:RE} : ∀ {l:List RE} {o:List RE},(∀y∈l,x.key<y.key)->l.foldl (stepP x) (o,true)=(o++l,true)
 | [],o,_=>by simp
 | y::l,o,h=>by
  have:=h y (by simp);rw [List.foldl_cons,show stepP x (o,true) y=(o++[y],true) from by unfold stepP;simp;omega,foldP_hi fun z hz=>h z (qQ _ hz)];simp
theorem foldP_put {x:RE} : ∀ {l:List RE} {o:List RE},(l.map RE.key).Pairwise (· < ·)->(if (l.foldl (stepP x) (o,false)).2=true then (l.foldl (stepP x) (o,false)).1 else (l.foldl (stepP x) (o,false)).1++[x])=o++(l.filter (fun y=>decide (y.key<x.key))++x::l.filter (fun y=>decide (x.key<y.key)))
 | [],o,_=>by simp
 | y::l,o,hs=>by
  rw [kE,kK] at hs;have hgt:∀z∈l,y.key<z.key:=fun z hz=>hs.1 z.key (List.mem_map_of_mem hz);rw [List.foldl_cons];by_cases h1:x.key<=y.key
  ·have hl:∀z∈l,x.key<z.key:=fun z hz=>by have:=hgt z hz;omega
   have e1:stepP x (o,false) y=(o++[x]++(if y.key≠x.key then [y] else []),true):=by unfold stepP;simp [h1]
   rw [e1,foldP_hi hl,if_pos rfl,List.filter_cons_of_neg (by simp;omega),List.filter_eq_nil_iff.2 fun z hz=>by have:=hl z hz;simp;omega];by_cases h2:y.key=x.key
   ·rw [List.filter_cons_of_neg (by simp;omega),List.filter_eq_self.2 fun z hz=>by have:=hl z hz;simpa using this];simp [h2]
   ·rw [List.filter_cons_of_pos (by simp;omega),List.filter_eq_self.2 fun z hz=>by have:=hl z hz;simpa using this];simp [h2]
  ·have e1:stepP x (o,false) y=(o++[y],false):=by unfold stepP;simp [h1];omega
   rw [e1,foldP_put hs.2,List.filter_cons_of_pos (by simp;omega),List.filter_cons_of_neg (by simp;omega)];simp
theorem putR_e {l:List RE} {x:RE} (hs:(l.map RE.key).Pairwise (· < ·)):(putR l x).map RE.e=putE (l.map RE.e) x.key x.r.l:=by
 unfold putR putE;rw [foldP_put hs,kI,kJ,kE,List.filter_map,List.filter_map];rfl
theorem stepP_mem {x:RE} {P:RE->Prop} (hx:P x) {l:List RE} (hl:∀y∈l,P y):∀ {o:List RE} {b:Bool},(∀y∈o,P y)->∀y∈(l.foldl (stepP x) (o,b)).1,P y:=by
 induction l with
 | nil=>intro o b h;exact h
 | cons z l ih=>
  intro o b h;rw [List.foldl_cons];refine ih (fun y hy=>hl y (qQ _ hy)) fun y hy=>?_;rcases qD.1 hy with hy | hy
  ·split at hy
   ·rcases qD.1 hy with hy | hy
    ·exact h y hy
    ·rw [qS.1 hy];exact hx
   ·exact h y hy
  ·split at hy
   ·rw [qS.1 hy];exact hl z (by simp)
   ·cases hy
theorem putR_mem {l:List RE} {x:RE} {P:RE->Prop} (hx:P x) (hl:∀y∈l,P y):∀y∈putR l x,P y:=by
 have h1:=stepP_mem hx hl (o:=[]) (b:=false) (by simp);unfold putR;split
 ·exact h1
 ·intro y hy;rcases qD.1 hy with hy | hy
  ·exact h1 y hy
  ·rw [qS.1 hy];exact hx
theorem putE_len {key:Int} {b:List UInt8} : ∀ {l:List En},(putE l key b).length<=l.length+1
 | []=>by simp [putE]
 | e::l=>by
  have ih:=putE_len (key:=key) (b:=b) (l:=l);unfold putE at *;simp only [qA,qV] at *;by_cases h1:e.1<key
  ·rw [List.filter_cons_of_pos (by simpa using h1),List.filter_cons_of_neg (by simp;omega),qV];omega
  ·rw [List.filter_cons_of_neg (by simpa using h1)];by_cases h2:key<e.1
   ·rw [List.filter_cons_of_pos (by simpa using h2),qV];omega
   ·rw [List.filter_cons_of_neg (by simpa using h2)];omega
theorem putR_len {l:List RE} {x:RE} (hs:(l.map RE.key).Pairwise (· < ·)):(putR l x).length<=l.length+1:=by
 have h1:=congrArg List.length (putR_e (x:=x) hs);have h2:=putE_len (key:=x.key) (b:=x.r.l) (l:=l.map RE.e);rw [qM] at h1 h2;omega
theorem re_n {h:Heap} {x:Option Addr} {n c:Nat} {e:TypeId} {l:List RE} (r:Cap h 2 e (.slice x n c) (l.flatMap RE.cells)):n=l.length:=by
 have h1:=(Cap.sl r).cells.1;rw [flat_len RE.cells_len] at h1;omega
theorem rput_any {h:Heap} {a:Option Addr} {c:Nat} {l:List RE} {x:RE} (hl:Sl h 2 (.slice a l.length c) (l.flatMap RE.cells)) (hc:l.length<=c/\c<=9223372036854775807) (hN:l.length<=1000) :
  Hc 25 #[.slice a l.length c,.agg #[.J x.key,.slice x.r.a x.r.l.length x.r.c]] h (fun v h'=>∃x' c',v=.slice x' (putR l x).length c'/\Hp h none_ [capI 2 37 (x',(putR l x).length,c') ((putR l x).flatMap RE.cells)] [] h'):=by
 have ok:=(Hp.nil h none_).old (rowI 2 (a,l.length,c) (l.flatMap RE.cells)) hl (blk_lt (by omega) hl);refine HC.go Tryz.func25 52 ?_;refine .s<|.a' 3 (.bxA (cs:=[.J x.key,.slice x.r.a x.r.l.length x.r.c]) ok) ?_;rintro _ U1 ⟨pb1,rfl,ok,xe⟩;refine .z .asS<|.nil<|.s<|.z .asS<|.nil<|.s<|.z .asB<|.nil<|.seq<|.seq<|?_;have ok:=ok.nilC (k:=2) (e:=37);refine .r<|.z .asI<|.nil<|.block fun K0 hK0=>.loop (fun m s hh=>∃(i:Nat) (o1:List RE) (pb:Bool) (a1:Option Addr) (n1 c1:Nat),Has s [(0,.slice a l.length c),(3,.P pb1),(5,.slice a1 n1 c1),(6,.bool pb),(7,.J (i:Int))]/\Hp h none_ [capI 2 37 (a1,n1,c1) (o1.flatMap RE.cells),boxI pb1 37 [.J x.key,.slice x.r.a x.r.l.length x.r.c]] [rowI 2 (a,l.length,c) (l.flatMap RE.cells)] hh/\i<=l.length/\(l.take i).foldl (stepP x) ([],false)=(o1,pb)/\o1.length<=2*i/\m=l.length-i) ?_ ?_
 ·exact ⟨_,0,[],false,none,0,0,⟨rfl,rfl,rfl,rfl,rfl,trivial⟩,(ok).k2,qL _,rfl,qL _,rfl⟩
 rintro _ _ U2 ⟨i,o1,pb,a1,n1,c1,hs,ok,hil,hfo,hol,rfl⟩ J0 hJ0;refine .frame hs fun τ=>?_;refine .seq<|.s<|.z .mvI<|.z .mvS<|.z (.len T.el28)<|.z .lss<|.nil<|.cdr (fun C0=>?_) (fun C0=>?_)
 ·
  refine .exit<|hK0 _ _<|.seq<|.s<|.z .mvB<|.z .not<|.nil<|.cond (fun C3=>?_) (fun C3=>?_)
  ·
   refine .r<|.z .mvS<|.z (.ldb T.ag37 ok.m1 T.sz37)<|.a' 49 (.lit [.tmp 48] (cs:=[.J x.key,.slice x.r.a x.r.l.length x.r.c]) T.el28 T.sz37 T.zr37 ok ⟨rfl,trivial⟩) ?_;rintro _ U3 ⟨pb2,rfl,ok,xe⟩;refine .a' 50 (.app (news:=[.J x.key,.slice x.r.a x.r.l.length x.r.c]) T.el28 T.sz37 T.by37 T.zr37 (ok.n1) (Cap.sl (ok.n1).m1) (oneL rfl) (by rw [flat_len RE.cells_len];try simp only [qA,qV,qB];omega)) ?_;rintro _ U4 ⟨ya1,yn1,yc1,rfl,ok,ap⟩;have ok:=ok.cx (ys:=(o1++[x]).flatMap RE.cells) (by simp [RE.cells]);refine .z .asS<|.nil<|.s<|.z .mvS<|.z .asS<|.nil<|.ret ⟨.slice ya1 yn1 yc1,Res.one rfl rfl,(by
    have hln:yn1=(o1++[x]).length:=re_n (ok.m0);obtain rfl:i=l.length:=by omega
    rw [List.take_length] at hfo;have hput:putR l x=(o1++[x]):=by unfold putR;rw [hfo];simp_all
    refine ⟨ya1,yc1,?_,?_⟩
    ·rw [hput,hln]
    ·rw [hput,<-hln];exact (ok).k1.e0)⟩
  refine .skip<|.s<|.z .mvS<|.z .asS<|.nil<|.ret ⟨.slice a1 n1 c1,Res.one rfl rfl,(by
   have hln:n1=o1.length:=re_n (ok.m0);obtain rfl:i=l.length:=by omega
   rw [List.take_length] at hfo;have hput:putR l x=o1:=by unfold putR;rw [hfo];simp_all
   refine ⟨a1,c1,?_,?_⟩
   ·rw [hput,hln]
   ·rw [hput,<-hln];exact (ok).k1.e0)⟩
 have hi:i<l.length:=by omega
 refine .skip<|.seq<|.block fun K1 hK1=>.seq<|.seq<|.q (hm:=mixed)<|.z .mvB<|.z .not<|.z .mvB<|.spl (fun G16=>?_) (fun G16=>?_)
 ·
  refine .z .mvS<|.z .mvI<|?_;obtain ⟨bb1,oo1,rfl,fb1⟩:=ok.r0.pos (n:=l.length) (by omega);refine .z (.ix i T.el28 T.sz37)<|.z (.fa T.fd37_0)<|.z (.ld T.ag2 (sl_at RE.cells_len (ok.r0) (i:=i) (j:=0) (by omega) rfl))<|.z (.fa T.fd37_0)<|.z (.ldx T.ag2 ok.m1)<|.z .geq<|.z .pkt<|.nil<|.cd (fun C1=>?_) (fun C1=>?_)
  ·
   refine .s<|.z .mvS<|.z (.ldb T.ag37 ok.m1 T.sz37)<|.a' 28 (.lit [.tmp 27] (cs:=[.J x.key,.slice x.r.a x.r.l.length x.r.c]) T.el28 T.sz37 T.zr37 ok ⟨rfl,trivial⟩) ?_;rintro _ U5 ⟨pb3,rfl,ok,xe⟩;refine .a' 29 (.app (news:=[.J x.key,.slice x.r.a x.r.l.length x.r.c]) T.el28 T.sz37 T.by37 T.zr37 (ok.n1) (Cap.sl (ok.n1).m1) (oneL rfl) (by rw [flat_len RE.cells_len];try simp only [qA,qV,qB];omega)) ?_;rintro _ U6 ⟨ya2,yn2,yc2,rfl,ok,ap⟩;have ok:=ok.cx (ys:=(o1++[x]).flatMap RE.cells) (by simp [RE.cells]);refine .z .asS<|.nil<|.r<|.z .asB<|.nil<|.seq<|.q (hm:=mixed)<|.z .mvS<|.z .mvI<|.z (.ix i T.el28 T.sz37)<|.z (.fa T.fd37_0)<|.z (.ld T.ag2 (sl_at RE.cells_len (ok.r0) (i:=i) (j:=0) (by omega) rfl))<|.z (.fa T.fd37_0)<|.z (.ldx T.ag2 ok.m2)<|.z .neq<|.nil<|.cd (fun C2=>?_) (fun C2=>?_)
   ·
    refine .r<|.z .mvS<|.z .mvS<|.z .mvI<|.z (.ix i T.el28 T.sz37)<|.z (.ldc (vs:=RE.cells l[i]) T.ag37 (sl_ats RE.cells_len (ok.r0) (i:=i) (by omega)) T.sz37)<|.a' 43 (.lit [.tmp 42] (cs:=[.J (l[i].key),.slice (l[i].r.a) (l[i].r.l.length) (l[i].r.c)]) T.el28 T.sz37 T.zr37 ok ⟨rfl,trivial⟩) ?_;rintro _ U7 ⟨pb4,rfl,ok,xe⟩;refine .a' 44 (.app (news:=[.J (l[i].key),.slice (l[i].r.a) (l[i].r.l.length) (l[i].r.c)]) T.el28 T.sz37 T.by37 T.zr37 (ok.n1) (Cap.sl (ok.n1).m1) (oneL rfl) (by rw [flat_len RE.cells_len];try simp only [qA,qV,qB];omega)) ?_;rintro _ U8 ⟨ya3,yn3,yc3,rfl,ok,ap⟩;have ok:=ok.cx (ys:=((o1++[x])++[l[i]]).flatMap RE.cells) (by simp [RE.cells]);refine .z .asS<|.nil<|.end<|hK1 _ _<|.r<|.z .mvI<|.z (.addI (b:=1))<|.z .asI<|.nil<|.end<|hJ0 _ _ _ ⟨i+1,((o1++[x])++[l[i]]),true,ya3,yn3,yc3,⟨rfl,rfl,rfl,rfl,rfl,trivial⟩,(ok.n3.n1).k2,by omega,by rw [qG hi,List.foldl_append,hfo];simp [stepP] ;simp_all,by (try simp only [qA,qV,qB]);omega,rfl⟩ (by omega)
   refine .skip<|.end<|hK1 _ _<|.r<|.z .mvI<|.z (.addI (b:=1))<|.z .asI<|.nil<|.end<|hJ0 _ _ _ ⟨i+1,(o1++[x]),true,ya2,yn2,yc2,⟨rfl,rfl,rfl,rfl,rfl,trivial⟩,(ok.n2.n1).k2,by omega,by rw [qG hi,List.foldl_append,hfo];simp [stepP] ;simp_all,by (try simp only [qA,qV,qB]);omega,rfl⟩ (by omega)
  refine .skip<|.seq<|.q (hm:=mixed)<|.z .mvS<|.z .mvI<|.z (.ix i T.el28 T.sz37)<|.z (.fa T.fd37_0)<|.z (.ld T.ag2 (sl_at RE.cells_len (ok.r0) (i:=i) (j:=0) (by omega) rfl))<|.z (.fa T.fd37_0)<|.z (.ldx T.ag2 ok.m1)<|.z .neq<|.nil<|.cd (fun C2=>?_) (fun C2=>?_)
  ·
   refine .r<|.z .mvS<|.z .mvS<|.z .mvI<|.z (.ix i T.el28 T.sz37)<|.z (.ldc (vs:=RE.cells l[i]) T.ag37 (sl_ats RE.cells_len (ok.r0) (i:=i) (by omega)) T.sz37)<|.a' 43 (.lit [.tmp 42] (cs:=[.J (l[i].key),.slice (l[i].r.a) (l[i].r.l.length) (l[i].r.c)]) T.el28 T.sz37 T.zr37 ok ⟨rfl,trivial⟩) ?_;rintro _ U9 ⟨pb5,rfl,ok,xe⟩;refine .a' 44 (.app (news:=[.J (l[i].key),.slice (l[i].r.a) (l[i].r.l.length) (l[i].r.c)]) T.el28 T.sz37 T.by37 T.zr37 (ok.n1) (Cap.sl (ok.n1).m1) (oneL rfl) (by rw [flat_len RE.cells_len];try simp only [qA,qV,qB];omega)) ?_;rintro _ U10 ⟨ya4,yn4,yc4,rfl,ok,ap⟩;have ok:=ok.cx (ys:=(o1++[l[i]]).flatMap RE.cells) (by simp [RE.cells]);refine .z .asS<|.nil<|.end<|hK1 _ _<|.r<|.z .mvI<|.z (.addI (b:=1))<|.z .asI<|.nil<|.end<|hJ0 _ _ _ ⟨i+1,(o1++[l[i]]),pb,ya4,yn4,yc4,⟨rfl,rfl,rfl,rfl,rfl,trivial⟩,(ok.n2.n1).k2,by omega,by rw [qG hi,List.foldl_append,hfo];simp [stepP] ;simp_all,by (try simp only [qA,qV,qB]);omega,rfl⟩ (by omega)
  refine .skip<|.end<|hK1 _ _<|.r<|.z .mvI<|.z (.addI (b:=1))<|.z .asI<|.nil<|.end<|hJ0 _ _ _ ⟨i+1,o1,pb,a1,n1,c1,⟨rfl,rfl,rfl,rfl,rfl,trivial⟩,(ok).k2,by omega,by rw [qG hi,List.foldl_append,hfo];simp [stepP] ;simp_all,by (try simp only [qA,qV,qB]);omega,rfl⟩ (by omega)
 refine .y<|.y<|.y<|.y<|.y<|.y<|.y<|.y<|.z .pkf<|.nil<|.cf<|.skip<|.seq<|.q (hm:=mixed)<|.z .mvS<|.z .mvI<|?_;obtain ⟨bb2,oo2,rfl,fb2⟩:=ok.r0.pos (n:=l.length) (by omega);refine .z (.ix i T.el28 T.sz37)<|.z (.fa T.fd37_0)<|.z (.ld T.ag2 (sl_at RE.cells_len (ok.r0) (i:=i) (j:=0) (by omega) rfl))<|.z (.fa T.fd37_0)<|.z (.ldx T.ag2 ok.m1)<|.z .neq<|.nil<|.cd (fun C2=>?_) (fun C2=>?_)
 ·
  refine .r<|.z .mvS<|.z .mvS<|.z .mvI<|.z (.ix i T.el28 T.sz37)<|.z (.ldc (vs:=RE.cells l[i]) T.ag37 (sl_ats RE.cells_len (ok.r0) (i:=i) (by omega)) T.sz37)<|.a' 43 (.lit [.tmp 42] (cs:=[.J (l[i].key),.slice (l[i].r.a) (l[i].r.l.length) (l[i].r.c)]) T.el28 T.sz37 T.zr37 ok ⟨rfl,trivial⟩) ?_;rintro _ U11 ⟨pb6,rfl,ok,xe⟩;refine .a' 44 (.app (news:=[.J (l[i].key),.slice (l[i].r.a) (l[i].r.l.length) (l[i].r.c)]) T.el28 T.sz37 T.by37 T.zr37 (ok.n1) (Cap.sl (ok.n1).m1) (oneL rfl) (by rw [flat_len RE.cells_len];try simp only [qA,qV,qB];omega)) ?_;rintro _ U12 ⟨ya5,yn5,yc5,rfl,ok,ap⟩;have ok:=ok.cx (ys:=(o1++[l[i]]).flatMap RE.cells) (by simp [RE.cells]);refine .z .asS<|.nil<|.end<|hK1 _ _<|.r<|.z .mvI<|.z (.addI (b:=1))<|.z .asI<|.nil<|.end<|hJ0 _ _ _ ⟨i+1,(o1++[l[i]]),pb,ya5,yn5,yc5,⟨rfl,rfl,rfl,rfl,rfl,trivial⟩,(ok.n2.n1).k2,by omega,by rw [qG hi,List.foldl_append,hfo];simp [stepP] ;simp_all,by (try simp only [qA,qV,qB]);omega,rfl⟩ (by omega)
 refine .skip<|.end<|hK1 _ _<|.r<|.z .mvI<|.z (.addI (b:=1))<|.z .asI<|.nil<|.end<|hJ0 _ _ _ ⟨i+1,o1,pb,a1,n1,c1,⟨rfl,rfl,rfl,rfl,rfl,trivial⟩,(ok).k2,by omega,by rw [qG hi,List.foldl_append,hfo];simp [stepP] ;simp_all,by (try simp only [qA,qV,qB]);omega,rfl⟩ (by omega)
theorem op_own {z:Nat} (hz:okSz z=true):Own_ (opV z 0) [] []:=Own_.start (op_fs hz (by omega)) opL_len
theorem wsit_any {h:Heap} {n:Nat} (hn:n<256) :
  Hc 10 #[.int .u8 (n:Int)] h (fun v h'=>∃so F root w Q,v=.tuple #[.P so,.J root]/\w.z=szF n/\TW w Q [root] [] root 0 [] [] [root] []/\w.now.length<=16000/\(2<=root/\root<=65536)/\Hp h none_ [dsI (nG (decide (((n%2:Nat):Int)=1))) so F w] [] h'):=by
 have ok:=Hp.nil h none_;have hzb:=szF_b n;have hzo:=szF_ok n;refine HC.go Tryz.func10 49 ?_;refine .s<|.z .asP<|.z .asI<|.nil<|.s<|.z .mvI<|.z (.remn (b:=3))<|.z (.shlI 256 (n%3) (by omega) (by unfold szF at hzb;omega))<|?_;rw [show 256*2 ^ (n%3)=(szF n) from rfl];refine .z .asI<|.nil<|.s<|.c' 13 .func dgnew_any ?_;rintro _ U1 ⟨dnd1,Fnd1,rfl,q⟩;have ok:=Hp.addM15 ok q;refine .z .mvI<|.z .mvI<|.z (.remn (b:=2))<|.z .eql<|.z (.bd #[.J (((szF n):Nat):Int),.bool (decide ((((n%2):Nat):Int)=1)),.J 8] T.zr105 T.pl105 rfl)<|.c' 19 .func (sopn_any (z:=(szF n)) (ah:=decide ((((n%2):Nat):Int)=1)) (room:=8) (ok).loc0 (szF_ok n) (by omega)) ?_;rintro _ U2 ⟨so,rfl,Fo1,q⟩;have ok:=(ok).lift1 q;refine .z .mvU<|.z .ex<|.z .ex<|.z .asP<|.z .asI<|.nil<|.seq<|.s<|.z .mvP<|.z (.pEqS T.pt24)<|.z .mvB<|.z .mvI<|.z .neq<|.z .pkf<|.z .mvB<|.z .mvP<|.c' 30 .func (ansE (ci:=0) (sBegin_any (G:=(nG (decide ((((n%2):Nat):Int)=1)))) (w:=(newS (szF n))) (ok).loc0) op_begin rfl) ?_;rintro _ U3 ⟨Fb1,rfl,q⟩;have ok:=(ok).lift1 q;refine .z .neq<|.z .pkf<|.z .mvB<|.z .mvP<|.z .mvI<|.z (.bd #[.J (((szF n):Nat):Int),.J 1,.J 0,.J 0,.J 0,.J 0] T.zr97 T.pl97 rfl)<|.c' 37 .func (ansE (ci:=0) (sSetHead_any (G:=(nG (decide ((((n%2):Nat):Int)=1)))) (w:=(opB (szF n))) (H:=(⟨(((szF n):Nat):Int),1,0,0,0,0⟩:Hd)) (ok).loc0 (hd1_in (szF_ok n))) (op_head (szF_ok n)) rfl) ?_;rintro _ U4 ⟨Fs1,rfl,q⟩;have ok:=(ok).lift1 q;refine .z .neq<|.z .pkf<|.nil<|.cf<|.skip<|.s<|.z .mvP<|.c' 42 .func (tcreate_any (B:=16000) (Hp.lc1 (ok)) (op_own hzo) (by show (opL _ 0).length<=_;rw [opL_len];decide) (by simp) (show 16000*szF n<=16777216 by omega)) ?_;rintro _ U5 ⟨F9,w9,Q9,root,rfl,htw,hkx,hn9,hr9,q⟩;have ok:=Hp.lf1 (ok) q;refine .z .mvU<|.z .ex<|.z .ex<|.z .asI<|.z .asI<|.nil<|.seq<|.s<|.z .mvI<|.z .neq<|.nil<|.cf<|.skip<|.s<|.z .mvP<|.z .mvI<|.z .asP<|.z .asI<|.nil<|.ret ⟨.tuple #[.P so,.J root],Res.two rfl rfl rfl,⟨so,F9,root,w9,Q9,rfl,hkx.z,htw,hn9,hr9,(ok).k1⟩⟩
end Go.Proofs.YtfegfklipbnhjaaGreat
namespace Go.HL
open Go Go.Proofs.YtfegfklipbnhjaaGreat
@[reducible] def rbI (E:Nat->Prop) (rs:List RE):Itm:=⟨fun h=>∀x∈rs,RdL h E E (x.r.a,x.r.l.length,x.r.c) x.r.l,E,fun _ _ _ c d hp x hx=>(hp x hx).st c d d⟩
section
variable {h0 h:Heap} {D E:Nat->Prop} {M R:List Itm} {rs rs2:List RE} {x:RE}
theorem Hp.rbNil (ok:Hp h0 D M R h):Hp h0 D (rbI none_ []::M) R h:=ok.newM (Ext.refl h) _ (by simp) fun _ f=>f.elim
theorem Hp.rbPut (ok:Hp h0 D (rbI E rs::capI 1 5 (x.r.a,x.r.l.length,x.r.c) (x.r.l.map bv)::M) R h) (hs:∀y∈rs2,y=x\/y∈rs):Hp h0 D (rbI (fun j=>E j\/blkC (.slice x.r.a x.r.l.length x.r.c) j) rs2::M) R h:=by
 have hb:RdL h (blkC (.slice x.r.a x.r.l.length x.r.c)) none_ (x.r.a,x.r.l.length,x.r.c) x.r.l:=RdL.of_cap1 (f:=bv) rfl (fun _ _ _=>rfl) ok.m1;have hp:∀y∈rs,RdL h E E (y.r.a,y.r.l.length,y.r.c) y.r.l:=ok.m0;exact ok.fuse _ (fun y hy=>by
  rcases hs y hy with rfl | hy
  ·exact hb.mono (fun _ h=>.inr h) (fun _ h=>h.elim)
  ·exact (hp y hy).mono (fun _ h=>.inl h) (fun _ h=>.inl h)) fun j hj=>hj
end
end Go.HL
namespace Go.Proofs.YtfegfklipbnhjaaGreat
open Go Go.HL
section
variable {w:St} {Q:Trk} {root:Int} {n:Nat}
structure AcR where
 kind:Int
 key:Int
 many:Int
 b:UInt8
def AcR.cells (x:AcR):List Value:=[.J x.kind,.J x.key,.J x.many,.int .u8 (x.b.toNat:Int)]
theorem AcR.cells_len (x:AcR):x.cells.length=4:=rfl
theorem TW.few {w:St} {Q:Trk} {X Y tp cp:List Int} {root:Int} {D M:Nat} {es:List Cel} {l:List En} (t:TW w Q X Y root D es l tp cp) (h:∀e∈l,e.2.length<=M):X.length<=1+2*l.length+l.length*(M / 252+1)+Y.length:=by
 have h1:=t.px.length_eq;have h2:=t.e.few (by have:=t.o.fr.zc;omega) h;obtain ⟨n,q,g1,g2,g3,rfl⟩:=t.t;have h3:q.length<=2*l.length:=by
  rw [<-t.e.len];by_cases hc:n.cells=[]
  ·cases D with
   | zero=>obtain ⟨_,_,h,_⟩:=g2;rw [h];simp
   | succ d=>exact absurd hc (g3 (by omega))
  ·have:=g2.few hc;omega
 simp only [qA,qV] at h1;omega
theorem TW.srt {w:St} {Q:Trk} {X Y tp cp:List Int} {root:Int} {D:Nat} {es:List Cel} {rs:List RE} (t:TW w Q X Y root D es (rs.map RE.e) tp cp):(rs.map RE.key).Pairwise (· < ·):=by
 have hs:=t.t.srt;rw [t.e.keys,List.map_map] at hs;exact hs
structure Fil (w:St) (Q:Trk) (X:List Int) (root:Int) (D:Nat) (es:List Cel) (rs:List RE) (tp cp:List Int) (n i:Nat):Prop where
 t:TW w Q X [] root D es (rs.map RE.e) tp cp
 z:w.z=szF n
 n:w.now.length<=16000
 l:rs.length<=i
 m:∀x∈rs,x.r.l.length<=3000
 k:∀x∈rs,i64K x.key
theorem Fil.pre {X tp cp:List Int} {D i:Nat} {es:List Cel} {rs:List RE} (f:Fil w Q X root D es rs tp cp n i) (hi:i<=200):(rs.map RE.e).length<32768/\X.length+250<=16000/\(16000+70)*w.z<=16777216:=by
 have h1:=f.t.few (M:=3000) fun e he=>by obtain ⟨x,hx,rfl⟩:=kS.1 he;exact f.m x hx
 have h2:=f.l;have h3:=szF_b n;have h4:=f.z;rw [qM] at h1;simp only [qB] at h1;refine ⟨by rw [qM];omega,by omega,by omega⟩
theorem Fil.put {w':St} {Q':Trk} {X X' tp cp tp' cp':List Int} {D D' i:Nat} {es es':List Cel} {rs:List RE} {x:RE} (f:Fil w Q X root D es rs tp cp n i) (t:TW w' Q' X' [] root D' es' (putE (rs.map RE.e) x.key x.r.l) tp' cp') (k:KX w w' []) (hn:w'.now.length<=16000) (hb:x.r.l.length<=3000) (hk:i64K x.key):Fil w' Q' X' root D' es' (putR rs x) tp' cp' n (i+1):=by
 refine ⟨by rw [putR_e f.t.srt];exact t,k.z.trans f.z,hn,by have:=putR_len (x:=x) f.t.srt;have:=f.l;omega,putR_mem hb f.m,putR_mem hk f.k⟩
theorem wpayload_any {h:Heap} {n:Int} {b:Nat} (hb:b<256) :
  Hc 24 #[.J n,.int .u8 (b:Int)] h (fun v h'=>∃(x:Option Addr) (c:Nat) (L:List UInt8),L.length<=3000/\v=.slice x L.length c/\Hp h none_ [capI 1 5 (x,L.length,c) (L.map bv)] [] h'):=by
 have ok:=Hp.nil h none_;obtain ⟨mm,hm,hm3⟩:∃m:Nat,max 0 (min n 3000)=(m:Int)/\m<=3000:=⟨(max 0 (min n 3000)).toNat,by omega,by omega⟩;refine HC.go Tryz.func24 25 ?_;refine .s<|.z .asS<|.nil<|.s<|.z .mvI<|.z .min2<|.z .max2<|?_;rw [hm];refine .a' 10 (.mks mm mm T.el35 T.sz5 T.by5 T.zr5 ok) ?_;rintro _ U1 ⟨pb1,rfl,ok,xe⟩;have ok:=ok.cx (ys:=(List.replicate mm (0:UInt8)).map bv) (zeros8 _);refine .z .asS<|.nil<|.seq<|.seq<|?_;obtain ⟨L0,hL0,hL1⟩:∃L0:List UInt8,L0.length=mm/\List.replicate mm (0:UInt8)=L0:=⟨_,kW,rfl⟩;rw [hL1] at ok;refine .r<|.z .asI<|.nil<|.block fun K0 hK0=>.loop (fun m s hh=>∃(i:Nat) (L:List UInt8),Has s [(1,.int .u8 (b:Int)),(5,.slice (some ⟨pb1,0,none⟩) mm mm),(6,.J (i:Int))]/\Hp h none_ [capI 1 5 (some ⟨pb1,0,none⟩,mm,mm) (L.map bv)] [] hh/\i<=mm/\L.length=mm/\m=mm-i) ?_ ?_
 ·exact ⟨_,0,L0,⟨rfl,rfl,rfl,trivial⟩,(ok).k1,qL _,hL0,rfl⟩
 rintro _ _ U2 ⟨i,L,hs,ok,him,hLm,rfl⟩ J0 hJ0;refine .frame hs fun τ=>?_;refine .seq<|.s<|.z .mvI<|.z .mvS<|.z (.len T.el35)<|.z .lss<|.nil<|.cdr (fun C0=>?_) (fun C0=>?_)
 ·
  refine .exit<|hK0 _ _<|.s<|.z .mvS<|.z .asS<|.nil<|.ret ⟨.slice (some ⟨pb1,0,none⟩) mm mm,Res.one rfl rfl,(by
   obtain rfl:=hLm;exact ⟨_,_,L,by omega,rfl,(ok).k1⟩)⟩
 refine .skip<|.seq<|.block fun K1 hK1=>.r<|.z .mvS<|.z .mvI<|.z .mvI<|.z .mvI<|.z (.cvm T.in5 T.in3 (M:=256) rfl rfl)<|.z (.addn (M:=256) rfl rfl)<|.z (.ix1 i T.el35 T.sz5)<|.ur' (.sxI T.sz5 (ok)) ?_;rintro U3 ⟨ok,cg⟩;have ok:=ok.cx (ys:=(L.set i (UInt8.ofNat (((((b+(i%256))%256):Nat):Int)).toNat)).map bv) (by rw [List.map_set];congr 1;simp [bv];omega);refine .nil ?_;refine .end<|hK1 _ _<|.r<|.z .mvI<|.z (.addI (b:=1))<|.z .asI<|.nil<|.end<|hJ0 _ _ _ ⟨i+1,(L.set i (UInt8.ofNat (((((b+(i%256))%256):Nat):Int)).toNat)),⟨rfl,rfl,rfl,trivial⟩,(ok).k1,by omega,by rw [List.length_set];exact hLm,rfl⟩ (by omega)
theorem wfill_any {G:Pgr} {h:Heap} {D F:Nat->Prop} {so c:Nat} {a:Option Addr} {l:List AcR} (ok:Hp h D [dsI G so F w] [rowI 4 (a,l.length,c) (l.flatMap AcR.cells)] h) (hlc:l.length<=c/\c<=9223372036854775807) (hln:l.length<=60) (hal:∀x∈l,i64K x.key) (hf0:Fil w Q [root] root 0 [] [] [root] [] n 0) :
  Hc 12 #[.P so,.J root,.slice a l.length c] h (fun v h'=>∃F' w' Q' X' D' es' tp' cp' rs' E' x' c',v=.tuple #[.slice x' rs'.length c',.bool true]/\Fil w' Q' X' root D' es' rs' tp' cp' n l.length/\Hp h D [capI 2 37 (x',rs'.length,c') (rs'.flatMap RE.cells),rbI E' rs',dsI G so F' w'] [] h'):=by
 refine HC.go Tryz.func12 48 ?_;refine .s<|.z .asS<|.z .asB<|.nil<|.s<|.z .asS<|.nil<|.seq<|.seq<|?_;have ok:=(ok.rbNil).nilC (k:=2) (e:=37);refine .r<|.z .asI<|.nil<|.block fun K0 hK0=>.loop (fun m s hh=>∃(i:Nat) (rs:List RE) (w1:St) (Q1:Trk) (X1:List Int) (D1:Nat) (es1:List Cel) (tp1 cp1:List Int) (F1 E1:Nat->Prop) (a1:Option Addr) (c1:Nat),Has s [(0,.P so),(1,.J root),(2,.slice a l.length c),(8,.slice a1 rs.length c1),(9,.J (i:Int))]/\Hp h D [capI 2 37 (a1,rs.length,c1) (rs.flatMap RE.cells),rbI E1 rs,dsI G so F1 w1] [rowI 4 (a,l.length,c) (l.flatMap AcR.cells)] hh/\i<=l.length/\Fil w1 Q1 X1 root D1 es1 rs tp1 cp1 n i/\m=l.length-i) ?_ ?_
 ·exact ⟨_,0,[],w,Q,[root],0,[],[root],[],F,none_,none,0,⟨rfl,rfl,rfl,rfl,rfl,trivial⟩,(ok).k3,qL _,hf0,rfl⟩
 rintro _ _ U1 ⟨i,rs,w1,Q1,X1,D1,es1,tp1,cp1,F1,E1,a1,c1,hs,ok,hil,hfi,rfl⟩ J0 hJ0;refine .frame hs fun τ=>?_;refine .seq<|.s<|.z .mvI<|.z .mvS<|.z (.len T.el22)<|.z .lss<|.nil<|.cdr (fun C0=>?_) (fun C0=>?_)
 ·
  refine .exit<|hK0 _ _<|.s<|.z .mvS<|.z .asS<|.z .asB<|.nil<|.ret ⟨.tuple #[.slice a1 rs.length c1,.bool true],Res.two rfl rfl rfl,(by
   obtain rfl:i=l.length:=by omega
   exact ⟨F1,w1,Q1,X1,D1,es1,tp1,cp1,rs,_,_,_,rfl,hfi,(ok).k3.e0⟩)⟩
 have hi:i<l.length:=by omega
 refine .skip<|.seq<|.block fun K1 hK1=>.seq<|.t 10 mixed ?_;simp only [kZ,kM,kH,kY];refine .z .mvS<|.z .mvI<|?_;obtain ⟨bb1,oo1,rfl,fb1⟩:=ok.r0.pos (n:=l.length) (by omega);refine .z (.ix i T.el22 T.sz54)<|.z (.fa T.fd54_2)<|.z (.ld T.ag3 (sl_at AcR.cells_len (ok.r0) (i:=i) (j:=2) (by omega) rfl))<|.z .mvS<|.z .mvI<|.z (.ix i T.el22 T.sz54)<|.z (.fa T.fd54_3)<|.z (.ld T.ag5 (sl_at AcR.cells_len (ok.r0) (i:=i) (j:=3) (by omega) rfl))<|.nil ?_;refine .c' 27 .func (wpayload_any (n:=l[i].many) (b:=l[i].b.toNat) (by first | omega | exact UInt8.toNat_lt _)) ?_;rintro _ U2 ⟨px,pc,pb,hpb,rfl,q⟩;have ok:=(ok.addML q);refine .z .asS<|.nil<|.seq<|.s<|.z .mvP<|.z .mvI<|.z .mvS<|.z .mvI<|.z (.ix i T.el22 T.sz54)<|.z (.fa T.fd54_1)<|.z (.ld T.ag2 (sl_at AcR.cells_len (ok.r0) (i:=i) (j:=1) (by omega) rfl))<|.z .mvS<|?_;have hpr:=hfi.pre (by omega);have hai:=hal _ (qP hi);refine .c' 36 .func (tput_any (G:=G) (w:=w1) (key:=l[i].key) (bl:=pb) (B:=16000) (Fl:=blkC (.slice px pb.length pc)) (El:=none_) (Hp.locMB (ok.n3)) hfi.t hpr.1 hai (by omega) hfi.n hpr.2.1 hpr.2.2 (by decide)) ?_;rintro _ U3 ⟨F9,w9,Q9,X9,D9,es9,tp9,cp9,rfl,hT9,hK9,hN9,q⟩;have ok:=(ok.n3).lift1 q;have hfi9:=hfi.put (x:=(⟨l[i].key,⟨px,pc,pb⟩⟩:RE)) hT9 hK9 hN9 hpb hai;refine .z .neq<|.nil<|.cf<|.skip<|.r<|.z .mvS<|.z .mvS<|.z .mvI<|.z (.ix i T.el22 T.sz54)<|.z (.fa T.fd54_1)<|.z (.ld T.ag2 (sl_at AcR.cells_len (ok.r0) (i:=i) (j:=1) (by omega) rfl))<|.z .mvS<|.z (.bd #[.J (l[i].key),.slice px pb.length pc] T.zr37 T.pl37 rfl)<|.c' 46 .func (rput_any (l:=rs) (x:=(⟨l[i].key,⟨px,pc,pb⟩⟩:RE)) (ok.m2).sl ⟨Cap.le ok.m2,Cap.bd ok.m2⟩ (by have:=hfi.l;omega)) ?_;rintro _ U4 ⟨xo,co,rfl,q⟩;have ok:=ok.addML q;have ok:=Hp.rbPut (x:=(⟨l[i].key,⟨px,pc,pb⟩⟩:RE)) (rs2:=putR rs (⟨l[i].key,⟨px,pc,pb⟩⟩:RE)) (ok.n2.n4) (putR_mem (P:=fun y=>y=(⟨l[i].key,⟨px,pc,pb⟩⟩:RE)\/y∈rs) (.inl rfl) fun y hy=>.inr hy);refine .z .asS<|.nil<|.end<|hK1 _ _<|.r<|.z .mvI<|.z (.addI (b:=1))<|.z .asI<|.nil<|.end<|hJ0 _ _ _ ⟨i+1,putR rs (⟨l[i].key,⟨px,pc,pb⟩⟩:RE),w9,Q9,X9,D9,es9,tp9,cp9,F9,_,xo,co,⟨rfl,rfl,rfl,rfl,rfl,trivial⟩,(ok.n2.n1.n2).k3,by omega,hfi9,rfl⟩ (by omega)
end
end Go.Proofs.YtfegfklipbnhjaaGreat
namespace Go.HL
open Go
theorem OpV.fnNe {P:Program} {s:Slots} {h:Heap} {d:Option Tmp} {ty t u:TypeId} {pos:String} {af:Array Edge} {g:Option (Nat × Bool)} {x y:Operand} {f:Fn} {is cs:Array Value} {q1 q2:Array TypeId} {q3:Bool} (ht:P.underlying t=some (.func q1 q2 q3)) (hx:ev s x=.func f is cs:=by exact rfl) (hy:ev s y=.nilFunc:=by exact rfl):OpV P ⟨d,.binOp .neq t x y u,ty,pos,af,g⟩ s h (.bool true):=fun w _=>by
 have h1:∀dd,(Op.equalIn (dd+1) t (.func f is cs) .nilFunc).run P w=.ok false w:=fun dd=>by simp [Op.equalIn,run_und ht]
 have h2:(Op.equal t (.func f is cs) .nilFunc).run P w=.ok false w:=h1 9999;simp [execOp,hx,hy,eqGuard,binOp,h2]
end Go.HL
namespace Go.Proofs.YtfegfklipbnhjaaGreat
open Go Go.HL
section
variable {h:Heap} {root:Int}
theorem TW.pre {w:St} {Q:Trk} {X tp cp:List Int} {D n:Nat} {es:List Cel} {l:List En} (t:TW w Q X [] root D es l tp cp) (h:∀e∈l,e.2.length<=3000) (hl:l.length<=200) (hz:w.z=szF n):l.length<32768/\X.length+250<=16000/\(16000+70)*w.z<=16777216/\D<=14:=by
 have h1:=t.few h;have h3:=szF_b n;simp only [qB] at h1;exact ⟨by omega,by omega,by omega,t.deep (by omega)⟩
theorem wtoN_any {key:Int} :
  Hc 19 #[.pointer none,.J key] h (fun v h'=>v=.tuple #[.bool false,.J 2]/\h'=h):=by
 refine HC.go Tryz.func19 25 ?_;refine .s<|.z .asB<|.z .asI<|.nil<|.seq<|.s<|.z .mvP<|.z (.pEqN T.pt44)<|.nil<|.ct<|.s<|.z .asB<|.z .asI<|.nil<|.ret ⟨.tuple #[.bool false,.J 2],Res.two rfl rfl rfl,⟨rfl,rfl⟩⟩
theorem wfirstN_any :
  Hc 23 #[.pointer none] h (fun v h'=>v=.tuple #[.bool false,.J 2]/\h'=h):=by
 refine HC.go Tryz.func23 8 ?_;refine .s<|.z .asB<|.z .asI<|.nil<|.s<|.z .mvP<|.k 5 .func (wtoN_any (key:=(-9223372036854775808)))<|.z .ex<|.z .ex<|.z .asB<|.z .asI<|.nil<|.ret ⟨.tuple #[.bool false,.J 2],Res.two rfl rfl rfl,⟨rfl,rfl⟩⟩
theorem wnewN_any :
  Hc 18 #[.pointer none,.J root] h (fun v h'=>v=.pointer none/\h'=h):=by
 refine HC.go Tryz.func18 11 ?_;refine .s<|.z .asP<|.nil<|.seq<|.s<|.z .mvP<|.z (.pEqN T.pt24)<|.nil<|.ct<|.s<|.z .asP<|.nil<|.ret ⟨.pointer none,Res.one rfl rfl,⟨rfl,rfl⟩⟩
theorem wrange_any {s0:Option Addr} {low high:Int} :
  Hc 14 #[.pointer s0,.J root,.J low,.J high] h (fun v h'=>∃b1 b2 b3 b4,v=.func (.func 53) #[] #[.P b1,.P b2,.P b3,.P b4]/\Hp h none_ [boxI b1 24 [.pointer s0],boxI b2 3 [.J root],boxI b3 2 [.J low],boxI b4 2 [.J high]] [] h'):=by
 have ok:=Hp.nil h none_;refine HC.go Tryz.func14 10 ?_;refine .s<|.a' 4 (.bxP ok) ?_;rintro _ U1 ⟨pb1,rfl,ok,xe⟩;refine .a' 5 (.bxI ok) ?_;rintro _ U2 ⟨pb2,rfl,ok,xe⟩;refine .a' 6 (.bxI ok) ?_;rintro _ U3 ⟨pb3,rfl,ok,xe⟩;refine .a' 7 (.bxI ok) ?_;rintro _ U4 ⟨pb4,rfl,ok,xe⟩;refine .z .asN<|.nil<|.s<|.z (.mkf (vs:=[.P pb1,.P pb2,.P pb3,.P pb4]))<|.z .asF<|.nil<|.ret ⟨.func (.func 53) #[] #[.P pb1,.P pb2,.P pb3,.P pb4],Res.one rfl rfl,⟨_,_,_,_,rfl,ok.n1.n2.n3⟩⟩
theorem wlive_any :
  Hc 11 #[] h (fun v h'=>v=.bool true/\Ext h h'):=by
 have ok:=Hp.nil h none_;refine HC.go Tryz.func11 136 ?_;refine .s<|.z .asB<|.nil<|.s<|.c' 21 .func (wsit_any (n:=0) (by decide)) ?_;rintro _ U1 ⟨so,F0,root,w1,Q1,rfl,hzs,hT1,hN1,hroot,q⟩;have ok:=ok.addML q;have hK1:True:=trivial;have hz1:w1.z=szF 0:=hzs;have hp1:=hT1.pre (n:=0) (by decide) (by decide) hz1;refine .z .mvU<|.z .ex<|.z .ex<|.z .asP<|.z .asI<|.nil<|.seq<|.s<|.z .mvP<|.z (.pEqS T.pt24)<|.z .mvB<|.z .mvP<|.z .mvI<|.a' 29 (.lit [.const (.int .u8 1)] (cs:=[.int .u8 1]) T.el35 T.sz5 T.zr5 ok ⟨rfl,trivial⟩) ?_;rintro _ U2 ⟨pb1,rfl,ok,xe⟩;have ok:=ok.cx (ys:=([1]:List UInt8).map bv) rfl;refine .c' 30 .func (tput_any (G:=(nG (decide (((0%2:Nat):Int)=1)))) (w:=w1) (key:=3) (bl:=[1]) (B:=16000) (Hp.locMB (ok.n1)) hT1 hp1.1 ⟨by decide,by decide⟩ (by decide) hN1 hp1.2.1 hp1.2.2.1 (by decide)) ?_;rintro _ U3 ⟨F2,w2,Q2,X2,D2,es2,tp2,cp2,rfl,hT2,hK2,hN2,q⟩;have ok:=(ok.n1).lift1 q;have hz2:w2.z=szF 0:=hK2.z.trans hz1;have hp2:=hT2.pre (n:=0) (by decide) (by decide) hz2;refine .z .neq<|.z .pkf<|.z .mvB<|.z .mvP<|.z .mvI<|.c' 36 .func (tput_any (G:=(nG (decide (((0%2:Nat):Int)=1)))) (w:=w2) (key:=5) (bl:=([]:List UInt8)) (B:=16000) ((ok).loc0.dE (rdI none_ none_ (none,0,0) ([]:List UInt8)) (RdL.nil _ _ _) (fun _ f=>f.elim id id)) hT2 hp2.1 ⟨by decide,by decide⟩ (by decide) hN2 hp2.2.1 hp2.2.2.1 (by decide)) ?_;rintro _ U4 ⟨F3,w3,Q3,X3,D3,es3,tp3,cp3,rfl,hT3,hK3,hN3,q⟩;have ok:=(ok).lift1 q;have hz3:w3.z=szF 0:=hK3.z.trans hz2;have hp3:=hT3.pre (n:=0) (by decide) (by decide) hz3;refine .z .neq<|.z .pkf<|.nil<|.cf<|.skip<|.s<|.z .mvP<|.z .mvI<|.c' 41 .func (wnew_any (so:=so) (root:=root)) ?_;rintro _ U5 ⟨cb,rfl,q⟩;have ok:=ok.addML q;refine .z .asP<|.nil<|.s<|.z .mvP<|.c' 44 .func (wto_any (on:=false) (key0:=0) (key:=4) ((Hp.lc2 (ok))) hT3 hp3.2.2.2) ?_;rintro _ U6 ⟨Fmm1,rfl,q⟩;have ok:=Hp.lf2 (ok) q;obtain ⟨ho44,hk44⟩:onO (geL 4 (putE (putE ([]:List En) 3 [1]) 5 ([]:List UInt8)))=true/\kyO (geL 4 (putE (putE ([]:List En) 3 [1]) 5 ([]:List UInt8)))=5:=by decide
 rw [ho44,hk44] at ok;rw [ho44];refine .z .mvU<|.z .ex<|.z .ex<|.z .asB<|.z .asI<|.nil<|.s<|.z .mvP<|.k 48 .func (wkey_any (on:=true) (key0:=5) ok.m0 (by decide))<|.z .asI<|.nil<|.s<|.z .mvP<|.c' 51 .func (wnext_any (on:=true) (key0:=5) ((Hp.lc2 (ok))) ⟨by decide,by decide⟩ hT3 hp3.2.2.2) ?_;rintro _ U7 ⟨Fmm2,rfl,q⟩;have ok:=Hp.lf2 (ok) q;obtain ⟨ho51,hk51⟩:onO (nxO true 5 (putE (putE ([]:List En) 3 [1]) 5 ([]:List UInt8)))=false/\kyO (nxO true 5 (putE (putE ([]:List En) 3 [1]) 5 ([]:List UInt8)))=0:=by decide
 rw [ho51,hk51] at ok;rw [ho51];refine .z .mvU<|.z .ex<|.z .ex<|.z .asB<|.z .asI<|.nil<|.s<|.z .mvP<|.c' 56 .func (wfirst_any (on:=false) (key0:=0) ((Hp.lc2 (ok))) hT3 hp3.2.2.2) ?_;rintro _ U8 ⟨Fmm3,rfl,q⟩;have ok:=Hp.lf2 (ok) q;obtain ⟨ho56,hk56⟩:onO (geL (-9223372036854775808) (putE (putE ([]:List En) 3 [1]) 5 ([]:List UInt8)))=true/\kyO (geL (-9223372036854775808) (putE (putE ([]:List En) 3 [1]) 5 ([]:List UInt8)))=3:=by decide
 rw [ho56,hk56] at ok;rw [ho56];refine .z .mvU<|.z .ex<|.z .ex<|.z .asB<|.z .asI<|.nil<|.s<|.z .mvP<|.z .mvI<|.c' 62 .func (tdrop_any (G:=(nG (decide (((0%2:Nat):Int)=1)))) (w:=w3) (key:=3) (B:=16000) ((ok.n1).loc0) hT3 hp3.1 ⟨by decide,by decide⟩ hN3 hp3.2.1 hp3.2.2.1 (by decide)) ?_;rintro _ U9 ⟨F4,w4,Q4,X4,D4,es4,tp4,cp4,rfl,hT4,hK4,hN4,q⟩;have ok:=(ok.n1).lift1 q;have hz4:w4.z=szF 0:=hK4.z.trans hz3;have hp4:=hT4.pre (n:=0) (by decide) (by decide) hz4;refine .z .mvU<|.z .ex<|.z .ex<|.z .asB<|.z .asI<|.nil<|.s<|.z .mvP<|.c' 67 .func (wvalue_any (on:=true) (key0:=3) ((Hp.lc2 (ok.n1))) hT4 hp4.2.2.2) ?_;rintro _ U10 ⟨Fvv1,xv1,cv1,rfl,q⟩;have ok:=Hp.lf2 (ok.n1) q;rw [show (((valO true 3 (delE (putE (putE ([]:List En) 3 [1]) 5 ([]:List UInt8)) 3)).2:Nat):Int)=4 from by decide];refine .z .mvU<|.z .ex<|.z .ex<|.z .asS<|.z .asI<|.nil<|.s<|.z .mvP<|.c' 72 .func (wnext_any (on:=true) (key0:=3) ((Hp.lc2 (ok.n2.n2))) ⟨by decide,by decide⟩ hT4 hp4.2.2.2) ?_;rintro _ U11 ⟨Fmm4,rfl,q⟩;have ok:=Hp.lf2 (ok.n2.n2) q;obtain ⟨ho72,hk72⟩:onO (nxO true 3 (delE (putE (putE ([]:List En) 3 [1]) 5 ([]:List UInt8)) 3))=true/\kyO (nxO true 3 (delE (putE (putE ([]:List En) 3 [1]) 5 ([]:List UInt8)) 3))=5:=by decide
 rw [ho72,hk72] at ok;rw [ho72];refine .z .mvU<|.z .ex<|.z .ex<|.z .asB<|.z .asI<|.nil<|.s<|.z .asP<|.nil<|.s<|.z .mvP<|.k 77 .func wfirstN_any<|.z .mvU<|.z .ex<|.z .ex<|.z .asB<|.z .asI<|.nil<|.s<|.z .mvB<|.z .mvB<|.z .mvI<|.z .eql<|.z .pkt<|.z .mvB<|.z .mvI<|.z .eql<|.z .pkt<|.z .mvB<|.z .mvB<|.z .not<|.z .pkt<|.z .mvB<|.z .mvI<|.z .eql<|.z .pkt<|.z .mvB<|.z .mvB<|.z .pkt<|.z .mvB<|.z .mvI<|.z .eql<|.z .pkt<|.z .mvB<|.z .mvI<|.z .eql<|.z .pkt<|.z .mvB<|.z .mvI<|.z .eql<|.z .pkt<|.z .mvB<|.z .mvB<|.z .pkt<|.z .mvB<|.z .mvI<|.z .eql<|.z .pkt<|.z .mvB<|.z .mvP<|.k 121 .func (wkey_any (on:=true) (key0:=5) ok.m0 (by decide))<|.z .eql<|.z .pkt<|.z .mvB<|.k 125 .func (wnewN_any (root:=1))<|.z (.pEqN T.pt44)<|.z .pkt<|.z .mvB<|.z .mvI<|.z .eql<|.z .pkt<|.z .mvB<|.c' 133 .func (wrange_any (s0:=none) (root:=1) (low:=0) (high:=9)) ?_;rintro _ U12 ⟨gsg1,grg1,glg1,ghg1,rfl,q⟩;have ok:=ok.addML q;refine .z (.fnNe Tryz.underlying33)<|.z .pkt<|.z .asB<|.nil<|.ret ⟨.bool true,Res.one rfl rfl,⟨rfl,ok.chg⟩⟩
end
open Go Go.HL
theorem wr_ok {w:St} {no:Nat} {b:List UInt8} (hi:w.in_=true) (h1:2<=no) (h2:no<=w.now.length+1) (h3:1<=w.now.length) (hb:b.length=w.z) (h4:no<=1048576) (h5:no*w.z<=16777216):w.write (no:Int) b=(⟨w.z,w.sure,w.in_,wth w.now no b,w.saves⟩,0):=by
 have h6:(no:Int)*(w.z:Int)<=16777216:=by rw [<-Int.natCast_mul];omega
 have h7:w.now≠[]:=fun e=>by rw [e] at h3;simp at h3
 unfold St.write;rw [if_neg (by rw [hi];decide),if_neg (by rintro (h | h | h | h);omega;omega;exact h7 h;exact h hb),if_neg (by rintro (h | h);omega;omega),Int.toNat_natCast]
section
variable {w:St} {root key0:Int} {h:Heap} {G:Pgr} {D F:Nat->Prop} {so cb:Nat} {on:Bool}
structure BadW (w:St) (root:Int):Prop where
 z:PgZ w
 a:1<=root
 b:root<=(w.pgs.length:Int)
 d:∀n,ndAt w.pgs root=some n->¬okW n
theorem nd_zer {k:Nat} {n:Nod} (h:decNd (List.replicate k 0)=some n):¬okW n:=by
 unfold decNd at h;split at h
 ·injection h with h;subst h;have:(ndOf (List.replicate k 0)).kind=0:=by
   show ((List.replicate k (0:UInt8)).getD 0 0).toNat=0;cases k<;>rfl
  unfold okW;omega
 ·cases h
theorem TW.spoil {Q:Trk} {X Y tp cp:List Int} {D:Nat} {es:List Cel} {l:List En} (t:TW w Q X Y root D es l tp cp) (hz:w.z=256) (hn:w.now.length<=16000):(w.write root (List.replicate 256 0)).2=0/\BadW (w.write root (List.replicate 256 0)).1 root:=by
 obtain ⟨hp,n,q,h1,h2,h3⟩:=t.rd;have hr:=h3 root (.inl rfl);obtain ⟨n',q',g1,g2,_,g4⟩:=t.t;have hr2:=t.o.rg (t.px.mem_iff.2 (qU _ (show root∈tp by rw [g4];simp)));obtain ⟨r,rfl⟩:∃r:Nat,root=(r:Int):=⟨root.toNat,by omega⟩;have hpg:=t.o.fr.pgs;rw [wr_ok t.o.fr.i (by omega) (by omega) t.o.fr.n1 (by rw [kW,hz]) (by omega) (by rw [hz];omega)];have hnow:(⟨w.z,w.sure,w.in_,wth w.now r (List.replicate 256 0),w.saves⟩:St).pgs=wth w.now r (List.replicate 256 0):=if_pos t.o.fr.i;refine ⟨rfl,⟨⟨hp.z,fun b hb=>?_,?_⟩,hr.1,?_,fun m hm=>?_⟩⟩
 ·rw [hnow] at hb;rcases wth_mem hb with rfl | hb
  ·rw [kW];exact hz.symm
  ·exact hp.l b (by rw [hpg];exact hb)
 ·rw [hnow,wth_len (by omega)];omega
 ·rw [hnow,wth_len (by omega)];omega
 ·rw [hnow] at hm;refine nd_zer (k:=256) (n:=m) ?_;rw [<-hm];unfold ndAt;congr 1;unfold wth;rw [if_neg (by omega),pageAt_eq (by omega) (by omega)]
theorem wlowB_any {key:Int} (ok:Hp h D [dsI G so F w] [] h) (hb:BadW w root) :
  Hc 64 #[.P so,.J root,.J 1,.J key] h (fun v h'=>∃F',v=.tuple #[.agg #[.J 0,.J 0,.J 0,.N,.J 0],.bool false,.J 14]/\Hp h D [dsI G so F' w] [] h'):=by
 refine HC.go Tryz.func64 87 ?_;refine .s<|.a' 8 (.alA T.zr113 ok) ?_;rintro _ U1 ⟨pb1,rfl,ok,xe⟩;refine .z .asB<|.z .asI<|.nil<|.s<|.z .mvP<|.z .mvI<|.z .mvI<|.c' 21 .func (wread_any (G:=G) (w:=w) (no:=root) (deep:=1) (Hp.lc1 (ok.n1)) hb.z hb.a hb.b (by omega)) ?_;rintro _ U2 (⟨F9,n9,x9,c9,E9,hr9,hkw,rfl,q⟩ | ⟨F9,hr9,rfl,q⟩)
 ·
  exact absurd hkw (hb.d _ hr9)
 have ok:=Hp.lf1 (ok.n1) q;refine .z .mvU<|.z .ex<|.z .ex<|.a' 11 (.alA T.zr116 ok) ?_;rintro _ U3 ⟨pb2,rfl,ok,xe⟩;refine .ur' (.stW (vs:=[.J 0,.N,.J 0]) T.sz116 ok (oneL rfl)) ?_;rintro U4 ⟨ok,cg⟩;refine .z .asI<|.nil<|.seq<|.s<|.z .mvI<|.z .neq<|.nil<|.ct<|.s<|.z (.bd #[.J 0,.J 0,.J 0,.N,.J 0] T.zr113 T.pl113 rfl)<|.z .mvI<|.ur' (.stW (vs:=[.J 0,.J 0,.J 0,.N,.J 0]) T.sz113 ok.n2 (oneL rfl)) ?_;rintro U5 ⟨ok,cg⟩;refine .z .asB<|.z .asI<|.nil<|.ret ⟨.tuple #[.agg #[.J 0,.J 0,.J 0,.N,.J 0],.bool false,.J 14],Res.many (vs:=[.agg #[.J 0,.J 0,.J 0,.N,.J 0],.bool false,.J 14]) rfl ⟨⟨_,rfl,load_ag T.ag113 ok.m0 T.sz113⟩,rfl,rfl,trivial⟩ rfl,⟨F9,rfl,(ok.n2).k1⟩⟩
theorem wstandB_any :
  Hc 63 #[.P cb,.agg #[.J 0,.J 0,.J 0,.N,.J 0],.bool false,.J 14] h (fun v h'=>v=.tuple #[.bool false,.J 14]/\Ext h h'):=by
 have ok:=Hp.nil h none_;refine HC.go Tryz.func63 23 ?_;refine .s<|.a' 5 (.bxA (cs:=[.J 0,.J 0,.J 0,.N,.J 0]) ok) ?_;rintro _ U1 ⟨pb1,rfl,ok,xe⟩;refine .z .asB<|.z .asI<|.nil<|.seq<|.s<|.z .mvI<|.z .neq<|.nil<|.ct<|.s<|.z .mvI<|.z .asB<|.z .asI<|.nil<|.ret ⟨.tuple #[.bool false,.J 14],Res.two rfl rfl rfl,⟨rfl,ok.chg⟩⟩
theorem wtoB_any {key:Int} (ok:Hp h D [boxI cb 124 [.P so,.J root,.bool on,.J key0],dsI G so F w] [] h) (hb:BadW w root) :
  Hc 19 #[.P cb,.J key] h (fun v h'=>∃F',v=.tuple #[.bool false,.J 14]/\Hp h D [boxI cb 124 [.P so,.J root,.bool on,.J key0],dsI G so F' w] [] h'):=by
 refine HC.go Tryz.func19 25 ?_;refine .s<|.z .asB<|.z .asI<|.nil<|.seq<|.s<|.z .mvP<|.z (.pEqS T.pt44)<|.nil<|.cf<|.skip<|.seq<|.a 10 (fun fl hh=>cond fl True (Hp h D [boxI cb 124 [.P so,.J root,.bool on,.J key0],dsI G so F w] [] hh)) mixed ?_;have hS:=ok;refine .g 0 false rfl 8 hS (fun _=>.mvP)<|.g 1 false rfl 9 hS (fun _=>.mvP)<|.g 2 false rfl 10 hS (fun _=>.nil)<|.g 3 false rfl 11 hS (fun _=>.fa T.fd124_0)<|.l 4 false rfl 12 hS (fun _ hS=>.ldx T.ag24 hS.m0)<|.g 5 false rfl 13 hS (fun _=>.mvP)<|.g 6 false rfl 14 hS (fun _=>.nil)<|.g 7 false rfl 15 hS (fun _=>.fa T.fd124_1)<|.l 8 false rfl 16 hS (fun _ hS=>.ldx T.ag3 hS.m0)<|.g 9 false rfl 17 hS (fun _=>.mvI)<|.o1 10<|.c' true rfl 18 .func (wlowB_any (key:=key) ((Hp.lc1 (ok.n1))) hb) ?_;rintro _ U1 ⟨F8,rfl,q⟩;have ok:=Hp.lf1 (ok.n1) q;refine ⟨trivial,?_⟩;refine .g 11 true rfl 19 trivial (fun _=>.ex)<|.g 12 true rfl 20 trivial (fun _=>.ex)<|.g 13 true rfl 21 trivial (fun _=>.ex)<|.o1 14<|.c' true rfl 22 .func (wstandB_any (cb:=cb)) ?_;rintro _ U2 ⟨rfl,hx⟩;have ok:=ok.ext hx;refine ⟨trivial,?_⟩;refine .g 15 true rfl 23 trivial (fun _=>.ex)<|.g 16 true rfl 24 trivial (fun _=>.ex)<|.g 17 true rfl 4 trivial (fun _=>.asB)<|.g 18 true rfl 5 trivial (fun _=>.asI)<|.e ?_;refine .ret ⟨.tuple #[.bool false,.J 14],Res.two rfl rfl rfl,⟨F8,rfl,(ok.n1).k2⟩⟩
theorem wfirstB_any (ok:Hp h D [boxI cb 124 [.P so,.J root,.bool on,.J key0],dsI G so F w] [] h) (hb:BadW w root) :
  Hc 23 #[.P cb] h (fun v h'=>∃F',v=.tuple #[.bool false,.J 14]/\Hp h D [boxI cb 124 [.P so,.J root,.bool on,.J key0],dsI G so F' w] [] h'):=by
 refine HC.go Tryz.func23 8 ?_;refine .s<|.z .asB<|.z .asI<|.nil<|.s<|.z .mvP<|.c' 5 .func (wtoB_any (on:=on) (key0:=key0) (key:=(-9223372036854775808)) ((Hp.lc2 (ok))) hb) ?_;rintro _ U1 ⟨Fb1,rfl,q⟩;have ok:=Hp.lf2 (ok) q;refine .z .ex<|.z .ex<|.z .asB<|.z .asI<|.nil<|.ret ⟨.tuple #[.bool false,.J 14],Res.two rfl rfl rfl,⟨Fb1,rfl,(ok).k2⟩⟩
theorem wnextB_any (ok:Hp h D [boxI cb 124 [.P so,.J root,.bool on,.J key0],dsI G so F w] [] h) (hb:BadW w root) (hk:key0≠9223372036854775807) (hk2:i64K key0) (hz:on=false->key0=0) :
  Hc 22 #[.P cb] h (fun v h'=>∃F' e',v=.tuple #[.bool false,.J e']/\(on=true->e'=14)/\Hp h D [boxI cb 124 [.P so,.J root,.bool on,.J key0],dsI G so F' w] [] h'):=by
 obtain ⟨hk3,hk4⟩:=hk2;refine HC.go Tryz.func22 33 ?_;refine .s<|.z .asB<|.z .asI<|.nil<|.seq<|.block fun K0 hK0=>.s<|.z .mvP<|.z (.pEqS T.pt44)<|.z .asB<|.nil<|.cf<|.seq<|.join (fun s hh=>∃(bb:Bool),Has s [(0,.P cb),(7,.bool bb)]/\Hp h D [boxI cb 124 [.P so,.J root,.bool on,.J key0],dsI G so F w] [] hh/\(bb=true->on=false)) ?_ ?_
 ·
  refine .r<|.z .mvP<|.z .nil<|.z (.fa T.fd124_2)<|.z (.ldx T.ag4 ok.m0)<|.z .not<|.z .mvB<|.spl (fun G13=>?_) (fun G13=>?_)
  ·
   refine .y<|.y<|.y<|.y<|.y<|.z .pkt<|.z .asB<|.nil<|.end<|⟨_,⟨rfl,rfl,trivial⟩,ok.n1.n1,by simp_all⟩
  refine .z .mvP<|.z .nil<|.z (.fa T.fd124_3)<|.z (.ldx T.ag2 ok.m0)<|.z .eql<|.z .pkf<|.z .asB<|.nil<|.end<|⟨_,⟨rfl,rfl,trivial⟩,ok.n1.n1,by simp_all⟩
 rintro s U1 ⟨bb,hs,ok,hbb⟩;refine .frame hs fun τ=>?_;refine .cond (fun C1=>?_) (fun C1=>?_)
 ·
  have ho:=hbb C1;refine .s<|.z .mvP<|.c' 21 .func (wnow_any ((Hp.lc1 (ok)))) ?_;rintro _ U2 ⟨rfl,q⟩;have ok:=Hp.lf1 (ok) q;refine .z .ex<|.z .ex<|.z .asB<|.z .asI<|.nil<|.ret ⟨.tuple #[.bool false,.J 0],Res.two rfl rfl rfl,⟨F,0,rfl,fun h=>(by rw [ho] at h;cases h),by rw [ho,hz ho];exact (ok).k2⟩⟩
 refine .skip<|.end<|hK0 _ _<|.s<|.z .mvP<|.z .mvP<|.z .nil<|.z (.fa T.fd124_3)<|.z (.ldx T.ag2 ok.m0)<|.z .add<|.c' 30 .func (wtoB_any (on:=on) (key0:=key0) (key:=(key0+1)) ((Hp.lc2 (ok))) hb) ?_;rintro _ U3 ⟨Fb1,rfl,q⟩;have ok:=Hp.lf2 (ok) q;refine .z .ex<|.z .ex<|.z .asB<|.z .asI<|.nil<|.ret ⟨.tuple #[.bool false,.J 14],Res.two rfl rfl rfl,⟨Fb1,14,rfl,fun _=>rfl,(ok).k2⟩⟩
theorem wentB_any {lo hi:Int} (ok:Hp h D [dsI G so F w] [] h) (hb:BadW w root) :
  Hc 54 #[.P so,.J root,.J lo,.J hi] h (fun v h'=>∃F',v=.N/\Hp h D [dsI G so F' w] [] h'):=by
 refine HC.go Tryz.func54 59 ?_;refine .s<|.z .asS<|.nil<|.s<|.z .asS<|.nil<|.s<|.z .mvP<|.z .mvI<|.c' 17 .func (wnew_any (so:=so) (root:=root)) ?_;rintro _ U1 ⟨cb,rfl,q⟩;have ok:=ok.addML q;refine .z .asP<|.nil<|.s<|.z .mvP<|.z .mvI<|.c' 21 .func (wtoB_any (on:=false) (key0:=0) (key:=lo) ((Hp.lc2 (ok))) hb) ?_;rintro _ U2 ⟨Fb1,rfl,q⟩;have ok:=Hp.lf2 (ok) q;refine .z .mvU<|.z .ex<|.z .ex<|.z .asB<|.z .asI<|.nil<|.seq<|.block fun K0 hK0=>.loop (fun m s hh=>∃(F7:Nat->Prop),Has s [(3,.J hi),(9,.N),(10,.P cb),(11,.bool false),(12,.J 14)]/\Hp h D [dsI G so F7 w] [] hh/\m=0) ?_ ?_
 ·exact ⟨_,Fb1,⟨rfl,rfl,rfl,rfl,rfl,trivial⟩,(ok.n1).k1,rfl⟩
 rintro _ _ U3 ⟨F7,hs,ok,rfl⟩ J0 hJ0;refine .frame hs fun τ=>?_;refine .seq<|.s<|.z .mvB<|.z .mvB<|.y<|.y<|.z .pkf<|.z .mvB<|.y<|.y<|.y<|.y<|.y<|.y<|.z .pkf<|.nil<|.cf<|.exit<|hK0 _ _<|.s<|.z .mvS<|.z .asS<|.nil<|.ret ⟨.N,Res.one rfl rfl,⟨F7,rfl,(ok).k1⟩⟩
theorem wrngB_any {yq b1 b2 b3 b4:Nat} {lo hi:Int} (ok:Hp h D [dsI G so F w,boxI b1 24 [.P so],boxI b2 3 [.J root],boxI b3 2 [.J lo],boxI b4 2 [.J hi]] [] h) (hb:BadW w root) :
  Hc 53 #[.func (.yield yq) #[] #[],.P b1,.P b2,.P b3,.P b4] h (fun _ h'=>∃F',Hp h D [dsI G so F' w,boxI b1 24 [.P so],boxI b2 3 [.J root],boxI b3 2 [.J lo],boxI b4 2 [.J hi]] [] h'):=by
 refine HC.go Tryz.func53 23 ?_;refine .s<|.z (.ldx T.ag24 ok.m1)<|.z (.ldx T.ag3 ok.m2)<|.z (.ldx T.ag2 ok.m3)<|.z (.ldx T.ag2 ok.m4)<|.c' 12 .func (wentB_any (lo:=lo) (hi:=hi) ((Hp.lc1 (ok))) hb) ?_;rintro _ U1 ⟨F8,rfl,q⟩;have ok:=Hp.lf1 (ok) q;refine .z (.len T.el28)<|.z .mvI<|.nil<|.block fun K0 hK0=>.loop (fun m s hh=>∃(F7:Nat->Prop),Has s [(0,(.func (.yield yq) #[] #[])),(12,.N),(13,.J 0),(14,.J 0)]/\Hp h D [dsI G so F7 w,boxI b1 24 [.P so],boxI b2 3 [.J root],boxI b3 2 [.J lo],boxI b4 2 [.J hi]] [] hh/\m=0) ?_ ?_
 ·exact ⟨_,F8,⟨rfl,rfl,rfl,rfl,trivial⟩,ok.n4.n4.n4.n4.n4,rfl⟩
 rintro _ _ U2 ⟨F7,hs,ok,rfl⟩ J0 hJ0;refine .frame hs fun τ=>?_;refine .s<|.z .lss<|.nil<|.seq<|.cf<|.exit<|hK0 _ _<|.end<|⟨.tuple #[],Res.none rfl,⟨F7,(ok).k5⟩⟩
end
open Go Go.HL
theorem geL_mem {k:Int} {l:List En} {e:En} (h:geL k l=some e):e∈l:=List.mem_of_find?_eq_some h
theorem onky {o:Option En} : onO o=false->kyO o=0:=by
 cases o with
 | none=>intro _;rfl
 | some e=>intro h;cases h
theorem geL_k {k:Int} {rs:List RE} {o:Option En} (h:geL k (rs.map RE.e)=o) (hk:∀x∈rs,i64K x.key):i64K (kyO o):=by
 cases o with
 | none=>exact ⟨by decide,by decide⟩
 | some e=>obtain ⟨x,hx,rfl⟩:=kS.1 (geL_mem h);exact hk x hx
theorem walkSpoilt_walk {h:Heap} {a:Option Addr} {c:Nat} {l:List AcR} {key:Int} (hl:Sl h 4 (.slice a l.length c) (l.flatMap AcR.cells)) (hlc:l.length<=c/\c<=9223372036854775807) (hal:∀x∈l,i64K x.key) :
  Hc 4 #[.slice a l.length c,.J key] h (fun v h'=>v=.bool true/\Ext h h'):=by
 have ok:=(Hp.nil h none_).old (rowI 4 (a,l.length,c) (l.flatMap AcR.cells)) hl (blk_lt (by omega) hl);refine HC.goR Tryz.func4 115 ?_;refine .seq<|.lift<|.r<|.a' 4 (.alB T.zr4 ok) ?_;rintro _ U1 ⟨pb1,rfl,ok,xe⟩;refine .nil ?_;refine .end<|HSD.on<|.seq<|.lift<|.r<|.c' 20 .func (wsit_any (n:=0) (by decide)) ?_;rintro _ U2 ⟨so,F0,root,w1,Q1,rfl,hzs,hT1,hN1,hroot,q⟩;have ok:=ok.addML q;have hK1:True:=trivial;have hz1:w1.z=szF 0:=hzs;have hp1:=hT1.pre (n:=0) (by decide) (by decide) hz1;refine .z .mvU<|.z .ex<|.z .ex<|.z .asP<|.z .asI<|.nil<|.end<|HSD.on<|.seq<|.seq<|.lift<|.r<|.z .mvP<|.z (.pEqS T.pt24)<|.z .mvB<|.c' 26 .func wlive_any ?_;rintro _ U3 ⟨rfl,hx⟩;have ok:=ok.ext hx;refine .z .not<|.z .pkf<|.z .mvB<|.z .mvS<|.z (.len T.el22)<|.z .gtr<|.z .pkf<|.nil<|.end<|HSD.on<|.lift<|.cd (fun C0=>?_) (fun C0=>?_)
 ·
  refine .s<|.z .mvP<|.z (.pNeS T.pt24)<|.z .mvB<|.c' 37 .func wlive_any ?_;rintro _ U4 ⟨rfl,hx⟩;have ok:=ok.ext hx;refine .z .pkt<|.ur' (.stB T.sz4 ok.n1) ?_;rintro U5 ⟨ok,cg⟩;refine .nil ?_;refine .ret ⟨.bool true,Res.many (vs:=[.bool true]) rfl ⟨⟨_,rfl,load_1 T.ag4 ok.m0⟩,trivial⟩ rfl,⟨rfl,ok.chg⟩⟩
 refine .skip<|.end<|HSD.on<|.seq<|.lift<|.r<|.z .mvP<|.z .mvI<|.z .mvS<|.c' 43 .func (wfill_any (n:=0) ((Hp.lc1 (ok)).sub (R':=[rowI 4 (a,l.length,c) (l.flatMap AcR.cells)]) (by simp)) hlc (by omega) hal ⟨hT1,hz1,hN1,qL _,by simp,by simp⟩) ?_;rintro _ U6 ⟨F2,w2,Q2,X2,D2,es2,tp2,cp2,rs,Er,xa,ca,rfl,hfi,q⟩;have ok:=Hp.lf1 (ok) q;have hT2:=hfi.t;have hN2:=hfi.n;have hrl:=hfi.l;have hz2:w2.z=szF 0:=hfi.z;have hp2:=hT2.pre (n:=0) (by exact fun e he=>(by obtain ⟨x,hx,rfl⟩:=kS.1 he;exact hfi.m x hx)) (by rw [qM];omega) hz2;refine .z .mvU<|.z .ex<|.z .ex<|.z .asS<|.z .asB<|.nil<|.end<|HSD.on<|.seq<|.seq<|.lift<|.r<|.z .mvB<|.z .not<|.nil<|.end<|HSD.on<|.lift<|.cf<|.skip<|.end<|HSD.on<|.seq<|.lift<|.r<|.z .mvP<|.z .mvI<|.c' 50 .func (wnew_any (so:=so) (root:=root)) ?_;rintro _ U7 ⟨cb,rfl,q⟩;have ok:=ok.addML q;refine .z .asP<|.nil<|.end<|HSD.on<|.seq<|.lift<|.r<|.z .mvP<|.z .mvI<|.c' 54 .func (wto_any (on:=false) (key0:=0) (key:=key) ((Hp.lc2 (ok.n3.n1)).e0) hT2 hp2.2.2.2) ?_;rintro _ U8 ⟨Fmm1,rfl,q⟩;have ok:=Hp.lf2 (ok.n3.n1) q;obtain ⟨o9,ho9⟩:∃o9,geL key (rs.map RE.e)=o9:=⟨_,rfl⟩;have hk9:=geL_k ho9 hfi.k;rw [ho9] at ok;rw [ho9];refine .z .mvU<|.z .ex<|.z .ex<|.z .asB<|.z .asI<|.nil<|.end<|HSD.on<|.seq<|.lift<|.r<|.z .mvP<|.k 58 .func (wkey_any (on:=(onO o9)) (key0:=(kyO o9)) ok.m0 onky)<|.z .asI<|.nil<|.end<|HSD.on<|.seq<|.seq<|.lift<|.r<|.z .mvI<|.z .eql<|.nil<|.end<|HSD.on<|.lift<|.cd (fun C2=>?_) (fun C2=>?_)
 ·
  refine .s<|.c' 61 .func wlive_any ?_;rintro _ U9 ⟨rfl,hx⟩;have ok:=ok.ext hx;refine .ur' (.stB T.sz4 ok.n4) ?_;rintro U10 ⟨ok,cg⟩;refine .nil ?_;refine .ret ⟨.bool true,Res.many (vs:=[.bool true]) rfl ⟨⟨_,rfl,load_1 T.ag4 ok.m0⟩,trivial⟩ rfl,⟨rfl,ok.chg⟩⟩
 refine .skip<|.end<|HSD.on<|.seq<|.seq<|.lift<|.r<|.z .mvI<|.z .neq<|.z .mvB<|.z .mvP<|.z .mvI<|.a' 67 (.mks 256 256 T.el35 T.sz5 T.by5 T.zr5 ok) ?_;rintro _ U11 ⟨pb2,rfl,ok,xe⟩;have ok:=ok.cx (ys:=(List.replicate 256 (0:UInt8)).map bv) (zeros8 _);refine .c' 68 .func (sWriteC_any (G:=(nG (decide (((0%2:Nat):Int)=1)))) (w:=w2) (no:=root) (l:=(List.replicate 256 (0:UInt8))) (ok.n2) (by decide)) ?_;rintro _ U12 ⟨F7,rfl,q⟩;obtain ⟨hw7,hbw⟩:=hT2.spoil (by rw [hz2];rfl) hN2;have ok:=(ok.n2).lift1 q;rw [hw7];generalize (w2.write root (List.replicate 256 0)).1=w7 at ok hbw;refine .z .neq<|.z .pkf<|.nil<|.end<|HSD.on<|.lift<|.cf<|.skip<|.end<|HSD.on<|.seq<|.lift<|.r<|.z .mvP<|.c' 73 .func (wnextB_any (on:=onO o9) (key0:=kyO o9) ((Hp.lc2 (ok.n2)).e0) hbw C2 hk9 onky) ?_;rintro _ U13 ⟨Fb1,e9,rfl,he9,q⟩;have ok:=Hp.lf2 (ok.n2) q;refine .z .mvU<|.z .ex<|.z .ex<|.z .asB<|.z .asI<|.nil<|.end<|HSD.on<|.seq<|.lift<|.r<|.z .mvP<|.c' 78 .func (wfirstB_any (on:=onO o9) (key0:=kyO o9) ((Hp.lc2 (ok)).e0) hbw) ?_;rintro _ U14 ⟨Fb2,rfl,q⟩;have ok:=Hp.lf2 (ok) q;refine .z .mvU<|.z .ex<|.z .ex<|.z .asB<|.z .asI<|.nil<|.end<|HSD.on<|.seq<|.lift<|.r<|.z .mvP<|.z .mvI<|.c' 84 .func (wtoB_any (on:=onO o9) (key0:=kyO o9) (key:=key) ((Hp.lc2 (ok)).e0) hbw) ?_;rintro _ U15 ⟨Fb3,rfl,q⟩;have ok:=Hp.lf2 (ok) q;refine .z .mvU<|.z .ex<|.z .ex<|.z .asB<|.z .asI<|.nil<|.end<|HSD.on<|.seq<|.seq<|.lift<|.join (fun s hh=>∃(bb:Bool),Has s [(0,.slice a l.length c),(4,.P pb1),(5,.P so),(6,.J root),(7,.slice xa rs.length ca),(105,.bool bb)]/\Hp h none_ [boxI cb 124 [.P so,.J root,.bool (onO o9),.J (kyO o9)],dsI (nG (decide (((0%2:Nat):Int)=1))) so Fb3 w7,capI 1 5 (some ⟨pb2,0,none⟩,256,256) ((List.replicate 256 (0:UInt8)).map bv),capI 2 37 (xa,rs.length,ca) (rs.flatMap RE.cells),rbI Er rs,boxI pb1 4 [.bool false]] [rowI 4 (a,l.length,c) (l.flatMap AcR.cells)] hh/\bb=false) ?_ ?_
 ·
  refine .r<|.z .mvB<|.z .mvB<|.spl (fun G88=>?_) (fun G88=>?_)
  ·
   refine .z .mvI<|.z .neq<|.z .pkt<|.z .mvB<|.sd (fun G92=>?_) (fun G92=>?_)
   ·
    refine .y<|.y<|.z .pkt<|.z .mvB<|.y<|.y<|.z .pkt<|.z .mvB<|.y<|.y<|.y<|.y<|.z .pkt<|.nil<|.end<|⟨_,⟨rfl,rfl,rfl,rfl,rfl,rfl,trivial⟩,ok.n5.n5.n5.n5.n5.n5,by first | rfl | exact absurd (he9 (by simpa using G88)) G92 | simp⟩
   refine .z .mvI<|.z .neq<|.z .pkf<|.z .mvB<|.z .mvI<|.z .neq<|.z .pkf<|.z .mvB<|.z .mvP<|.k 102 .func (wkey_any (on:=(onO o9)) (key0:=(kyO o9)) ok.m0 onky)<|.z .mvI<|.z .neq<|.z .pkf<|.nil<|.end<|⟨_,⟨rfl,rfl,rfl,rfl,rfl,rfl,trivial⟩,ok.n5.n5.n5.n5.n5.n5,by first | rfl | exact absurd (he9 (by simpa using G88)) G92 | simp⟩
  refine .y<|.y<|.z .pkf<|.z .mvB<|.z .mvI<|.z .neq<|.z .pkf<|.z .mvB<|.z .mvI<|.z .neq<|.z .pkf<|.z .mvB<|.z .mvP<|.k 102 .func (wkey_any (on:=(onO o9)) (key0:=(kyO o9)) ok.m0 onky)<|.z .mvI<|.z .neq<|.z .pkf<|.nil<|.end<|⟨_,⟨rfl,rfl,rfl,rfl,rfl,rfl,trivial⟩,ok.n5.n5.n5.n5.n5.n5,by first | rfl | exact absurd (he9 (by simpa using G88)) G92 | simp⟩
 rintro s U16 ⟨bb,hs,ok,hbb⟩;refine .frame hs fun τ=>?_;refine .end<|HSD.on<|.lift<|.cond (fun C4=>?_) (fun C4=>?_)
 ·
  refine .s<|.ur' (.stB T.sz4 ok.n5) ?_;rintro U17 ⟨ok,cg⟩;refine .nil ?_;refine .ret ⟨.bool false,Res.many (vs:=[.bool false]) rfl ⟨⟨_,rfl,load_1 T.ag4 ok.m0⟩,trivial⟩ rfl,(by rw [hbb] at C4;cases C4)⟩
 refine .skip<|.end<|HSD.on<|.seq<|.seq<|.lift<|.r<|.z .mvP<|.z .mvI<|.c' 108 .func (wrange_any (s0:=(some ⟨so,0,none⟩)) (root:=root) (low:=(-9223372036854775808)) (high:=9223372036854775807)) ?_;rintro _ U18 ⟨gsg1,grg1,glg1,ghg1,rfl,q⟩;have ok:=ok.addML q;refine .nil ?_;refine .end<|HSD.on<|.rg' (lb:=[.P gsg1,.P grg1,.P glg1,.P ghg1]) fun lc l1 D1 U19 hlc hxr hsr hl1 hD1 hlp hdf=>?_?_;have ok:=ok.rgNew' hxr hsr hl1 hD1 hlp hdf;refine HC.mono (wrngB_any ((Hp.lc5 (ok.n5.n5.n5.n5.n7)).e0) hbw) ?_;rintro _ U20 ⟨Fl,q⟩;have ok:=Hp.lf5 (ok.n5.n5.n5.n5.n7) q;refine ⟨.ready,none,by decide,ok.m5,fun U21 cgl szl=>?_⟩;have ok:=(ok.n5).lpEnd cgl;show HS none _ _ _ _ _ _;refine .s<|.z .mvS<|.z (.len T.el28)<|.z .mvS<|.z (.len T.el22)<|.z .leq<|.ur' (.stB T.sz4 ok.n10) ?_;rintro U22 ⟨ok,cg⟩;refine .nil ?_;refine .ret ⟨D1,rfl,ok.m6,fun U23 cgd szd=>?_⟩;have ok:=(ok.n6).df cgd;refine ⟨.bool (decide ((rs.length:Int)<=(l.length:Int))),Res.many (vs:=[.bool (decide ((rs.length:Int)<=(l.length:Int)))]) rfl ⟨⟨_,rfl,load_1 T.ag4 ok.m0⟩,trivial⟩ rfl,⟨by rw [decide_eq_true (by omega)],ok.chg⟩⟩
end Go.Proofs.YtfegfklipbnhjaaGreat
namespace Go.HL
open Go Go.RowKit Go.ChangeShapes Go.WideShapes Go.ChangeAt
theorem Below.of {w w':World} {h':Heap} (a:At (Env.of w) h' w') (x:Ext w.heap h'):Below w.heap.size w w':=
 ⟨a.os,a.tape,a.output,by rw [a.heap];exact x.size,fun k hk=>by rw [a.heap];exact x.same k hk fun f=>f⟩
theorem trodAll_below {H:Type} {enc:TypeId × Value->H} {P:Program} (hl:laidOutB P=true) {W W':World} (hb:Below W.heap.size W W'):∀ {ts:List TypeId} {vs:List Value} {ds:List (DataW H)} {ps:List MemPlace},
  (ts.all fun t=>P.readableRec t && decide (t<P.types.size))=true->(∀x∈ps,x.block<W.heap.size)->DataW.TrodAll enc P W 0 (fun _=>true) true ts vs ds ps->DataW.TrodAll enc P W' 0 (fun b=>decide (b<W.heap.size)) true ts vs ds ps
 | [],[],[],_,_,_,h=>h
 | t::ts,v::vs,d::ds,ps,ht,hp,h=>by
  obtain ⟨p,q,h1,h2,rfl⟩:=h;simp only [List.all_cons,Bool.and_eq_true,decide_eq_true_eq] at ht;exact ⟨p,q,RowKit.Below.trod hl ht.1.1 ht.1.2 h1 hb (fun x hx=>hp x (qU _ hx)),trodAll_below hl hb (by simpa using ht.2) (fun x hx=>hp x (qI _ hx)) h2,rfl⟩
 | [],[],_::_,_,_,_,h=>h.elim
 | [],_::_,_,_,_,_,h=>h.elim
 | _::_,[],_,_,_,_,h=>h.elim
 | _::_,_::_,[],_,_,_,h=>h.elim
theorem law_post {H:Type} {enc:TypeId × Value->H} {P:Program} {f:Func} {s:ChangeSpec} {fresh handsOn:Bool} {W W':World} {args:Array Value} {ds gs:List (DataW H)} {before:List MemPlace} {tb:TypeId}
  (hl:laidOutB P=true) (hW:DataW.Whole enc P f.params.toList s.vars false W args.toList ds gs before) (hv:s.vars=[]) (ht:(f.params.toList.all fun t=>P.readableRec t && decide (t<P.types.size))=true)
  (hr:f.resultTypes = #[tb]) (hb:P.underlying tb=some .bool) (hs:s.fn H ds = { results:=[.lit (.bool true)],args:=ds }) {h':Heap} (a:At (Env.of W) h' W') (x:Ext W.heap h') :
  s.post enc P f false fresh handsOn false W args (.bool true) W':=by
 have bel:=Below.of a x;have hlt:=hW.lt;obtain ⟨p,q,hA,hV,rfl,hfz,hnd⟩:=hW;rw [hv] at hV;cases gs with
 | cons g gs=>exact hV.elim
 | nil=>
  have hq:q=[]:=hV;subst hq;rw [kX] at *;refine ⟨ds,[],p,[],p,[],⟨p,[],hA,by rw [hv];rfl,by simp,hfz,hnd⟩,?_,?_,?_,bel.frame _,fun h=>by cases h⟩
  ·rw [kX,hs,hr];exact trodAll_mk1 (shut_bool hb _)
  ·rw [kX,hs];exact trodAll_below hl bel ht (fun x hx=>hlt x (by simpa using hx)) hA
  ·rw [kX,hs,hv];rfl
theorem addr_add (b o j:Nat):(⟨b,o,none⟩:Addr).add j=⟨b,o+j,none⟩:=by unfold Addr.add;split<;>simp_all
theorem byte_val {z:Int} (w:(Lit.int .u8 z).wf=true):∃x:UInt8,z=(x.toNat:Int):=by
 have hr:0<=z/\z<=255:=by simpa [Lit.wf,IntKind.min,IntKind.max,IntKind.signed,IntKind.bits] using w
 refine ⟨UInt8.ofNat z.toNat,?_⟩;simp;omega
structure Opn (P:Program) (t:TypeId) {α:Type} (R:Heap->List Value->α->Prop):Prop where
 run:∀ {H:Type} {enc:TypeId × Value->H} {w:World} {sp:Nat->Bool} {held:Bool} {fuel:Nat} {cs:List Value} {x:DataW H × List MemPlace},DataW.trod enc P w 0 sp held fuel t cs=some x->∃a,R w.heap cs a
section
variable {P:Program} {t e:TypeId}
theorem Opn.mono {α β:Type} {R:Heap->List Value->α->Prop} {R':Heap->List Value->β->Prop} (o:Opn P t R) (h:∀hp cs a,R hp cs a->∃b,R' hp cs b):Opn P t R':=⟨fun hx=>let ⟨a,ha⟩:=o.run hx;h _ _ a ha⟩
theorem Opn.i64 (ht:P.underlying t=some (.int .i64)):Opn P t (fun _ cs (z:Int)=>cs=[.int .i64 z]/\-9223372036854775808<=z/\z<=9223372036854775807):=⟨fun hx=>by
 obtain ⟨n,rfl,_,hw⟩:=DataW.trod_int ht hx;exact ⟨n,rfl,by simpa [Lit.wf,IntKind.min,IntKind.max,IntKind.signed,IntKind.bits] using hw⟩⟩
theorem Opn.u8 (ht:P.underlying t=some (.int .u8)):Opn P t (fun _ cs (x:UInt8)=>cs=[bv x]):=⟨fun hx=>by
 obtain ⟨n,rfl,_,hw⟩:=DataW.trod_int ht hx;obtain ⟨x,rfl⟩:=byte_val hw;exact ⟨x,rfl⟩⟩
theorem cells_spot {w:World} {base k:Nat} {b o:Nat} {spot:_} {cs:List Value} (h:w.cells? base ((⟨b,o,spot⟩:Addr).add (0*k)) k=some cs) (hk:0<k):spot=none:=by
 obtain ⟨_,h1,h2⟩:=World.cells?_some h;obtain ⟨c,hc⟩:∃c,cs[0]? = some c:=⟨cs[0],by simp [h1,hk]⟩;have h3:=h2 0 hk;rw [hc] at h3;have h4:=World.cell?_spot h3;simpa [Addr.add] using h4
theorem cells_at {w:World} {base k:Nat} {b o i:Nat} {cs:List Value} (h:w.cells? base ((⟨b,o,none⟩:Addr).add (i*k)) k=some cs):cs.length=k/\∀j v,cs[j]? = some v->cell w.heap b (o+i*k+j)=some v:=by
 obtain ⟨_,h1,h2⟩:=World.cells?_some h;refine ⟨h1,fun j v hv=>?_⟩;have hj:j<k:=by have:=(List.getElem?_eq_some_iff.1 hv).1;omega
 have h3:=h2 j hj;rw [hv,addr_add,addr_add,cell?_eq] at h3;exact h3
theorem choose_lists {α β:Type} {R:Nat->β->α->Prop} : ∀(n:Nat),(∀i,i<n->∃y z,R i y z)->∃(os:List β) (l:List α),os.length=n/\l.length=n/\∀i (h1:i<os.length) (h2:i<l.length),R i os[i] l[i]
 | 0,_=>⟨[],[],rfl,rfl,fun i h=>absurd h (by simp)⟩
 | n+1,each=>by
  obtain ⟨os,l,g1,g2,g3⟩:=choose_lists n (fun i hi=>each i (by omega));obtain ⟨y,z,g4⟩:=each n (by omega);refine ⟨os++[y],l++[z],by simp [g1],by simp [g2],fun i h1 h2=>?_⟩;by_cases hi:i<n
  ·have e1:(os++[y])[i]=os[i]'(by omega):=List.getElem_append_left (by omega);have e2:(l++[z])[i]=l[i]'(by omega):=List.getElem_append_left (by omega);rw [e1,e2];exact g3 i _ _
  ·have hi':i=n:=by simp [g1] at h1;omega
   subst hi';have e1:(os++[y])[i]=y:=by simp [g1]
   have e2:(l++[z])[i]=z:=by simp [g2]
   rw [e1,e2];exact g4
theorem Opn.slice {α β:Type} {f:β->List Value} {Q:Heap->β->α->Prop} {k:Nat} (ht:P.underlying t=some (.slice e)) (hk:P.cellsOf e=k) (hk0:0<k) (hf:∀o,(f o).length=k) (he:Opn P e (fun h cs a=>∃o,cs=f o/\Q h o a)) :
  Opn P t (fun h cs (l:List α)=>∃(x:SV) (os:List β),cs=[sv x]/\Sl h k (sv x) (os.flatMap f)/\All2 (Q h) os l):=by
 refine ⟨?_⟩;intro H enc w sp held fuel cs x hx;rcases DataW.trod_slice ht hx with ⟨rfl,_⟩ | ⟨a,len,cap,elems,rest,n,_,rfl,_,_,hl,hm,hlen,hel,_,_⟩
 ·exact ⟨[],(none,0,0),[],rfl,Sl.nil _ _,All2.nil⟩
 obtain ⟨b,o,spot⟩:=a;have get:∀i,i<len->∃cs,w.cells? 0 ((⟨b,o,spot⟩:Addr).add (i*k)) k=some cs/\∃z y,cs=f y/\Q w.heap y z:=fun i hi=>by
  have h1:=hel i hi;have h2:elems[i]? = some (elems[i]'(by omega)):=by simp
  rw [h2,hk,Option.bind_eq_some_iff] at h1;obtain ⟨cs,h3,h4⟩:=h1;obtain ⟨z,y,hq⟩:=he.run h4;exact ⟨cs,h3,z,y,hq⟩
 have hspot:0<len->spot=none:=fun hp=>let ⟨_,h,_⟩:=get 0 hp;cells_spot h hk0;obtain ⟨os,l,ho1,hl1,hall⟩:=choose_lists (R:=fun i y z=>Q w.heap y z/\∀j v,(f y)[j]? = some v->cell w.heap b (o+i*k+j)=some v) len (fun i hi=>by
  obtain ⟨cs,h3,z,y,rfl,hq⟩:=get i hi;have:=hspot (by omega);subst this;exact ⟨y,z,hq,(cells_at h3).2⟩)
 unfold maxLen at hm;refine ⟨l,(some ⟨b,o,spot⟩,len,cap),os,rfl,⟨_,_,_,rfl,hl,by omega,?_,fun hp=>?_⟩,by omega,fun i h1 h2=>(hall i h1 h2).1⟩
 ·rw [flat_len hf,ho1]
 ·have hs:=hspot hp;subst hs;refine ⟨b,o,rfl,fun i x hi=>?_⟩;have hlt:=(List.getElem?_eq_some_iff.1 hi).1;rw [flat_len hf,ho1] at hlt;have hdm:i=i / k*k+i%k:=by rw [Nat.mul_comm];exact (Nat.div_add_mod i k).symm
  have h1:i / k<len:=Nat.div_lt_of_lt_mul (by rw [Nat.mul_comm];exact hlt);have h2:i%k<k:=Nat.mod_lt _ hk0;rw [hdm,flat_at hf os (i / k) (i%k) (by omega) h2] at hi;rw [hdm,<-Nat.add_assoc];exact (hall (i / k) (by omega) (by omega)).2 _ _ hi
theorem opn_struct {fs:Array Field} (ht:P.underlying t=some (.struct fs)) {H:Type} {enc:TypeId × Value->H} {w:World} {sp:Nat->Bool} {held:Bool} {fuel:Nat} {cs:List Value} {x:DataW H × List MemPlace} (hx:DataW.trod enc P w 0 sp held fuel t cs=some x) :
  cs.length=P.cellsOf t/\∀(i:Nat) (f:Field),fs[i]? = some f->∃n y,DataW.trod enc P w 0 sp held n f.type ((cs.drop f.offset).take (P.cellsOf f.type))=some y:=by
 obtain ⟨xs,n,_,_,h1,h2,h3⟩:=DataW.trod_struct ht hx;refine ⟨h1,fun i f hf=>?_⟩;have hi:i<xs.length:=by have:=(Array.getElem?_eq_some_iff.1 hf).1;omega
 exact ⟨n,xs[i],by rw [h3 i f hf];simp⟩
theorem opn_field {i off ft k:Nat} (hf:fdB P t i=some (off,ft,k)) {H:Type} {enc:TypeId × Value->H} {w:World} {sp:Nat->Bool} {held:Bool} {fuel:Nat} {cs:List Value} {x:DataW H × List MemPlace} (hx:DataW.trod enc P w 0 sp held fuel t cs=some x)
  {α:Type} {R:Heap->List Value->α->Prop} (o:Opn P ft R):∃a,R w.heap ((cs.drop off).take k) a:=by
 obtain ⟨fs,fd,inf,ht,hfi,rfl,rfl,h3,h4⟩:=fdB_iff hf;obtain ⟨n,y,h2⟩:=(opn_struct ht hx).2 i fd hfi;have:P.cellsOf fd.type=k:=by simp [Program.cellsOf,h3,h4]
 rw [this] at h2;exact o.run h2
theorem Opn.arg {α:Type} {R:Heap->List Value->α->Prop} (o:Opn P t R) {H:Type} {enc:TypeId × Value->H} {w:World} {sp:Nat->Bool} {held:Bool} {v:Value} {d:DataW H} {ps:List MemPlace} (h:DataW.Trod enc P w 0 sp held t v d ps):∃a,R w.heap v.cells.toList a:=
 let ⟨_,hf⟩:=h;o.run hf
end
open Go
theorem sv_cells {a:Option Addr} {n c:Nat} {x:SV} (h:(Value.slice a n c).cells.toList=[sv x]):x=(a,n,c):=by
 simp [Value.cells] at h;obtain ⟨h1,h2,h3⟩:=h;obtain ⟨x1,x2,x3⟩:=x;simp_all
end Go.HL
namespace Go.Proofs.YtfegfklipbnhjaaGreat
open Go Go.HL
theorem lenC4 {l:List Value} (h:l.length=4):∃a b c d,l=[a,b,c,d]:=by
 match l,h with
 | [a,b,c,d],_=>exact ⟨a,b,c,d,rfl⟩
theorem opn_act:Opn Tryz.prog 54 (fun _ cs (d:AcR)=>cs=d.cells/\(i64K d.kind/\i64K d.key/\i64K d.many)):=⟨fun hx=>by
 have hl:=(opn_struct Tryz.underlying54 hx).1;have f0:=opn_field T.fd54_0 hx (Opn.i64 Tryz.underlying3);have f1:=opn_field T.fd54_1 hx (Opn.i64 Tryz.underlying2);have f2:=opn_field T.fd54_2 hx (Opn.i64 Tryz.underlying3);have f3:=opn_field T.fd54_3 hx (Opn.u8 Tryz.underlying5);obtain ⟨c0,c1,c2,c3,rfl⟩:=lenC4 (hl.trans (by kernel_rfl:_=4));obtain ⟨x0,h0,b0⟩:=f0;obtain ⟨x1,h1,b1⟩:=f1;obtain ⟨x2,h2,b2⟩:=f2;obtain ⟨x3,h3⟩:=f3;simp at h0 h1 h2 h3;subst h0 h1 h2 h3;exact ⟨⟨x0,x1,x2,x3⟩,rfl,b0,b1,b2⟩⟩
theorem opn_acts:Opn Tryz.prog 22 (fun h cs (l:List AcR)=>∃x:SV,cs=[sv x]/\(Sl h 4 (sv x) (l.flatMap AcR.cells)/\x.2.1=l.length/\x.2.1<=x.2.2/\x.2.2<=9223372036854775807)/\∀d∈l,i64K d.kind/\i64K d.key/\i64K d.many):=
 (Opn.slice (f:=AcR.cells) (Q:=fun h o (d:AcR)=>o=d/\(i64K d.kind/\i64K d.key/\i64K d.many)) Tryz.underlying22 (by kernel_rfl:_=4) (by omega) (fun _=>rfl) (opn_act.mono fun h cs x ⟨e,h1⟩=>⟨x,x,e,rfl,h1⟩)).mono fun h cs l ⟨x,os,h1,h2,h3⟩=>by
  have:os=l:=List.ext_getElem h3.1 fun i h4 h5=>(h3.2 i h4 h5).1;subst this;obtain ⟨a,n,c⟩:=x;have hz:=Sl.sz h2 (fun _=>rfl) (by decide);refine ⟨os,(a,n,c),h1,⟨h2,hz.1.symm,hz.2⟩,fun y hy=>?_⟩;obtain ⟨i,hi,rfl⟩:=qO.1 hy;exact (h3.2 i hi hi).2
theorem walkSpoilt_row {h:Heap} {key:Int} {a:Option Addr} {n c:Nat} {l:List AcR} (hl:(Sl h 4 (sv (a,n,c)) (l.flatMap AcR.cells)/\n=l.length/\n<=c/\c<=9223372036854775807)/\∀d∈l,i64K d.kind/\i64K d.key/\i64K d.many):Hc 4 #[.slice a n c,.J key] h (fun v h'=>v=.bool true/\Ext h h'):=by
 obtain ⟨⟨h1,rfl,h2,h3⟩,h4⟩:=hl;exact walkSpoilt_walk h1 ⟨h2,h3⟩ (fun d hd=>(h4 d hd).2.1)
end Go.Proofs.YtfegfklipbnhjaaGreat
