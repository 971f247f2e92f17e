/- The pager that logs ahead in plain terms: its calls, and what ties it to memory. Conditions: those that each fact names. Heads of files, as the document has them: Check, Encode, Decode. Conditions: numbers in their ranges. Heads are encoded; a page that has a head and bytes. Conditions: a page's size. Rows of pages in memory, and the document's pager, in plain terms and in memory. Conditions: those that each fact names. A call of the laws on pagers: its page; are calls few. Conditions: the calls are readable. Logs that are written frame by frame, in plain terms: their bytes, their links, and what a scan of a part of one finds. Conditions: the frames are of the log's size. Files of a disk, byte by byte: what changes do to them, how the power goes, and what a crash may leave. Conditions: those that each fact names. Frames laid over a file, in plain terms. Conditions: those that each fact names. Carrying over and clearing away, in plain terms: what is left when it is done, and what a crash may leave wherever the power goes. Conditions: those that each fact names. Opening a file that was left in any state in between, in plain terms: it has the sure pages; and so it has when the power goes within. Conditions: those that each fact names. What a pager that logs ahead has on its disk between its calls, in plain terms; a commit keeps it; wherever the power goes within, the sure pages are there, or those of the commit. Conditions: those that each fact names. -/
import Derived.Test.YtpeaicddbnghfaaGreatPkA5
set_option maxRecDepth 100000
set_option maxHeartbeats 2000000
set_option linter.all false
namespace Go.Proofs.YtpeaicddbnghfaaGreat
open Go Go.HL
def beginA (A:Ah):Ah × Nat:=if A.dark=true then (A,13) else if A.in_=true then (A,10) else ({ A with in_:=true,now:=A.sure },0)
def pagesA (A:Ah):List (List UInt8):=if A.in_=true then A.now else A.sure
def readA (A:Ah) (no:Int):List UInt8 × Nat:=
 if A.dark=true then ([],13) else if no<1∨((pagesA A).length:Int)<no then ([],1) else ((pagesA A).getD (no-1).toNat [],0)
def writeA (A:Ah) (no:Int) (b:List UInt8):Ah × Nat:=
 if A.dark=true then (A,13) else if A.in_=false then (A,10) else if no<1∨(A.now.length:Int)<no∨b.length≠A.size then (A,1) else ({ A with now:=A.now.set (no-1).toNat b },0)
def growL (now:List (List UInt8)) (size n:Nat):List (List UInt8):=now.take n++List.replicate (n-now.length) (List.replicate size 0)
def resizeA (A:Ah) (n:Int):Ah × Nat:=
 if A.dark=true then (A,13) else if A.in_=false then (A,10) else if n<0 then (A,1) else if 1048576<n∨16777216<n*A.size then (A,5) else ({ A with now:=growL A.now A.size n.toNat },0)
def rollbackA (A:Ah):Ah × Nat:=if A.dark=true then (A,13) else if A.in_=false then (A,10) else ({ A with in_:=false,now:=[] },0)
def failA (A:Ah) (d:Dk) (e:Nat):Ah × Nat:=({ A with dk:=d,dark:=decide (e=13) },e)
noncomputable def overA (A:Ah):Ah × Nat:=
 if (carryN A.dk A.size (scanF (readN A.dk nL 0 A.nd).1)).2=0 then ({ A with dk:=(carryN A.dk A.size (scanF (readN A.dk nL 0 A.nd).1)).1,fr:=0,nd:=0,link:=0 },0)
 else failA A (carryN A.dk A.size (scanF (readN A.dk nL 0 A.nd).1)).1 (carryN A.dk A.size (scanF (readN A.dk nL 0 A.nd).1)).2
noncomputable def checkA (A:Ah):Ah × Nat:=if A.dark=true then (A,13) else if A.in_=true then (A,10) else if A.fr=0 then (A,0) else overA A
def putD (d:Dk) (fr e p:Nat) (fs:List Fr):(Dk × Nat) × Nat × Nat:=
 (thenN (thenN (thenN (logsN d e p fs).1 fun d=>syncN d nL) fun d=>writeN d nM ((sizeN d nM).1:Int) (List.replicate (1+fr+fs.length-(sizeN d nM).1) 0)) fun d=>syncN d nM,(logsN d e p fs).2)
theorem putD_w {d d':Dk} {fr e p e' p' i:Nat} {l:List Fr} (hi:i<l.length) (h:logsN d e p (l.take i)=((d',0),e',p')) (he:(writeN d' nL (e':Int) (putN p' l[i])).2≠0):(putD d fr e p l).1=writeN d' nL (e':Int) (putN p' l[i]):=by
 have h1:=logsN_snoc hi h;rw [if_neg he] at h1;have h2:logsN d e p l=_:=logsN_stop (i:=i+1) (by rw [h1];exact he);rw [h1] at h2;unfold putD;rw [h2];simp only;rw [thenN_e (a:=writeN d' nL (e':Int) (putN p' l[i])) he,thenN_e he,thenN_e he]
section
variable {d d':Dk} {fr e p e' p':Nat} {l:List Fr} (h:logsN d e p l=((d',0),e',p'))
include h
theorem putD_s (hs:(syncN d' nL).2≠0):(putD d fr e p l).1=syncN d' nL:=by
 unfold putD;rw [h];simp only;rw [thenN_0 (a:=(d',0)) rfl,thenN_e hs,thenN_e hs]
variable {d2:Dk} (hs:syncN d' nL=(d2,0))
include hs
theorem putD_m (hw:(writeN d2 nM ((sizeN d2 nM).1:Int) (List.replicate (1+fr+l.length-(sizeN d2 nM).1) 0)).2≠0):(putD d fr e p l).1=writeN d2 nM ((sizeN d2 nM).1:Int) (List.replicate (1+fr+l.length-(sizeN d2 nM).1) 0):=by
 unfold putD;rw [h];simp only;rw [thenN_0 (a:=(d',0)) rfl,hs,thenN_0 (a:=(d2,0)) rfl,thenN_e hw]
variable {d3:Dk} (hw:writeN d2 nM ((sizeN d2 nM).1:Int) (List.replicate (1+fr+l.length-(sizeN d2 nM).1) 0)=(d3,0))
include hw
theorem putD_ok:putD d fr e p l=(syncN d3 nM,e',p'):=by
 unfold putD;rw [h];simp only;rw [thenN_0 (a:=(d',0)) rfl,hs,thenN_0 (a:=(d2,0)) rfl,hw,thenN_0 (a:=(d3,0)) rfl]
end
def frK (now:List (List UInt8)) (ns:List Nat) (k:Nat):Fr:=⟨((ns.getD k 0+1:Nat):Int),((if k+1=ns.length then now.length else 0:Nat):Int),now.getD (ns.getD k 0) []⟩
theorem frK_at {now:List (List UInt8)} {ns:List Nat} {k:Nat} (hk:k<ns.length):(frmsN now ns)[k]'(by rw [frmsN_len];exact hk)=frK now ns k:=by
 rw [frmsN_at hk];have e:ns.getD k 0=ns[k]:=by simp [hk]
 unfold frmN frK;rw [e];by_cases h:k+1=ns.length<;>simp [h]
def pgL (ns:List Nat):List Int:=ns.map fun (i:Nat)=>(i:Int)+1
theorem pgL_len {ns:List Nat} : (pgL ns).length=ns.length:=List.length_map _
theorem pgL_at {ns:List Nat} {k:Nat} (hk:k<(pgL ns).length):(pgL ns)[k]=((ns.getD k 0+1:Nat):Int):=by
 have hk2:k<ns.length:=by rw [pgL_len] at hk;exact hk
 have e:ns.getD k 0=ns[k]:=by simp [hk2]
 rw [e];simp [pgL]
theorem atsN_K {size:Nat} {m:List (Int × Nat)} {e k:Nat} {l:List Nat} (hk:k<l.length):atsN size m e (l.take (k+1))=mput (atsN size m e (l.take k)) ((l.getD k 0+1:Nat):Int) (e+k*(16+size)+16):=by
 rw [atsN_snoc hk];have e:l.getD k 0=l[k]:=by simp [hk]
 rw [e];rfl
def begA (A:Ah):(Dk × Nat) × Nat × Nat:=begN A.dk A.nd A.link A.size
def putA' (A:Ah) (l:List Nat):(Dk × Nat) × Nat × Nat:=putD (begA A).1.1 A.fr (begA A).2.1 (begA A).2.2 (frmsN A.now l)
def logA (A:Ah) (l:List Nat):Ah × Nat:=
 if (begA A).1.2≠0 then failA A (begA A).1.1 (begA A).1.2 else
 if (putA' A l).1.2≠0 then failA { A with nd:=(begA A).2.1,link:=(begA A).2.2 } (putA' A l).1.1 (putA' A l).1.2 else
 (⟨(putA' A l).1.1,A.fr+l.length,(putA' A l).2.1,(putA' A l).2.2,false,[],A.now,A.size,A.dark⟩,0)
def hdOk (b:List UInt8) (size:Nat):Bool:=decide ((decN b).2=0∧(decN b).1.size=size)
def mayA (A:Ah):Nat:=if A.now=[] then (if A.sure=[] then 0 else 8) else if hdOk (A.now.getD 0 []) A.size=true then 0 else 8
noncomputable def commitA (A:Ah):Ah × Nat:=
 if A.dark=true then (A,13) else if A.in_=false then (A,10) else if mayA A≠0 then (A,mayA A) else
 if listN A.now A.sure=[] then ({ A with in_:=false,now:=[] },0) else
 if 16777216<20+(listN A.now A.sure).length*(16+A.size) then (A,5) else
 if 16777216<A.nd+(listN A.now A.sure).length*(16+A.size) then (if (overA A).2≠0 then overA A else logA (overA A).1 (listN A.now A.sure)) else logA A (listN A.now A.sure)
def SrcOk (dk:Dk) (at_:List (Int × Nat)) (size:Nat) (i:Nat) (l:List UInt8):Prop:=
 match mget at_ ((i:Int)+1) with
 | some k=>k≤16777216∧readN dk nL (k:Int) (size:Int)=(l,0)
 | none=>readN dk nT ((i*size:Nat):Int) (size:Int)=(l,0)
structure PutP (r:RA) (now:List (List UInt8)) (ns:List Nat):Prop where
 in_:r.in_=true
 bm:∃m,r.bm=some m
 many:r.many=now.length
 lim:now.length≤1048576
 sz:okSz r.size=true
 len:∀l∈now,l.length=r.size
 lt:∀k,k<ns.length→ns.getD k 0<now.length
 pg:(begN r.rd.abs r.nd r.link r.size).1.2=0→∀k,k<ns.length→(∀x,mget r.bs ((ns.getD k 0+1:Nat):Int)=some x→x.l=now.getD (ns.getD k 0) [])∧(mget r.bs ((ns.getD k 0+1:Nat):Int)=none→k=0∧r.S (ns.getD k 0)=some (now.getD (ns.getD k 0) [])∧SrcOk (begN r.rd.abs r.nd r.link r.size).1.1 r.at_ r.size (ns.getD k 0) (now.getD (ns.getD k 0) []))
 fit:(begN r.rd.abs r.nd r.link r.size).2.1+ns.length*(16+r.size)≤16777216
 link:(begN r.rd.abs r.nd r.link r.size).2.2<18446744073709551616
 fr:1+r.fr+ns.length≤16777216
 mrk:(sizeN (thenN (logsN (begN r.rd.abs r.nd r.link r.size).1.1 (begN r.rd.abs r.nd r.link r.size).2.1 (begN r.rd.abs r.nd r.link r.size).2.2 (frmsN now ns)).1 fun d=>syncN d nL).1 nM).1≤1+r.fr+ns.length
theorem PutP.src {r:RA} {now:List (List UInt8)} {ns:List Nat} {d1:Dk} {e1 p1 i:Nat} {m:List (Int × Nat)} (P:PutP r now ns) (h0:(begN r.rd.abs r.nd r.link r.size).1.2=0) (hi:i<ns.length) (hl:logsN (begN r.rd.abs r.nd r.link r.size).1.1 (begN r.rd.abs r.nd r.link r.size).2.1 (begN r.rd.abs r.nd r.link r.size).2.2 ((frmsN now ns).take i)=((d1,0),e1,p1))
  (hm:m=atsN r.size r.at_ (begN r.rd.abs r.nd r.link r.size).2.1 (ns.take i)) (hz:mget r.bs ((ns.getD i 0+1:Nat):Int)=none∨r.in_=false):r.S (ns.getD i 0)=some (now.getD (ns.getD i 0) [])∧SrcOk d1 m r.size (ns.getD i 0) (now.getD (ns.getD i 0) []):=by
 rcases hz with hz | hz
 ·obtain ⟨rfl,h2,h3⟩:=(P.pg h0 i hi).2 hz;have e1:d1=(begN r.rd.abs r.nd r.link r.size).1.1:=(congrArg (fun x=>x.1.1) hl).symm;have e2:m=r.at_:=hm;rw [e1,e2];exact ⟨h2,h3⟩
 ·rw [P.in_] at hz;cases hz
theorem frK_ok {r:RA} {now:List (List UInt8)} {ns:List Nat} (P:PutP r now ns) {k:Nat} (hk:k<ns.length):okF (frK now ns k)=true∧(frK now ns k).b.length=r.size:=by
 have h1:=P.lt k hk;have h2:=P.lim;have e:now.getD (ns.getD k 0) []=now[ns.getD k 0]:=by rw [List.getD_eq_getElem?_getD,List.getElem?_eq_getElem h1];rfl
 have h3:(now.getD (ns.getD k 0) []).length=r.size:=by rw [e];exact P.len _ (List.getElem_mem h1)
 refine ⟨okF_iff.2 ⟨?_,?_⟩,h3⟩
 ·unfold frK;simp only;split<;>omega
 ·show okSz (now.getD (ns.getD k 0) []).length=true;rw [h3];exact P.sz
def NowOk (bs:List (Int × RB)) (sure:List (List UInt8)) (i:Nat) (l:List UInt8):Prop:=
 match mget bs ((i:Int)+1) with
 | some x=>x.l=l
 | none=>sure[i]? = some l
structure Good (r:RA) (A:Ah):Prop where
 sl:∀l∈A.sure,l.length=A.size
 nl:∀l∈A.now,l.length=A.size
 src:∀i (hi:i<A.sure.length),SrcOk A.dk r.at_ A.size i A.sure[i]
 now:∀i (hi:i<A.now.length),NowOk r.bs A.sure i A.now[i]
 keys:∀x∈r.bs,1≤x.1∧x.1≤A.now.length
 bm:A.in_=true→∃m,r.bm=some m
 drk:A.dk.dark=false
structure PIs (r:RA) (A:Ah):Prop where
 dk:r.rd.abs=A.dk
 fr:r.fr=A.fr
 nd:r.nd=A.nd
 link:r.link=A.link
 in_:r.in_=A.in_
 many:r.many=A.now.length
 sure:r.sure=A.sure.length
 S:r.S=fun i=>A.sure[i]?
 size:r.size=A.size
 dark:r.dark=A.dark
 good:A.dark=false→Good r A
 sz:okSz A.size=true
 sm:A.sure.length≤1048576∧A.sure.length*A.size≤16777216
 nm:A.now.length≤1048576∧A.now.length*A.size≤16777216
 ndb:A.nd≤16777216
 frb:A.fr≤16777216
 lkb:A.link<18446744073709551616
 ok:DkOk A.dk
def lookE (b:Bool):Nat:=if b=true then 13 else 0
theorem lookE_t {b:Bool} (h:((lookE b:Nat):Int)≠0):b=true:=by unfold lookE at h;split at h<;>simp_all
theorem lookE_f {b:Bool} (h:¬((lookE b:Nat):Int)≠0):b=false:=by unfold lookE at h;split at h<;>simp_all
def toldB (z:Int) (b:Bool):Bool:=if z=13 then true else b
def pgsR (r:RA):Nat:=if r.in_=true then r.many else r.sure
theorem aft_split {h h':Heap} {p:Nat} {r:RA} {E:Nat→Prop} {v:Value} {a:Dk} {e:Nat} (q:∃rd m E',v=.int .i64 (e:Int)∧rd.abs=a∧PUp h h' p r (r.aft rd m e) E E') :
  (e=0∧∃rd m E',v=.int .i64 0∧rd.abs=a∧PUp h h' p r (r.gone rd m) E E')∨(e≠0∧∃rd E',v=.int .i64 (e:Int)∧rd.abs=a∧PUp h h' p r (r.disk rd) E E'):=by
 obtain ⟨rd,m,E',hv,ha,hu⟩:=q;by_cases he:e=0
 ·subst he;rw [RA.aft_0 rfl] at hu;exact .inl ⟨rfl,rd,m,E',hv,ha,hu⟩
 ·rw [RA.aft_e he] at hu;exact .inr ⟨he,rd,E',hv,ha,hu⟩
theorem RA.aft_disk {r:RA} {x rd:RD} {m e:Nat} : (r.disk x).aft rd m e=r.aft rd m e:=by unfold RA.aft;split<;>rfl
theorem Pbs.rd {h:Heap} {Q:Nat→Prop} {bs:List (Int × RB)} {k:Int} {x:RB} {l:List UInt8} (b:Pbs h Q bs) (hg:mget bs k=some x) (hl:x.l=l):RdL h Q Q (match mget bs k with | some x=>x.a | none=>none,match mget bs k with | some x=>x.l.length | none=>0,match mget bs k with | some x=>x.c | none=>0) l:=by
 rw [hg];subst hl;exact b.get hg
def bsA (bs:List (Int × RB)) (k:Int):Option Addr:=match mget bs k with | some x=>x.a | none=>none
def bsN (bs:List (Int × RB)) (k:Int):Nat:=match mget bs k with | some x=>x.l.length | none=>0
def bsC (bs:List (Int × RB)) (k:Int):Nat:=match mget bs k with | some x=>x.c | none=>0
theorem bs_get {bs:List (Int × RB)} {k:Int} : (aget (bsE bs) k).getD (.slice none 0 0)=.slice (bsA bs k) (bsN bs k) (bsC bs k):=by
 unfold bsE;rw [aget_mp (f:=bsV)];unfold bsA bsN bsC bsV;cases mget bs k<;>rfl
theorem bs_is {bs:List (Int × RB)} {k:Int} : (aget (bsE bs) k).isSome=(mget bs k).isSome:=by
 unfold bsE;rw [aget_mp (f:=bsV)];cases mget bs k<;>rfl
theorem at_get {l:List (Int × Nat)} {k:Int} : (aget (atE l) k).getD (.int .i64 0)=.int .i64 (((mget l k).getD 0:Nat):Int):=by
 unfold atE;rw [aget_mp (f:=iv')];cases mget l k<;>rfl
theorem at_is {l:List (Int × Nat)} {k:Int} : (aget (atE l) k).isSome=(mget l k).isSome:=by
 unfold atE;rw [aget_mp (f:=iv')];cases mget l k<;>rfl
section
variable {A:Ah}
theorem beginA_1 (h:A.dark=true):beginA A=(A,13):=if_pos h
theorem beginA_2 (h:A.dark=false) (h2:A.in_=true):beginA A=(A,10):=by unfold beginA;rw [if_neg (by rw [h];decide),if_pos h2]
theorem beginA_3 (h:A.dark=false) (h2:A.in_=false):beginA A=({ A with in_:=true,now:=A.sure },0):=by unfold beginA;rw [if_neg (by rw [h];decide),if_neg (by rw [h2];decide)]
variable {no:Int} {b:List UInt8}
theorem readA_1 (h:A.dark=true):readA A no=([],13):=if_pos h
theorem readA_2 (h:A.dark=false) (h2:no<1∨((pagesA A).length:Int)<no):readA A no=([],1):=by unfold readA;rw [if_neg (by rw [h];decide),if_pos h2]
theorem readA_3 (h:A.dark=false) (h2:¬(no<1∨((pagesA A).length:Int)<no)):readA A no=((pagesA A).getD (no-1).toNat [],0):=by unfold readA;rw [if_neg (by rw [h];decide),if_neg h2]
theorem writeA_1 (h:A.dark=true):writeA A no b=(A,13):=if_pos h
theorem writeA_2 (h:A.dark=false) (h2:A.in_=false):writeA A no b=(A,10):=by unfold writeA;rw [if_neg (by rw [h];decide),if_pos h2]
theorem writeA_3 (h:A.dark=false) (h2:A.in_=true) (h3:no<1∨(A.now.length:Int)<no∨b.length≠A.size):writeA A no b=(A,1):=by unfold writeA;rw [if_neg (by rw [h];decide),if_neg (by rw [h2];decide),if_pos h3]
theorem writeA_4 (h:A.dark=false) (h2:A.in_=true) (h3:¬(no<1∨(A.now.length:Int)<no∨b.length≠A.size)):writeA A no b=({ A with now:=A.now.set (no-1).toNat b },0):=by unfold writeA;rw [if_neg (by rw [h];decide),if_neg (by rw [h2];decide),if_neg h3]
theorem resizeA_1 (h:A.dark=true):resizeA A no=(A,13):=if_pos h
theorem resizeA_2 (h:A.dark=false) (h2:A.in_=false):resizeA A no=(A,10):=by unfold resizeA;rw [if_neg (by rw [h];decide),if_pos h2]
theorem resizeA_3 (h:A.dark=false) (h2:A.in_=true) (h3:no<0):resizeA A no=(A,1):=by unfold resizeA;rw [if_neg (by rw [h];decide),if_neg (by rw [h2];decide),if_pos h3]
theorem resizeA_4 (h:A.dark=false) (h2:A.in_=true) (h3:¬no<0) (h4:1048576<no∨16777216<no*A.size):resizeA A no=(A,5):=by unfold resizeA;rw [if_neg (by rw [h];decide),if_neg (by rw [h2];decide),if_neg h3,if_pos h4]
theorem resizeA_5 (h:A.dark=false) (h2:A.in_=true) (h3:¬no<0) (h4:¬(1048576<no∨16777216<no*A.size)):resizeA A no=({ A with now:=growL A.now A.size no.toNat },0):=by unfold resizeA;rw [if_neg (by rw [h];decide),if_neg (by rw [h2];decide),if_neg h3,if_neg h4]
variable {r:RA}
theorem PIs.pgs (I:PIs r A):pgsR r=(pagesA A).length:=by
 unfold pgsR pagesA;rw [I.in_,I.many,I.sure];cases A.in_<;>rfl
theorem PIs.page (I:PIs r A) (hd:A.dark=false) {i:Nat} (hi:i<(pagesA A).length):((pagesA A).getD i []).length=r.size∧(r.in_=true→∃m,r.bm=some m)∧(r.in_=true→∀x,mget r.bs ((i:Int)+1)=some x→x.l=(pagesA A).getD i [])∧
  (mget r.bs ((i:Int)+1)=none∨r.in_=false→r.S i=some ((pagesA A).getD i [])∧SrcOk r.rd.abs r.at_ r.size i ((pagesA A).getD i [])):=by
 have g:=I.good hd;rw [I.in_,I.S,I.dk,I.size];have hS:∀l,A.sure[i]? = some l→A.sure[i]? = some l∧SrcOk A.dk r.at_ A.size i l:=fun l h=>by
  obtain ⟨h1,h2⟩:=List.getElem?_eq_some_iff.1 h;exact ⟨h,h2▸g.src i h1⟩
 unfold pagesA at hi⊢;cases hin:A.in_ with
 | true=>
  rw [hin] at hi;simp only [if_true] at hi⊢;have e:A.now.getD i []=A.now[i]:=by simp [hi]
  rw [e];have hn:=g.now i hi;unfold NowOk at hn;refine ⟨g.nl _ (List.getElem_mem hi),fun _=>g.bm hin,fun _ x hx=>by rw [hx] at hn;exact hn,fun h=>?_⟩;rcases h with h | h
  ·rw [h] at hn;exact hS _ hn
  ·cases h
 | false=>
  rw [hin] at hi;simp only [Bool.false_eq_true,if_false] at hi⊢;have e:A.sure.getD i []=A.sure[i]:=by simp [hi]
  rw [e];exact ⟨g.sl _ (List.getElem_mem hi),by simp,by simp,fun _=>hS _ (by simp [hi])⟩
theorem PIs.cF (I:PIs r A) {F:Nat→Prop} : PIs { r with cF:=F } A:={ I with good:=fun h=>let g:=I.good h;⟨g.sl,g.nl,g.src,g.now,g.keys,g.bm,g.drk⟩ }
theorem PIs.begin (I:PIs r A) {m:Nat} : PIs { r with in_:=true,many:=r.sure,bm:=some m,bs:=[] } { A with in_:=true,now:=A.sure }:=
 { I with in_:=rfl,many:=I.sure,nm:=I.sm,good:=fun h=>let g:=I.good h;⟨g.sl,g.sl,g.src,fun i hi=>by simp [NowOk,mget,hi],by simp,fun _=>⟨m,rfl⟩,g.drk⟩ }
theorem PIs.drop (I:PIs r A):PIs { r with in_:=false,many:=0,bm:=none,bs:=[] } { A with in_:=false,now:=[] }:=
 { I with in_:=rfl,many:=rfl,nm:=by simp,good:=fun h=>let g:=I.good h;⟨g.sl,by simp,g.src,by simp,by simp,by simp,g.drk⟩ }
theorem PIs.write (I:PIs r A) (hd:A.dark=false) {no:Int} {x:RB} {m:Nat} (h:¬(no<1∨(A.now.length:Int)<no∨x.l.length≠A.size)):PIs { r with bm:=some m,bs:=mput r.bs no x } { A with now:=A.now.set (no-1).toNat x.l }:=by
 have g:=I.good hd;have hl:(A.now.set (no-1).toNat x.l).length=A.now.length:=List.length_set ..;refine { I with many:=by rw [hl];exact I.many,nm:=by rw [hl];exact I.nm,good:=fun _=>⟨g.sl,fun l hl=>?_,g.src,fun i hi=>?_,fun y hy=>?_,fun _=>⟨m,rfl⟩,g.drk⟩ }
 ·rcases List.mem_or_eq_of_mem_set hl with h1 | h1
  ·exact g.nl l h1
  ·subst h1;by_cases h2:x.l.length=A.size
   ·exact h2
   ·exact absurd (.inr (.inr h2)) h
 ·unfold NowOk;simp only;rw [mget_mput];simp only at hi;rw [hl] at hi;by_cases h2:(i:Int)+1=no
  ·rw [if_pos h2];have e:(no-1).toNat=i:=by omega
   simp [e]
  ·rw [if_neg h2];have e:¬(no-1).toNat=i:=by omega
   rw [List.getElem_set_ne e];exact g.now i hi
 ·simp only;rw [hl];rcases mem_mput hy with rfl | h1
  ·simp only;omega
  ·exact g.keys y h1
theorem bs_put {bs:List (Int × RB)} {k:Int} {x:RB} : aput (bsE bs) k (bsV x)=bsE (mput bs k x):=aput_mp (f:=bsV)
theorem bs_del {bs:List (Int × RB)} {k:Int} : adel (bsE bs) k=bsE (mdel bs k):=adel_mp (f:=bsV)
theorem at_put {l:List (Int × Nat)} {k:Int} {n:Nat} : aput (atE l) k (.int .i64 (n:Int))=atE (mput l k n):=aput_mp (f:=iv')
theorem at_del {l:List (Int × Nat)} {k:Int} : adel (atE l) k=atE (mdel l k):=adel_mp (f:=iv')
def delR (bs:List (Int × RB)) (n k:Int):List (Int × RB):=bs.filter fun x=>decide (¬(n<x.1∧x.1<k))
theorem delR_0 {bs:List (Int × RB)} {n:Int} : delR bs n (n+1)=bs:=List.filter_eq_self.2 fun x _=>by simp;omega
theorem delR_s {bs:List (Int × RB)} {n k:Int} (h:n+1≤k):mdel (delR bs n k) k=delR bs n (k+1):=by
 unfold mdel delR;rw [List.filter_filter];apply List.filter_congr;intro x _;rw [←Bool.decide_and,decide_eq_decide];omega
theorem mget_delR {bs:List (Int × RB)} {n k key:Int} (h:¬(n<key∧key<k)):mget (delR bs n k) key=mget bs key:=by
 induction bs with
 | nil=>rfl
 | cons p l ih=>
  unfold delR at ih⊢;by_cases h1:n<p.1∧p.1<k
  ·rw [List.filter_cons_of_neg (by simp;omega),ih,mget_cons,if_neg];intro e;rw [e] at h1;exact h h1
  ·rw [List.filter_cons_of_pos (by exact decide_eq_true h1),mget_cons,mget_cons,ih]
structure GrowI (bs bj:List (Int × RB)) (many size:Nat) (k:Int):Prop where
 old:∀key:Int,key≤many→mget bj key=mget bs key
 new:∀key:Int,many<key→key<k→∃x,mget bj key=some x∧x.l=List.replicate size 0
 keys:∀x∈bj,x∈bs∨((many:Int)<x.1∧x.1<k)
theorem GrowI.nil {bs:List (Int × RB)} {many size:Nat} : GrowI bs bs many size ((many:Int)+1):=⟨fun _ _=>rfl,fun _ h1 h2=>by omega,fun _ h=>.inl h⟩
theorem GrowI.step {bs bj:List (Int × RB)} {many size:Nat} {k:Int} {x:RB} (g:GrowI bs bj many size k) (hk:(many:Int)+1≤k) (hx:x.l=List.replicate size 0):GrowI bs (mput bj k x) many size (k+1):=by
 refine ⟨fun key h=>?_,fun key h1 h2=>?_,fun y hy=>?_⟩
 ·rw [mget_mput,if_neg (by omega),g.old key h]
 ·rw [mget_mput];by_cases h3:key=k
  ·exact ⟨x,if_pos h3,hx⟩
  ·rw [if_neg h3];exact g.new key h1 (by omega)
 ·rcases mem_mput hy with rfl | h1
  ·exact .inr ⟨by simp only;omega,by simp only;omega⟩
  ·exact (g.keys y h1).imp id fun h=>⟨h.1,by omega⟩
theorem PIs.resize (I:PIs r A) (hd:A.dark=false) {n m:Nat} {k k1:Int} {bj:List (Int × RB)} (hk:(n:Int)+1≤k∧(A.now.length:Int)<k) (hg:GrowI (delR r.bs n k) bj A.now.length A.size k1) (hk1:(n:Int)<k1) (hkx:k1≤(n:Int)+1∨k1≤(A.now.length:Int)+1) (h1:n≤1048576) (h2:n*A.size≤16777216) :
  PIs { r with many:=n,bm:=some m,bs:=bj } { A with now:=growL A.now A.size n }:=by
 have g:=I.good hd;have hl:(growL A.now A.size n).length=n:=by unfold growL;simp;omega
 refine { I with many:=hl.symm,nm:=by rw [hl];exact ⟨h1,h2⟩,good:=fun _=>⟨g.sl,fun l hl=>?_,g.src,fun i hi=>?_,fun y hy=>?_,fun _=>⟨m,rfl⟩,g.drk⟩ }
 ·unfold growL at hl;rcases List.mem_append.1 hl with h | h
  ·exact g.nl l (List.mem_of_mem_take h)
  ·rw [List.eq_of_mem_replicate h];exact List.length_replicate ..
 ·unfold NowOk;simp only at hi⊢;rw [hl] at hi;by_cases h3:i<A.now.length
  ·rw [hg.old _ (by omega),mget_delR (by omega)];have e:(growL A.now A.size n)[i]'(by rw [hl];exact hi)=A.now[i]:=by
    unfold growL;rw [List.getElem_append_left (by rw [List.length_take];omega),List.getElem_take]
   rw [e];exact g.now i h3
  ·obtain ⟨x,e1,e2⟩:=hg.new ((i:Int)+1) (by omega) (by omega);rw [e1];have e:(growL A.now A.size n)[i]'(by rw [hl];exact hi)=List.replicate A.size 0:=by
    unfold growL;rw [List.getElem_append_right (by rw [List.length_take];omega),List.getElem_replicate]
   rw [e];exact e2
 ·simp only;rw [hl];rcases hg.keys y hy with h3 | h3
  ·have h4:=List.mem_filter.1 h3;have h5:=g.keys y h4.1;have h6:¬((n:Int)<y.1∧y.1<k):=of_decide_eq_true h4.2;omega
  ·omega
theorem Pbs.sub {h:Heap} {Q:Nat→Prop} {bs b2:List (Int × RB)} (b:Pbs h Q bs) (hs:∀x∈b2,x∈bs):Pbs h Q b2:=fun x hx=>b x (hs x hx)
theorem delR_sub {bs:List (Int × RB)} {n k:Int} : ∀x∈delR bs n k,x∈bs:=fun _ hx=>(List.mem_filter.1 hx).1
theorem PIs.told (I:PIs r A) {z:Int} (hz:z≠13):PIs { r with dark:=toldB z r.dark } A:={ I with dark:=by rw [show toldB z r.dark=r.dark from if_neg hz];exact I.dark,good:=fun h=>let g:=I.good h;⟨g.sl,g.nl,g.src,g.now,g.keys,g.bm,g.drk⟩ }
end
theorem RA.sure0 {r:RA} (hs:r.sure=0):({ r with sure:=0 } : RA)=r:=by cases r;cases hs;rfl
theorem okSz_cases {n:Nat} (h:okSz n=true):n=256∨n=512∨n=1024∨n=2048∨n=4096:=by
 unfold okSz at h;simp at h;omega
end Go.Proofs.YtpeaicddbnghfaaGreat
namespace Go.HL
open Go
theorem Hp.accNewA {α:Type} [Rep α] {h0 h h':Heap} {D:Nat→Prop} {M R:List Itm} {e:TypeId} {x:SV} {E:Nat→Prop} {l:List α} (ok:Hp h0 D M R h) (c:Ext h h') (ha:Acc h' e x (none,0,0) E l []) (hn:∀j,(blkC (sv x) j∨E j)→Nw h h' j):Hp h0 D M (rdI (blkC (sv x)) E x l::R) h':=
 have o:Hp h0 D (accI e x (none,0,0) E l []::M) R h':=ok.newM c _ ha fun j hj=>hn j (hj.elim .inl (·.elim (fun ⟨o,n,c,e⟩=>by cases e) .inr))
 (o.re (rdI (blkC (sv x)) E x l) o.m0.rd (fun j hj=>hj.elim .inl fun h=>.inr (.inr h))).frz
theorem OpV.quoI {P:Program} {s:Slots} {h:Heap} {d:Option Tmp} {t u ty:TypeId} {x y:Operand} {pos:String} {af:Array Edge} {g:Option (Nat × Bool)} {a b:Nat} (hx:ev s x=.int .i64 (a:Nat):=by exact rfl) (hy:ev s y=.int .i64 (b:Nat):=by exact rfl) (hr:a≤9223372036854775807∧1≤b:=by omega):OpV P ⟨d,.binOp .quo t x y u,ty,pos,af,g⟩ s h (.int .i64 ((a / b:Nat):Int)):=by
 rw [Int.natCast_ediv];exact OpV.quo hx hy (by omega)
end Go.HL
namespace Go.Proofs.YtpeaicddbnghfaaGreat
open Go Go.HL
theorem chk_mul {k:Nat} {z1:Int} (h:k=256∨k=512∨k=1024∨k=2048∨k=4096) (hq:¬16777216 / (k:Int)<z1):(k:Int)*z1≤16777216:=by
 rcases h with rfl | rfl | rfl | rfl | rfl<;>omega
theorem chk_bad0 {k:Nat} {z0 z1 z2 z3 z4 z5:Int} (h:k=256∨k=512∨k=1024∨k=2048∨k=4096) (hz:k=256∨(k:Int)<2*z0) (hg:¬((k:Int)<z0∧(k:Int)<4096)) (hb:(k:Int)≠z0∨z1<1∨1048576<z1∨16777216 / (k:Int)<z1):¬ChkP ⟨z0,z1,z2,z3,z4,z5⟩:=by
 rintro ⟨p1,⟨p2,p3,p4⟩,_⟩;simp only at p1 p2 p3 p4;have p1:=okZ_cases p1;by_cases hk:(k:Int)=z0
 ·rw [←hk] at p4;rcases hb with hb | hb | hb | hb
  ·exact hb hk
  ·omega
  ·omega
  ·rcases h with rfl | rfl | rfl | rfl | rfl<;>omega
 ·omega
theorem dbl_step {k:Nat} {z:Int} (h:k=256∨k=512∨k=1024∨k=2048∨k=4096) (h4:(k:Int)<4096):(2*k=256∨2*k=512∨2*k=1024∨2*k=2048∨2*k=4096):=by omega
theorem rcheck_any {h:Heap} {z0 z1 z2 z3 z4 z5:Int} (h0 : -9223372036854775808≤z0∧z0≤9223372036854775807) (h1 : -9223372036854775808≤z1∧z1≤9223372036854775807) (h2 : -9223372036854775808≤z2∧z2≤9223372036854775807) (h3 : -9223372036854775808≤z3∧z3≤9223372036854775807) (h4 : -9223372036854775808≤z4∧z4≤9223372036854775807) (h5 : -9223372036854775808≤z5∧z5≤9223372036854775807):HC Tryz.prog 208 #[.agg #[.int .i64 z0,.int .i64 z1,.int .i64 z2,.int .i64 z3,.int .i64 z4,.int .i64 z5]] h (fun v h'=>v=.int .i64 (chkC ⟨z0,z1,z2,z3,z4,z5⟩:Int)∧Ext h h'):=by
 have ok:=Hp.nil h none_;refine HC.go Tryz.func208 90 ?_;refine .seq<|.r<|.a' 1 (.bxA (cs:=[.int .i64 z0,.int .i64 z1,.int .i64 z2,.int .i64 z3,.int .i64 z4,.int .i64 z5]) ok) ?_;rintro _ η1 ⟨pb1,rfl,ok,xe⟩;refine .z .asI<|.nil ?_;refine .seq<|.r<|.z .asI<|.nil ?_;refine .seq<|.block fun K0 hK0=>.loop (fun m s hh=>∃(k:Nat),Has s [(1,.pointer (some ⟨pb1,0,none⟩)),(3,.int .i64 (k:Int))]∧Hp h none_ [boxI pb1 148 [.int .i64 z0,.int .i64 z1,.int .i64 z2,.int .i64 z3,.int .i64 z4,.int .i64 z5]] [] hh∧(k=256∨k=512∨k=1024∨k=2048∨k=4096)∧(k=256∨(k:Int)<2*z0)∧m=4096-k) ?_ ?_
 ·exact ⟨_,256,⟨rfl,rfl,trivial⟩,ok,.inl rfl,.inl rfl,rfl⟩
 rintro _ _ η2 ⟨k,hs,ok,hkc,hkz,rfl⟩ J0 hJ0;refine .frame hs fun τ=>?_;refine .seq<|.seq<|.join (fun s hh=>∃(bb:Bool),Has s [(1,.pointer (some ⟨pb1,0,none⟩)),(3,.int .i64 (k:Int)),(11,.bool bb)]∧Hp h none_ [boxI pb1 148 [.int .i64 z0,.int .i64 z1,.int .i64 z2,.int .i64 z3,.int .i64 z4,.int .i64 z5]] [] hh∧bb=decide ((k:Int)<z0∧(k:Int)<4096)) ?_ ?_
 ·
  refine .r<|.z .mvI<|.z (.fa T.fd148_0)<|.z (.ldx T.ag3 ok.m0)<|.z .lss<|.z .mvB<|.sd (fun G8=>?_) (fun G8=>?_)
  ·
   refine .z .mvI<|.z .lss<|.z .pkt<|.nil ?_;refine .end<|⟨_,⟨rfl,rfl,rfl,trivial⟩,ok,by rw [decide_eq_decide];exact ⟨fun h=>⟨by assumption,h⟩,fun h=>h.2⟩⟩
  refine .y<|.y<|.z .pkf<|.nil ?_;refine .end<|⟨false,⟨rfl,rfl,rfl,trivial⟩,ok,(decide_eq_false (fun h=>by have:=h.1;omega)).symm⟩
 rintro s η3 ⟨bb,hs,ok,hbb⟩;refine .frame hs fun τ=>?_;refine .condr (fun C0=>?_) (fun C0=>?_)
 ·
  have hge:=of_decide_eq_false (hbb.symm.trans C0);refine .exit<|hK0 _ _<|.seq<|.seq<|.q (hm:=mixed)<|.z .mvI<|.z (.fa T.fd148_0)<|.z (.ldx T.ag3 ok.m0)<|.z .neq<|.z .mvB<|.sd (fun G18=>?_) (fun G18=>?_)
  ·
   refine .y<|.y<|.y<|.z .pkt<|.z .mvB<|.y<|.y<|.y<|.z .pkt<|.z .mvB<|.y<|.y<|.y<|.y<|.y<|.z .pkt<|.nil ?_;refine .ct<|.seq<|.r<|.z .asI<|.nil ?_;refine .ret ⟨.int .i64 1,Res.one rfl rfl,⟨by rw [chk_n (chk_bad0 hkc hkz hge (by first | exact .inl (by omega) | exact .inr (.inl (by omega)) | exact .inr (.inr (.inl (by omega))) | exact .inr (.inr (.inr (by omega)))))]<;>rfl,ok.chg⟩⟩
  refine .z (.fa T.fd148_1)<|.z (.ldx T.ag3 ok.m0)<|.z .lss<|.z .pkf<|.z .mvB<|.sd (fun G23=>?_) (fun G23=>?_)
  ·
   refine .y<|.y<|.y<|.z .pkt<|.z .mvB<|.y<|.y<|.y<|.y<|.y<|.z .pkt<|.nil ?_;refine .ct<|.seq<|.r<|.z .asI<|.nil ?_;refine .ret ⟨.int .i64 1,Res.one rfl rfl,⟨by rw [chk_n (chk_bad0 hkc hkz hge (by first | exact .inl (by omega) | exact .inr (.inl (by omega)) | exact .inr (.inr (.inl (by omega))) | exact .inr (.inr (.inr (by omega)))))]<;>rfl,ok.chg⟩⟩
  refine .z (.fa T.fd148_1)<|.z (.ldx T.ag3 ok.m0)<|.z .gtr<|.z .pkf<|.z .mvB<|.sd (fun G28=>?_) (fun G28=>?_)
  ·
   refine .y<|.y<|.y<|.y<|.y<|.z .pkt<|.nil ?_;refine .ct<|.seq<|.r<|.z .asI<|.nil ?_;refine .ret ⟨.int .i64 1,Res.one rfl rfl,⟨by rw [chk_n (chk_bad0 hkc hkz hge (by first | exact .inl (by omega) | exact .inr (.inl (by omega)) | exact .inr (.inr (.inl (by omega))) | exact .inr (.inr (.inr (by omega)))))]<;>rfl,ok.chg⟩⟩
  refine .z (.fa T.fd148_1)<|.z (.ldx T.ag3 ok.m0)<|.z .mvI<|.z (.quo (hr:=(by omega)))<|.z .gtr<|.z .pkf<|.nil ?_;refine .cd (fun C1=>?_) (fun C1=>?_)
  ·
   refine .seq<|.r<|.z .asI<|.nil ?_;refine .ret ⟨.int .i64 1,Res.one rfl rfl,⟨by rw [chk_n (chk_bad0 hkc hkz hge (by first | exact .inl (by omega) | exact .inr (.inl (by omega)) | exact .inr (.inr (.inl (by omega))) | exact .inr (.inr (.inr (by omega)))))]<;>rfl,ok.chg⟩⟩
  have hkz0:(k:Int)=z0:=by omega
  have hml:=chk_mul hkc (z1:=z1) (by omega);refine .skip<|.seq<|.seq<|.r<|.z (.fa T.fd148_3)<|.z (.ldx T.ag3 ok.m0)<|.z .lss<|.z .mvB<|.sd (fun G38=>?_) (fun G38=>?_)
  ·
   refine .y<|.y<|.y<|.y<|.y<|.z .pkt<|.z .mvB<|.y<|.y<|.y<|.y<|.y<|.y<|.y<|.y<|.z .pkt<|.z .mvB<|.y<|.y<|.y<|.y<|.y<|.y<|.y<|.y<|.y<|.y<|.y<|.y<|.y<|.y<|.y<|.z .pkt<|.nil ?_;refine .ct<|.seq<|.r<|.z .asI<|.nil ?_;refine .ret ⟨.int .i64 1,Res.one rfl rfl,⟨by rw [chk_n (by rintro ⟨p1,⟨p2,p3,p4⟩,⟨p5,p6,p7,p8⟩,⟨p9,p10⟩,p11,p12⟩;simp only at p1 p2 p3 p4 p5 p6 p7 p8 p9 p10 p11 p12;first | omega | simp_all)]<;>rfl,ok.chg⟩⟩
  refine .z (.fa T.fd148_3)<|.z (.ldx T.ag3 ok.m0)<|.z (.fa T.fd148_1)<|.z (.ldx T.ag3 ok.m0)<|.z .geq<|.z .pkf<|.z .mvB<|.sd (fun G45=>?_) (fun G45=>?_)
  ·
   refine .y<|.y<|.y<|.y<|.y<|.y<|.y<|.y<|.z .pkt<|.z .mvB<|.y<|.y<|.y<|.y<|.y<|.y<|.y<|.y<|.y<|.y<|.y<|.y<|.y<|.y<|.y<|.z .pkt<|.nil ?_;refine .ct<|.seq<|.r<|.z .asI<|.nil ?_;refine .ret ⟨.int .i64 1,Res.one rfl rfl,⟨by rw [chk_n (by rintro ⟨p1,⟨p2,p3,p4⟩,⟨p5,p6,p7,p8⟩,⟨p9,p10⟩,p11,p12⟩;simp only at p1 p2 p3 p4 p5 p6 p7 p8 p9 p10 p11 p12;first | omega | simp_all)]<;>rfl,ok.chg⟩⟩
  refine .z (.fa T.fd148_3)<|.z (.ldx T.ag3 ok.m0)<|.z .eql<|.z .mvB<|.sd (fun G49=>?_) (fun G49=>?_)
  ·
   refine .z (.fa T.fd148_2)<|.z (.ldx T.ag3 ok.m0)<|.z .neq<|.z .pkt<|.z .pkf<|.z .mvB<|.sd (fun G55=>?_) (fun G55=>?_)
   ·
    refine .y<|.y<|.y<|.y<|.y<|.y<|.y<|.y<|.y<|.y<|.y<|.y<|.y<|.y<|.y<|.z .pkt<|.nil ?_;refine .ct<|.seq<|.r<|.z .asI<|.nil ?_;refine .ret ⟨.int .i64 1,Res.one rfl rfl,⟨by rw [chk_n (by rintro ⟨p1,⟨p2,p3,p4⟩,⟨p5,p6,p7,p8⟩,⟨p9,p10⟩,p11,p12⟩;simp only at p1 p2 p3 p4 p5 p6 p7 p8 p9 p10 p11 p12;first | omega | simp_all)]<;>rfl,ok.chg⟩⟩
   refine .z (.fa T.fd148_3)<|.z (.ldx T.ag3 ok.m0)<|.z .gtr<|.z .mvB<|.sd (fun G59=>?_) (fun G59=>?_)
   ·
    refine .z (.fa T.fd148_2)<|.z (.ldx T.ag3 ok.m0)<|.z .lss<|.z .mvB<|.sd (fun G63=>?_) (fun G63=>?_)
    ·
     refine .y<|.y<|.y<|.y<|.y<|.z .pkt<|.z .pkt<|.z .pkf<|.nil ?_;refine .ct<|.seq<|.r<|.z .asI<|.nil ?_;refine .ret ⟨.int .i64 1,Res.one rfl rfl,⟨by rw [chk_n (by rintro ⟨p1,⟨p2,p3,p4⟩,⟨p5,p6,p7,p8⟩,⟨p9,p10⟩,p11,p12⟩;simp only at p1 p2 p3 p4 p5 p6 p7 p8 p9 p10 p11 p12;first | omega | simp_all)]<;>rfl,ok.chg⟩⟩
    refine .z (.fa T.fd148_2)<|.z (.ldx T.ag3 ok.m0)<|.z (.fa T.fd148_1)<|.z (.ldx T.ag3 ok.m0)<|.z .gtr<|.z .pkf<|.z .pkt<|.z .pkf<|.nil ?_;refine .cd (fun C2=>?_) (fun C2=>?_)
    ·
     refine .seq<|.r<|.z .asI<|.nil ?_;refine .ret ⟨.int .i64 1,Res.one rfl rfl,⟨by rw [chk_n (by rintro ⟨p1,⟨p2,p3,p4⟩,⟨p5,p6,p7,p8⟩,⟨p9,p10⟩,p11,p12⟩;simp only at p1 p2 p3 p4 p5 p6 p7 p8 p9 p10 p11 p12;first | omega | simp_all)]<;>rfl,ok.chg⟩⟩
    refine .skip<|.seq<|.seq<|.r<|.z (.fa T.fd148_4)<|.z (.ldx T.ag3 ok.m0)<|.z .lss<|.z .mvB<|.sd (fun G75=>?_) (fun G75=>?_)
    ·
     refine .y<|.y<|.y<|.z .pkt<|.z .mvB<|.y<|.y<|.y<|.z .pkt<|.z .mvB<|.y<|.y<|.y<|.z .pkt<|.nil ?_;refine .ct<|.seq<|.r<|.z .asI<|.nil ?_;refine .ret ⟨.int .i64 1,Res.one rfl rfl,⟨by rw [chk_n (by rintro ⟨p1,⟨p2,p3,p4⟩,⟨p5,p6,p7,p8⟩,⟨p9,p10⟩,p11,p12⟩;simp only at p1 p2 p3 p4 p5 p6 p7 p8 p9 p10 p11 p12;first | omega | simp_all)]<;>rfl,ok.chg⟩⟩
    refine .z (.fa T.fd148_4)<|.z (.ldx T.ag3 ok.m0)<|.z .gtr<|.z .pkf<|.z .mvB<|.sd (fun G80=>?_) (fun G80=>?_)
    ·
     refine .y<|.y<|.y<|.z .pkt<|.z .mvB<|.y<|.y<|.y<|.z .pkt<|.nil ?_;refine .ct<|.seq<|.r<|.z .asI<|.nil ?_;refine .ret ⟨.int .i64 1,Res.one rfl rfl,⟨by rw [chk_n (by rintro ⟨p1,⟨p2,p3,p4⟩,⟨p5,p6,p7,p8⟩,⟨p9,p10⟩,p11,p12⟩;simp only at p1 p2 p3 p4 p5 p6 p7 p8 p9 p10 p11 p12;first | omega | simp_all)]<;>rfl,ok.chg⟩⟩
    refine .z (.fa T.fd148_5)<|.z (.ldx T.ag3 ok.m0)<|.z .lss<|.z .pkf<|.z .mvB<|.sd (fun G85=>?_) (fun G85=>?_)
    ·
     refine .y<|.y<|.y<|.z .pkt<|.nil ?_;refine .ct<|.seq<|.r<|.z .asI<|.nil ?_;refine .ret ⟨.int .i64 1,Res.one rfl rfl,⟨by rw [chk_n (by rintro ⟨p1,⟨p2,p3,p4⟩,⟨p5,p6,p7,p8⟩,⟨p9,p10⟩,p11,p12⟩;simp only at p1 p2 p3 p4 p5 p6 p7 p8 p9 p10 p11 p12;first | omega | simp_all)]<;>rfl,ok.chg⟩⟩
    refine .z (.fa T.fd148_5)<|.z (.ldx T.ag3 ok.m0)<|.z .gtr<|.z .pkf<|.nil ?_;refine .cd (fun C3=>?_) (fun C3=>?_)
    ·
     refine .seq<|.r<|.z .asI<|.nil ?_;refine .ret ⟨.int .i64 1,Res.one rfl rfl,⟨by rw [chk_n (by rintro ⟨p1,⟨p2,p3,p4⟩,⟨p5,p6,p7,p8⟩,⟨p9,p10⟩,p11,p12⟩;simp only at p1 p2 p3 p4 p5 p6 p7 p8 p9 p10 p11 p12;first | omega | simp_all)]<;>rfl,ok.chg⟩⟩
    refine .skip<|.seq<|.r<|.z .asI<|.nil ?_;refine .ret ⟨.int .i64 0,Res.one rfl rfl,⟨by rw [chk_y ⟨decide_eq_true (by simp only;omega),⟨by simp only;omega,by simp only;omega,by rw [hkz0] at hml;exact hml⟩,⟨by simp only;omega,by simp only;omega,by simp only;omega,by simp only;omega⟩,⟨by simp only;omega,by simp only;omega⟩,by simp only;omega,by simp only;omega⟩]<;>rfl,ok.chg⟩⟩
   refine .y<|.y<|.y<|.y<|.y<|.y<|.y<|.y<|.y<|.y<|.z .pkf<|.z .pkf<|.nil ?_;refine .cf<|.skip<|.seq<|.seq<|.r<|.z (.fa T.fd148_4)<|.z (.ldx T.ag3 ok.m0)<|.z .lss<|.z .mvB<|.sd (fun G75=>?_) (fun G75=>?_)
   ·
    refine .y<|.y<|.y<|.z .pkt<|.z .mvB<|.y<|.y<|.y<|.z .pkt<|.z .mvB<|.y<|.y<|.y<|.z .pkt<|.nil ?_;refine .ct<|.seq<|.r<|.z .asI<|.nil ?_;refine .ret ⟨.int .i64 1,Res.one rfl rfl,⟨by rw [chk_n (by rintro ⟨p1,⟨p2,p3,p4⟩,⟨p5,p6,p7,p8⟩,⟨p9,p10⟩,p11,p12⟩;simp only at p1 p2 p3 p4 p5 p6 p7 p8 p9 p10 p11 p12;first | omega | simp_all)]<;>rfl,ok.chg⟩⟩
   refine .z (.fa T.fd148_4)<|.z (.ldx T.ag3 ok.m0)<|.z .gtr<|.z .pkf<|.z .mvB<|.sd (fun G80=>?_) (fun G80=>?_)
   ·
    refine .y<|.y<|.y<|.z .pkt<|.z .mvB<|.y<|.y<|.y<|.z .pkt<|.nil ?_;refine .ct<|.seq<|.r<|.z .asI<|.nil ?_;refine .ret ⟨.int .i64 1,Res.one rfl rfl,⟨by rw [chk_n (by rintro ⟨p1,⟨p2,p3,p4⟩,⟨p5,p6,p7,p8⟩,⟨p9,p10⟩,p11,p12⟩;simp only at p1 p2 p3 p4 p5 p6 p7 p8 p9 p10 p11 p12;first | omega | simp_all)]<;>rfl,ok.chg⟩⟩
   refine .z (.fa T.fd148_5)<|.z (.ldx T.ag3 ok.m0)<|.z .lss<|.z .pkf<|.z .mvB<|.sd (fun G85=>?_) (fun G85=>?_)
   ·
    refine .y<|.y<|.y<|.z .pkt<|.nil ?_;refine .ct<|.seq<|.r<|.z .asI<|.nil ?_;refine .ret ⟨.int .i64 1,Res.one rfl rfl,⟨by rw [chk_n (by rintro ⟨p1,⟨p2,p3,p4⟩,⟨p5,p6,p7,p8⟩,⟨p9,p10⟩,p11,p12⟩;simp only at p1 p2 p3 p4 p5 p6 p7 p8 p9 p10 p11 p12;first | omega | simp_all)]<;>rfl,ok.chg⟩⟩
   refine .z (.fa T.fd148_5)<|.z (.ldx T.ag3 ok.m0)<|.z .gtr<|.z .pkf<|.nil ?_;refine .cd (fun C3=>?_) (fun C3=>?_)
   ·
    refine .seq<|.r<|.z .asI<|.nil ?_;refine .ret ⟨.int .i64 1,Res.one rfl rfl,⟨by rw [chk_n (by rintro ⟨p1,⟨p2,p3,p4⟩,⟨p5,p6,p7,p8⟩,⟨p9,p10⟩,p11,p12⟩;simp only at p1 p2 p3 p4 p5 p6 p7 p8 p9 p10 p11 p12;first | omega | simp_all)]<;>rfl,ok.chg⟩⟩
   refine .skip<|.seq<|.r<|.z .asI<|.nil ?_;refine .ret ⟨.int .i64 0,Res.one rfl rfl,⟨by rw [chk_y ⟨decide_eq_true (by simp only;omega),⟨by simp only;omega,by simp only;omega,by rw [hkz0] at hml;exact hml⟩,⟨by simp only;omega,by simp only;omega,by simp only;omega,by simp only;omega⟩,⟨by simp only;omega,by simp only;omega⟩,by simp only;omega,by simp only;omega⟩]<;>rfl,ok.chg⟩⟩
  refine .y<|.y<|.y<|.z .pkf<|.z .pkf<|.z .mvB<|.z (.fa T.fd148_3)<|.z (.ldx T.ag3 ok.m0)<|.z .gtr<|.z .mvB<|.sd (fun G59=>?_) (fun G59=>?_)
  ·
   refine .z (.fa T.fd148_2)<|.z (.ldx T.ag3 ok.m0)<|.z .lss<|.z .mvB<|.sd (fun G63=>?_) (fun G63=>?_)
   ·
    refine .y<|.y<|.y<|.y<|.y<|.z .pkt<|.z .pkt<|.z .pkf<|.nil ?_;refine .ct<|.seq<|.r<|.z .asI<|.nil ?_;refine .ret ⟨.int .i64 1,Res.one rfl rfl,⟨by rw [chk_n (by rintro ⟨p1,⟨p2,p3,p4⟩,⟨p5,p6,p7,p8⟩,⟨p9,p10⟩,p11,p12⟩;simp only at p1 p2 p3 p4 p5 p6 p7 p8 p9 p10 p11 p12;first | omega | simp_all)]<;>rfl,ok.chg⟩⟩
   refine .z (.fa T.fd148_2)<|.z (.ldx T.ag3 ok.m0)<|.z (.fa T.fd148_1)<|.z (.ldx T.ag3 ok.m0)<|.z .gtr<|.z .pkf<|.z .pkt<|.z .pkf<|.nil ?_;refine .cd (fun C2=>?_) (fun C2=>?_)
   ·
    refine .seq<|.r<|.z .asI<|.nil ?_;refine .ret ⟨.int .i64 1,Res.one rfl rfl,⟨by rw [chk_n (by rintro ⟨p1,⟨p2,p3,p4⟩,⟨p5,p6,p7,p8⟩,⟨p9,p10⟩,p11,p12⟩;simp only at p1 p2 p3 p4 p5 p6 p7 p8 p9 p10 p11 p12;first | omega | simp_all)]<;>rfl,ok.chg⟩⟩
   refine .skip<|.seq<|.seq<|.r<|.z (.fa T.fd148_4)<|.z (.ldx T.ag3 ok.m0)<|.z .lss<|.z .mvB<|.sd (fun G75=>?_) (fun G75=>?_)
   ·
    refine .y<|.y<|.y<|.z .pkt<|.z .mvB<|.y<|.y<|.y<|.z .pkt<|.z .mvB<|.y<|.y<|.y<|.z .pkt<|.nil ?_;refine .ct<|.seq<|.r<|.z .asI<|.nil ?_;refine .ret ⟨.int .i64 1,Res.one rfl rfl,⟨by rw [chk_n (by rintro ⟨p1,⟨p2,p3,p4⟩,⟨p5,p6,p7,p8⟩,⟨p9,p10⟩,p11,p12⟩;simp only at p1 p2 p3 p4 p5 p6 p7 p8 p9 p10 p11 p12;first | omega | simp_all)]<;>rfl,ok.chg⟩⟩
   refine .z (.fa T.fd148_4)<|.z (.ldx T.ag3 ok.m0)<|.z .gtr<|.z .pkf<|.z .mvB<|.sd (fun G80=>?_) (fun G80=>?_)
   ·
    refine .y<|.y<|.y<|.z .pkt<|.z .mvB<|.y<|.y<|.y<|.z .pkt<|.nil ?_;refine .ct<|.seq<|.r<|.z .asI<|.nil ?_;refine .ret ⟨.int .i64 1,Res.one rfl rfl,⟨by rw [chk_n (by rintro ⟨p1,⟨p2,p3,p4⟩,⟨p5,p6,p7,p8⟩,⟨p9,p10⟩,p11,p12⟩;simp only at p1 p2 p3 p4 p5 p6 p7 p8 p9 p10 p11 p12;first | omega | simp_all)]<;>rfl,ok.chg⟩⟩
   refine .z (.fa T.fd148_5)<|.z (.ldx T.ag3 ok.m0)<|.z .lss<|.z .pkf<|.z .mvB<|.sd (fun G85=>?_) (fun G85=>?_)
   ·
    refine .y<|.y<|.y<|.z .pkt<|.nil ?_;refine .ct<|.seq<|.r<|.z .asI<|.nil ?_;refine .ret ⟨.int .i64 1,Res.one rfl rfl,⟨by rw [chk_n (by rintro ⟨p1,⟨p2,p3,p4⟩,⟨p5,p6,p7,p8⟩,⟨p9,p10⟩,p11,p12⟩;simp only at p1 p2 p3 p4 p5 p6 p7 p8 p9 p10 p11 p12;first | omega | simp_all)]<;>rfl,ok.chg⟩⟩
   refine .z (.fa T.fd148_5)<|.z (.ldx T.ag3 ok.m0)<|.z .gtr<|.z .pkf<|.nil ?_;refine .cd (fun C3=>?_) (fun C3=>?_)
   ·
    refine .seq<|.r<|.z .asI<|.nil ?_;refine .ret ⟨.int .i64 1,Res.one rfl rfl,⟨by rw [chk_n (by rintro ⟨p1,⟨p2,p3,p4⟩,⟨p5,p6,p7,p8⟩,⟨p9,p10⟩,p11,p12⟩;simp only at p1 p2 p3 p4 p5 p6 p7 p8 p9 p10 p11 p12;first | omega | simp_all)]<;>rfl,ok.chg⟩⟩
   refine .skip<|.seq<|.r<|.z .asI<|.nil ?_;refine .ret ⟨.int .i64 0,Res.one rfl rfl,⟨by rw [chk_y ⟨decide_eq_true (by simp only;omega),⟨by simp only;omega,by simp only;omega,by rw [hkz0] at hml;exact hml⟩,⟨by simp only;omega,by simp only;omega,by simp only;omega,by simp only;omega⟩,⟨by simp only;omega,by simp only;omega⟩,by simp only;omega,by simp only;omega⟩]<;>rfl,ok.chg⟩⟩
  refine .y<|.y<|.y<|.y<|.y<|.y<|.y<|.y<|.y<|.y<|.z .pkf<|.z .pkf<|.nil ?_;refine .cf<|.skip<|.seq<|.seq<|.r<|.z (.fa T.fd148_4)<|.z (.ldx T.ag3 ok.m0)<|.z .lss<|.z .mvB<|.sd (fun G75=>?_) (fun G75=>?_)
  ·
   refine .y<|.y<|.y<|.z .pkt<|.z .mvB<|.y<|.y<|.y<|.z .pkt<|.z .mvB<|.y<|.y<|.y<|.z .pkt<|.nil ?_;refine .ct<|.seq<|.r<|.z .asI<|.nil ?_;refine .ret ⟨.int .i64 1,Res.one rfl rfl,⟨by rw [chk_n (by rintro ⟨p1,⟨p2,p3,p4⟩,⟨p5,p6,p7,p8⟩,⟨p9,p10⟩,p11,p12⟩;simp only at p1 p2 p3 p4 p5 p6 p7 p8 p9 p10 p11 p12;first | omega | simp_all)]<;>rfl,ok.chg⟩⟩
  refine .z (.fa T.fd148_4)<|.z (.ldx T.ag3 ok.m0)<|.z .gtr<|.z .pkf<|.z .mvB<|.sd (fun G80=>?_) (fun G80=>?_)
  ·
   refine .y<|.y<|.y<|.z .pkt<|.z .mvB<|.y<|.y<|.y<|.z .pkt<|.nil ?_;refine .ct<|.seq<|.r<|.z .asI<|.nil ?_;refine .ret ⟨.int .i64 1,Res.one rfl rfl,⟨by rw [chk_n (by rintro ⟨p1,⟨p2,p3,p4⟩,⟨p5,p6,p7,p8⟩,⟨p9,p10⟩,p11,p12⟩;simp only at p1 p2 p3 p4 p5 p6 p7 p8 p9 p10 p11 p12;first | omega | simp_all)]<;>rfl,ok.chg⟩⟩
  refine .z (.fa T.fd148_5)<|.z (.ldx T.ag3 ok.m0)<|.z .lss<|.z .pkf<|.z .mvB<|.sd (fun G85=>?_) (fun G85=>?_)
  ·
   refine .y<|.y<|.y<|.z .pkt<|.nil ?_;refine .ct<|.seq<|.r<|.z .asI<|.nil ?_;refine .ret ⟨.int .i64 1,Res.one rfl rfl,⟨by rw [chk_n (by rintro ⟨p1,⟨p2,p3,p4⟩,⟨p5,p6,p7,p8⟩,⟨p9,p10⟩,p11,p12⟩;simp only at p1 p2 p3 p4 p5 p6 p7 p8 p9 p10 p11 p12;first | omega | simp_all)]<;>rfl,ok.chg⟩⟩
  refine .z (.fa T.fd148_5)<|.z (.ldx T.ag3 ok.m0)<|.z .gtr<|.z .pkf<|.nil ?_;refine .cd (fun C3=>?_) (fun C3=>?_)
  ·
   refine .seq<|.r<|.z .asI<|.nil ?_;refine .ret ⟨.int .i64 1,Res.one rfl rfl,⟨by rw [chk_n (by rintro ⟨p1,⟨p2,p3,p4⟩,⟨p5,p6,p7,p8⟩,⟨p9,p10⟩,p11,p12⟩;simp only at p1 p2 p3 p4 p5 p6 p7 p8 p9 p10 p11 p12;first | omega | simp_all)]<;>rfl,ok.chg⟩⟩
  refine .skip<|.seq<|.r<|.z .asI<|.nil ?_;refine .ret ⟨.int .i64 0,Res.one rfl rfl,⟨by rw [chk_y ⟨decide_eq_true (by simp only;omega),⟨by simp only;omega,by simp only;omega,by rw [hkz0] at hml;exact hml⟩,⟨by simp only;omega,by simp only;omega,by simp only;omega,by simp only;omega⟩,⟨by simp only;omega,by simp only;omega⟩,by simp only;omega,by simp only;omega⟩]<;>rfl,ok.chg⟩⟩
 have hlt:=of_decide_eq_true (hbb.symm.trans C0);refine .skip<|.block fun K1 hK1=>.r<|.z .mvI<|.z (.mulI (a:=2))<|.z .asI<|.nil ?_;refine .end<|hK1 _ _<|.end<|hJ0 _ _ _ ⟨2*k,⟨rfl,rfl,trivial⟩,ok,dbl_step (z:=z0) hkc (by omega),.inr (by omega),rfl⟩ (by omega)
theorem rencode_any {h:Heap} {n0 n1 n2 n3 n4 n5:Nat} (h0:n0<4294967296) (h1:n1<4294967296) (h2:n2<4294967296) (h3:n3<4294967296) (h4:n4<4294967296) (h5:n5<4294967296):HC Tryz.prog 176 #[.agg #[.int .i64 (n0:Int),.int .i64 (n1:Int),.int .i64 (n2:Int),.int .i64 (n3:Int),.int .i64 (n4:Int),.int .i64 (n5:Int)]] h (fun v h'=>(¬ChkP ⟨((n0:Nat):Int),((n1:Nat):Int),((n2:Nat):Int),((n3:Nat):Int),((n4:Nat):Int),((n5:Nat):Int)⟩∧v=.tuple #[.slice none 0 0,.int .i64 1]∧Ext h h')∨(ChkP ⟨((n0:Nat):Int),((n1:Nat):Int),((n2:Nat):Int),((n3:Nat):Int),((n4:Nat):Int),((n5:Nat):Int)⟩∧∃w,v=.tuple #[w,.int .i64 0]∧Own h h' 1 5 w ((hdB [n0,n1,n2,n3,n4,n5]).map bv))):=by
 have ok:=Hp.nil h none_;refine HC.go Tryz.func176 53 ?_;refine .seq<|.r<|.a' 1 (.bxA (cs:=[.int .i64 (n0:Int),.int .i64 (n1:Int),.int .i64 (n2:Int),.int .i64 (n3:Int),.int .i64 (n4:Int),.int .i64 (n5:Int)]) ok) ?_;rintro _ η1 ⟨pb1,rfl,ok,xe⟩;refine .z .asS<|.z .asI<|.nil ?_;refine .seq<|.seq<|.r<|.z (.ldb T.ag148 ok.m0 T.sz148)<|.c' 8 .func (rcheck_any (z0:=(n0:Int)) (z1:=(n1:Int)) (z2:=(n2:Int)) (z3:=(n3:Int)) (z4:=(n4:Int)) (z5:=(n5:Int)) (by omega) (by omega) (by omega) (by omega) (by omega) (by omega)) ?_;rintro _ η2 ⟨rfl,hx⟩;have ok:=ok.ext hx;refine .z .neq<|.nil ?_;refine .cd (fun C0=>?_) (fun C0=>?_)
 ·
  refine .seq<|.r<|.z .asS<|.z .asI<|.nil ?_;refine .ret ⟨.tuple #[.slice none 0 0,.int .i64 1],Res.two rfl rfl rfl,.inl ⟨fun p=>C0 (by rw [chk_y p];rfl),rfl,ok.chg⟩⟩
 refine .skip<|.seq<|.r<|.a' 10 (.lit [.const (.int .u8 116),.const (.int .u8 111),.const (.int .u8 109),.const (.int .u8 101),.const (.int .u8 32),.const (.int .u8 102),.const (.int .u8 105),.const (.int .u8 108),.const (.int .u8 101),.const (.int .u8 32),.const (.int .u8 49)] (cs:=[.int .u8 116,.int .u8 111,.int .u8 109,.int .u8 101,.int .u8 32,.int .u8 102,.int .u8 105,.int .u8 108,.int .u8 101,.int .u8 32,.int .u8 49]) T.el22 T.sz5 T.zr5 ok ⟨rfl,rfl,rfl,rfl,rfl,rfl,rfl,rfl,rfl,rfl,rfl,trivial⟩) ?_;rintro _ η3 ⟨pb2,rfl,ok,xe⟩;have ok:=ok.cx (ys:=([116,111,109,101,32,102,105,108,101,32,49]:List UInt8).map bv) rfl;refine .a' 11 (.cvL T.el22 T.in5 ok) ?_;rintro _ η4 ⟨rfl,ok,cg⟩;refine .a' 12 (.lit [.const (.int .u8 0),.const (.int .u8 0),.const (.int .u8 0),.const (.int .u8 0),.const (.int .u8 0)] (cs:=[.int .u8 0,.int .u8 0,.int .u8 0,.int .u8 0,.int .u8 0]) T.el22 T.sz5 T.zr5 ok ⟨rfl,rfl,rfl,rfl,rfl,trivial⟩) ?_;rintro _ η5 ⟨pb3,rfl,ok,xe⟩;have ok:=ok.cx (ys:=([0,0,0,0,0]:List UInt8).map bv) rfl;refine .a' 13 (.app (news:=([0,0,0,0,0]:List UInt8).map bv) T.el22 T.sz5 T.by5 T.zr5 ok.n1 (ok.n1.m1).sl bv_all (by simp only [List.length_map,List.length_append,List.length_take,List.length_cons,List.length_nil,List.length_replicate,List.length_range,fixedN_len,sealN_len];omega)) ?_;rintro _ η6 ⟨ya1,yn1,yc1,rfl,ok,ap⟩;have ok:=ok.cx (ys:=([116,111,109,101,32,102,105,108,101,32,49]++([0,0,0,0,0]:List UInt8)).map bv) (by simp [bv]);obtain rfl:yn1=([116,111,109,101,32,102,105,108,101,32,49]++([0,0,0,0,0]:List UInt8)).length:=ok.lenB;refine .z .asS<|.nil ?_;refine .seq<|.r<|.z (.fa T.fd148_0)<|.z (.ldx T.ag3 ok.m2)<|.z (.fa T.fd148_1)<|.z (.ldx T.ag3 ok.m2)<|.z (.fa T.fd148_2)<|.z (.ldx T.ag3 ok.m2)<|.z (.fa T.fd148_3)<|.z (.ldx T.ag3 ok.m2)<|.z (.fa T.fd148_4)<|.z (.ldx T.ag3 ok.m2)<|.z (.fa T.fd148_5)<|.z (.ldx T.ag3 ok.m2)<|.a' 26 (.lit [.tmp 15,.tmp 17,.tmp 19,.tmp 21,.tmp 23,.tmp 25] (cs:=[.int .i64 (n0:Int),.int .i64 (n1:Int),.int .i64 (n2:Int),.int .i64 (n3:Int),.int .i64 (n4:Int),.int .i64 (n5:Int)]) T.el167 T.sz3 T.zr3 ok ⟨rfl,rfl,rfl,rfl,rfl,rfl,trivial⟩) ?_;rintro _ η7 ⟨pb4,rfl,ok,xe⟩;obtain ⟨N,hN⟩:∃N:List Nat,N=[n0,n1,n2,n3,n4,n5]:=⟨_,rfl⟩;have hNl:N.length=6:=by rw [hN];rfl
 have hNb:∀j (hj:j<N.length),N[j]<4294967296:=by subst hN;intro j hj;match j,hj with | 0,_=>exact h0 | 1,_=>exact h1 | 2,_=>exact h2 | 3,_=>exact h3 | 4,_=>exact h4 | 5,_=>exact h5
 have hML:(N.map Int.ofNat).length=6:=by rw [List.length_map,hNl]
 have ok:=(ok.cx (ys:=(N.map Int.ofNat).map iv) (by rw [hN];rfl)).frzI rfl;refine .z .asS<|.nil ?_;refine .seq<|.seq<|.r<|.z .asI<|.nil ?_;refine .block fun K0 hK0=>.loop (fun m s hh=>∃(i:Nat) (bs:List UInt8) (a4:Option Addr) (c4:Nat),Has s [(4,.slice a4 bs.length c4),(5,.slice (some ⟨pb4,0,none⟩) 6 6),(6,.int .i64 (i:Int))]∧Hp h none_ [capI 1 5 (a4,bs.length,c4) (bs.map bv)] [rdI (blkC (sv (some ⟨pb4,0,none⟩,6,6))) none_ (some ⟨pb4,0,none⟩,6,6) (N.map Int.ofNat)] hh∧i≤6∧bs=signL++hdF (N.take i)∧bs.length=16+4*i∧m=6-i) ?_ ?_
 ·exact ⟨_,0,([116,111,109,101,32,102,105,108,101,32,49]++([0,0,0,0,0]:List UInt8)),ya1,yc1,⟨rfl,rfl,rfl,trivial⟩,(ok).k1,Nat.zero_le _,rfl,rfl,rfl⟩
 rintro _ _ η8 ⟨i,bs,a4,c4,hs,ok,hi,hbs,hbl,rfl⟩ J0 hJ0;refine .frame hs fun τ=>?_;refine .seq<|.seq<|.r<|.z .mvI<|.z .mvS<|.z (.len T.el167)<|.z .lss<|.nil ?_;refine .cdr (fun C1=>?_) (fun C1=>?_)
 ·
  obtain rfl:i=6:=by omega
  rw [show N.take 6=N from by rw [←hNl,List.take_length]] at hbs;refine .exit<|hK0 _ _<|.seq<|.block fun K2 hK2=>.loop (fun m s hh=>∃(k:Nat) (cs:List UInt8) (a6:Option Addr) (c6:Nat),Has s [(4,.slice a6 cs.length c6)]∧Hp h none_ [capI 1 5 (a6,cs.length,c6) (cs.map bv)] [] hh∧k≤20∧cs=signL++hdF N++List.replicate k 0∧cs.length=40+k∧m=20-k) ?_ ?_
  ·exact ⟨_,0,bs,a4,c4,⟨rfl,trivial⟩,(ok).k1.tR,Nat.zero_le _,by rw [hbs];simp,by omega,rfl⟩
  rintro _ _ η9 ⟨k,cs,a6,c6,hs,ok,hk,hcs,hcl,rfl⟩ J1 hJ1;refine .frame hs fun τ=>?_;refine .seq<|.seq<|.r<|.z .mvS<|.z (.len T.el22)<|.z .lss<|.nil ?_;refine .cdr (fun C2=>?_) (fun C2=>?_)
  ·
   obtain rfl:k=20:=by omega
   refine .exit<|hK2 _ _<|.seq<|.r<|.z .mvS<|.z .mvS<|.k 49 .func (rsum_any (a:=a6) (c:=c6) (l:=cs) (RdL.ofCapB (v:=(a6,cs.length,c6)) (l:=cs) ok.m0))<|.z (.cvs T.in77 T.in243 (M:=18446744073709551616) rfl rfl (a:=(sumN cs)) (ha:=by exact Nat.lt_of_lt_of_le (sumN_lt _) (by decide)))<|.c' 51 .func (rfixed_any (n:=(sumN cs)) (size:=4) (by first | omega | exact Nat.lt_of_lt_of_le (sumN_lt _) (by decide)) (by omega) (by omega)) ?_;rintro _ η10 own;obtain ⟨ya2,yc2,rfl⟩:=own.formB;have ok:=ok.own own;refine .a' 52 (.app (news:=(fixedN (sumN cs) 4).map bv) T.el22 T.sz5 T.by5 T.zr5 ok.n1 (ok.n1.m1).sl bv_all (by simp only [List.length_map,List.length_append,List.length_take,List.length_cons,List.length_nil,List.length_replicate,List.length_range,fixedN_len,sealN_len];omega)) ?_;rintro _ η11 ⟨ya3,yn3,yc3,rfl,ok,ap⟩;have ok:=ok.cx (ys:=(cs++(fixedN (sumN cs) 4)).map bv) (by simp [bv]);obtain rfl:yn3=(cs++(fixedN (sumN cs) 4)).length:=ok.lenB;refine .z .asS<|.z .asI<|.nil ?_;refine .ret ⟨.tuple #[.slice ya3 ((cs++(fixedN (sumN cs) 4)).length) yc3,.int .i64 0],Res.two rfl rfl rfl,.inr ⟨chk_o C0,_,rfl,by rw [show hdB [n0,n1,n2,n3,n4,n5]=cs++(fixedN (sumN cs) 4) from by rw [←hN];unfold hdB hdT;rw [←hcs]];exact (ok).toOwn⟩⟩
  refine .skip<|.block fun K3 hK3=>.r<|.z .mvS<|.a' 45 (.lit [.const (.int .u8 0)] (cs:=[.int .u8 0]) T.el22 T.sz5 T.zr5 ok ⟨rfl,trivial⟩) ?_;rintro _ η12 ⟨pb5,rfl,ok,xe⟩;have ok:=ok.cx (ys:=([0]:List UInt8).map bv) rfl;refine .a' 46 (.app (news:=([0]:List UInt8).map bv) T.el22 T.sz5 T.by5 T.zr5 ok.n1 (ok.n1.m1).sl bv_all (by simp only [List.length_map,List.length_append,List.length_take,List.length_cons,List.length_nil,List.length_replicate,List.length_range,fixedN_len,sealN_len];omega)) ?_;rintro _ η13 ⟨ya4,yn4,yc4,rfl,ok,ap⟩;have ok:=ok.cx (ys:=(cs++([0]:List UInt8)).map bv) (by simp [bv]);obtain rfl:yn4=(cs++([0]:List UInt8)).length:=ok.lenB;refine .z .asS<|.nil ?_;refine .end<|hK3 _ _<|.end<|hJ1 _ _ _ ⟨k+1,cs++[0],ya4,yc4,⟨rfl,trivial⟩,(ok).k1,by omega,by rw [hcs,List.append_assoc,←List.replicate_succ'],by rw [List.length_append,hcl];rfl,rfl⟩ (by omega)
 have hi6:i<6:=by omega
 refine .skip<|.seq<|.block fun K1 hK1=>.r<|.z .mvS<|.z .mvS<|.z .mvI<|.z (.ix1 i T.el167 T.sz3)<|.z (.ld T.ag3 (ok.r0.i64 (i:=i) (by omega)))<|?_;have hiN:i<N.length:=by omega
 have hNi:=hNb i hiN;rw [show (N.map Int.ofNat)[i]=((N[i]:Nat):Int) from List.getElem_map _];refine .z (.cvs T.in77 T.in3 (M:=18446744073709551616) rfl rfl)<|.c' 39 .func (rfixed_any (n:=N[i]) (size:=4) (by first | omega | exact Nat.lt_of_lt_of_le (sumN_lt _) (by decide)) (by omega) (by omega)) ?_;rintro _ η14 own;obtain ⟨ya5,yc5,rfl⟩:=own.formB;have ok:=ok.own own;refine .a' 40 (.app (news:=(fixedN (N[i]) 4).map bv) T.el22 T.sz5 T.by5 T.zr5 ok.n1 (ok.n1.m1).sl bv_all (by simp only [List.length_map,List.length_append,List.length_take,List.length_cons,List.length_nil,List.length_replicate,List.length_range,fixedN_len,sealN_len];omega)) ?_;rintro _ η15 ⟨ya6,yn6,yc6,rfl,ok,ap⟩;have ok:=ok.cx (ys:=(bs++(fixedN (N[i]) 4)).map bv) (by simp [bv]);obtain rfl:yn6=(bs++(fixedN (N[i]) 4)).length:=ok.lenB;refine .z .asS<|.nil ?_;refine .end<|hK1 _ _<|.r<|.z .mvI<|.z (.addI (b:=1))<|.z .asI<|.nil ?_;refine .end<|hJ0 _ _ _ ⟨i+1,bs++fixedN N[i] 4,ya6,yc6,⟨rfl,rfl,rfl,trivial⟩,(ok).k1,by omega,by rw [hdF_take hiN,hbs,List.append_assoc],by rw [List.length_append,fixedN_len,hbl];omega,rfl⟩ (by omega)
theorem rfour8_any {h:Heap} {F E:Nat→Prop} {a:Option Addr} {c p:Nat} {l:List UInt8} (hl:RdL h F E (a,l.length,c) l) (hp:p+4≤l.length) :
  HC Tryz.prog 175 #[.slice a l.length c,.int .i64 (p:Int)] h (fun v h'=>v=.int .i64 ((rdN l p 4:Nat):Int)∧h'=h):=by
 have hc2:=hl.m;have hc1:l.length≤c:=hl.c;simp only at hc2;have hrd:=rdN_lt4 l p;refine HC.go Tryz.func175 15 ?_;refine .seq<|.r<|.z .asI<|.nil ?_;refine .seq<|.r<|.z .mvS<|.z .mvI<|.k 10 .func (rread_any (p:=p) (size:=4) (a:=a) (c:=c) (l:=l) hl (by omega) (by omega) (by omega))<|.z .mvU<|.z .ex<|.z .ex<|.z .asI<|.z .asI<|.nil ?_;refine .seq<|.r<|.z .mvI<|.z (.cvi T.in3 T.in77)<|.z .asI<|.nil ?_;refine .ret ⟨.int .i64 (((rdN l p 4):Nat):Int),Res.one rfl rfl,⟨rfl,rfl⟩⟩
theorem rdec_any {h:Heap} {F E:Nat→Prop} {a:Option Addr} {c:Nat} {l:List UInt8} (hl:RdL h F E (a,l.length,c) l) :
  HC Tryz.prog 128 #[.slice a l.length c] h (fun v h'=>v=.tuple #[(decN l).1.val,.int .i64 ((decN l).2:Int)]∧Ext h h'):=by
 have hc2:=hl.m;have hc1:l.length≤c:=hl.c;simp only at hc2;have ok:=(Hp.nil h none_).arg hl;have hf0:rdN l 16 4<4294967296:=rdN_lt4 _ _;have hf1:rdN l 20 4<4294967296:=rdN_lt4 _ _;have hf2:rdN l 24 4<4294967296:=rdN_lt4 _ _;have hf3:rdN l 28 4<4294967296:=rdN_lt4 _ _;have hf4:rdN l 32 4<4294967296:=rdN_lt4 _ _;have hf5:rdN l 36 4<4294967296:=rdN_lt4 _ _;refine HC.go Tryz.func128 45 ?_;refine .seq<|.r<|.a' 2 (.alA T.zr148 ok) ?_;rintro _ η1 ⟨pb1,rfl,ok,xe⟩;refine .z .asI<|.nil ?_;refine .seq<|.seq<|.r<|.z .mvS<|.z (.len T.el22)<|.z .lss<|.nil ?_;refine .cd (fun C0=>?_) (fun C0=>?_)
 ·
  refine .seq<|.r<|.z (.bd #[.int .i64 0,.int .i64 0,.int .i64 0,.int .i64 0,.int .i64 0,.int .i64 0] T.zr148 T.pl148 (by kernel_rfl))<|.ur' (.stW (vs:=[.int .i64 0,.int .i64 0,.int .i64 0,.int .i64 0,.int .i64 0,.int .i64 0]) T.sz148 ok (oneL rfl)) ?_;rintro η2 ⟨ok,cg⟩;refine .z .asI<|.nil ?_;refine .ret ⟨.tuple #[.agg #[.int .i64 0,.int .i64 0,.int .i64 0,.int .i64 0,.int .i64 0,.int .i64 0],.int .i64 6],Res.many (vs:=[.agg #[.int .i64 0,.int .i64 0,.int .i64 0,.int .i64 0,.int .i64 0,.int .i64 0],.int .i64 6]) rfl ⟨⟨_,rfl,load_ag T.ag148 ok.m0 T.sz148⟩,rfl,trivial⟩ rfl,⟨by rw [dec6 (by omega)];rfl,ok.chg⟩⟩
 refine .skip<|.seq<|.seq<|.r<|.z .mvS<|.z (.sl_h ((l.take 16).length) T.el22 T.sz5 (hb:=by (simp;omega)))<|?_;have ok:=ok.d0 (rdI (fun j=>F j∧j<h.size) (fun j=>E j∧j<h.size) (a,(l.take 16).length,c) (l.take 16)) ((ok.r0).pre (l2:=l.take 16) (List.take_prefix _ _)) (fun _ h=>h);refine .z (.bts T.el22 T.in5 T.st9 (ok.r0).by)<|.z .tNeB<|.nil ?_;refine .cd (fun C1=>?_) (fun C1=>?_)
 ·
  refine .seq<|.r<|.z (.bd #[.int .i64 0,.int .i64 0,.int .i64 0,.int .i64 0,.int .i64 0,.int .i64 0] T.zr148 T.pl148 (by kernel_rfl))<|.ur' (.stW (vs:=[.int .i64 0,.int .i64 0,.int .i64 0,.int .i64 0,.int .i64 0,.int .i64 0]) T.sz148 ok (oneL rfl)) ?_;rintro η3 ⟨ok,cg⟩;refine .z .asI<|.nil ?_;refine .ret ⟨.tuple #[.agg #[.int .i64 0,.int .i64 0,.int .i64 0,.int .i64 0,.int .i64 0,.int .i64 0],.int .i64 8],Res.many (vs:=[.agg #[.int .i64 0,.int .i64 0,.int .i64 0,.int .i64 0,.int .i64 0,.int .i64 0],.int .i64 8]) rfl ⟨⟨_,rfl,load_ag T.ag148 ok.m0 T.sz148⟩,rfl,trivial⟩ rfl,⟨by rw [dec8 (by omega) C1];rfl,ok.chg⟩⟩
 refine .skip<|.seq<|.r<|.z .mvS<|.k 17 .func (rfour8_any (p:=16) (a:=a) (c:=c) (l:=l) ok.r1 (by omega))<|.z .mvS<|.k 19 .func (rfour8_any (p:=20) (a:=a) (c:=c) (l:=l) ok.r1 (by omega))<|.z .mvS<|.k 21 .func (rfour8_any (p:=24) (a:=a) (c:=c) (l:=l) ok.r1 (by omega))<|.z .mvS<|.k 23 .func (rfour8_any (p:=28) (a:=a) (c:=c) (l:=l) ok.r1 (by omega))<|.z .mvS<|.k 25 .func (rfour8_any (p:=32) (a:=a) (c:=c) (l:=l) ok.r1 (by omega))<|.z .mvS<|.k 27 .func (rfour8_any (p:=36) (a:=a) (c:=c) (l:=l) ok.r1 (by omega))<|.z (.bd #[.int .i64 ((rdN l 16 4:Nat):Int),.int .i64 ((rdN l 20 4:Nat):Int),.int .i64 ((rdN l 24 4:Nat):Int),.int .i64 ((rdN l 28 4:Nat):Int),.int .i64 ((rdN l 32 4:Nat):Int),.int .i64 ((rdN l 36 4:Nat):Int)] T.zr148 T.pl148 (by kernel_rfl))<|.a' 4 (.alA T.zr148 ok) ?_;rintro _ η4 ⟨pb2,rfl,ok,xe⟩;refine .ur' (.stW (vs:=[.int .i64 ((rdN l 16 4:Nat):Int),.int .i64 ((rdN l 20 4:Nat):Int),.int .i64 ((rdN l 24 4:Nat):Int),.int .i64 ((rdN l 28 4:Nat):Int),.int .i64 ((rdN l 32 4:Nat):Int),.int .i64 ((rdN l 36 4:Nat):Int)]) T.sz148 ok (oneL rfl)) ?_;rintro η5 ⟨ok,cg⟩;refine .nil ?_;refine .seq<|.r<|.z (.ldb T.ag148 ok.m0 T.sz148)<|.c' 31 .func (rencode_any (n0:=(rdN l 16 4)) (n1:=(rdN l 20 4)) (n2:=(rdN l 24 4)) (n3:=(rdN l 28 4)) (n4:=(rdN l 32 4)) (n5:=(rdN l 36 4)) hf0 hf1 hf2 hf3 hf4 hf5) ?_;rintro _ η6 (⟨hnc,rfl,hx⟩ | ⟨hyc,w,rfl,own⟩)
 ·
  have ok:=ok.ext hx;refine .z .mvU<|.z .ex<|.z .ex<|.z .asS<|.z .asI<|.nil ?_;refine .seq<|.seq<|?_;have ok:=ok.d1 (rdI (fun j=>F j∧j<h.size) (fun j=>E j∧j<h.size) (a,(l.take 64).length,c) (l.take 64)) ((ok.r1).pre (l2:=l.take 64) (List.take_prefix _ _)) (fun _ h=>h);refine .r<|.z .mvI<|.z .neq<|.z .mvB<|.y<|.y<|.y<|.y<|.y<|.z .pkt<|.nil ?_;refine .ct<|.seq<|.r<|.z (.bd #[.int .i64 0,.int .i64 0,.int .i64 0,.int .i64 0,.int .i64 0,.int .i64 0] T.zr148 T.pl148 (by kernel_rfl))<|.ur' (.stW (vs:=[.int .i64 0,.int .i64 0,.int .i64 0,.int .i64 0,.int .i64 0,.int .i64 0]) T.sz148 ok.n1 (oneL rfl)) ?_;rintro η7 ⟨ok,cg⟩;refine .z .asI<|.nil ?_;refine .ret ⟨.tuple #[.agg #[.int .i64 0,.int .i64 0,.int .i64 0,.int .i64 0,.int .i64 0,.int .i64 0],.int .i64 14],Res.many (vs:=[.agg #[.int .i64 0,.int .i64 0,.int .i64 0,.int .i64 0,.int .i64 0,.int .i64 0],.int .i64 14]) rfl ⟨⟨_,rfl,load_ag T.ag148 ok.m0 T.sz148⟩,rfl,trivial⟩ rfl,⟨by rw [dec14 (by omega) (by simpa using C1) (fun q=>by first | exact hnc q.1 | exact C2 q.2)];rfl,ok.chg⟩⟩
 obtain ⟨ya1,yc1,rfl⟩:=own.formB;have ok:=ok.own own;refine .z .mvU<|.z .ex<|.z .ex<|.z .asS<|.z .asI<|.nil ?_;refine .seq<|.seq<|?_;have ok:=ok.d1 (rdI (fun j=>F j∧j<h.size) (fun j=>E j∧j<h.size) (a,(l.take 64).length,c) (l.take 64)) ((ok.r1).pre (l2:=l.take 64) (List.take_prefix _ _)) (fun _ h=>h);refine .r<|.z .mvI<|.z .neq<|.z .mvB<|.z .mvS<|.z .mvS<|.z (.sl_h ((l.take 64).length) T.el22 T.sz5 (hb:=by (simp;omega)))<|.k 40 .func (same_any (a:=ya1) (c:=yc1) (l:=(hdB [(rdN l 16 4),(rdN l 20 4),(rdN l 24 4),(rdN l 28 4),(rdN l 32 4),(rdN l 36 4)])) (b:=a) (d:=c) (l2:=(l.take 64)) (RdL.ofCapB (v:=(ya1,(hdB [(rdN l 16 4),(rdN l 20 4),(rdN l 24 4),(rdN l 28 4),(rdN l 32 4),(rdN l 36 4)]).length,yc1)) (l:=(hdB [(rdN l 16 4),(rdN l 20 4),(rdN l 24 4),(rdN l 28 4),(rdN l 32 4),(rdN l 36 4)])) ok.m0) ok.r0)<|.z .notd<|.z .pkf<|.nil ?_;refine .cd (fun C2=>?_) (fun C2=>?_)
 ·
  refine .seq<|.r<|.z (.bd #[.int .i64 0,.int .i64 0,.int .i64 0,.int .i64 0,.int .i64 0,.int .i64 0] T.zr148 T.pl148 (by kernel_rfl))<|.ur' (.stW (vs:=[.int .i64 0,.int .i64 0,.int .i64 0,.int .i64 0,.int .i64 0,.int .i64 0]) T.sz148 ok.n2 (oneL rfl)) ?_;rintro η8 ⟨ok,cg⟩;refine .z .asI<|.nil ?_;refine .ret ⟨.tuple #[.agg #[.int .i64 0,.int .i64 0,.int .i64 0,.int .i64 0,.int .i64 0,.int .i64 0],.int .i64 14],Res.many (vs:=[.agg #[.int .i64 0,.int .i64 0,.int .i64 0,.int .i64 0,.int .i64 0,.int .i64 0],.int .i64 14]) rfl ⟨⟨_,rfl,load_ag T.ag148 ok.m0 T.sz148⟩,rfl,trivial⟩ rfl,⟨by rw [dec14 (by omega) (by simpa using C1) (fun q=>by first | exact hnc q.1 | exact C2 q.2)];rfl,ok.chg⟩⟩
 refine .skip<|.seq<|.r<|.z (.ldb T.ag148 ok.m1 T.sz148)<|.ur' (.stW (vs:=[.int .i64 ((rdN l 16 4:Nat):Int),.int .i64 ((rdN l 20 4:Nat):Int),.int .i64 ((rdN l 24 4:Nat):Int),.int .i64 ((rdN l 28 4:Nat):Int),.int .i64 ((rdN l 32 4:Nat):Int),.int .i64 ((rdN l 36 4:Nat):Int)]) T.sz148 ok.n2 (oneL rfl)) ?_;rintro η9 ⟨ok,cg⟩;refine .z .asI<|.nil ?_;refine .ret ⟨.tuple #[.agg #[.int .i64 ((rdN l 16 4:Nat):Int),.int .i64 ((rdN l 20 4:Nat):Int),.int .i64 ((rdN l 24 4:Nat):Int),.int .i64 ((rdN l 28 4:Nat):Int),.int .i64 ((rdN l 32 4:Nat):Int),.int .i64 ((rdN l 36 4:Nat):Int)],.int .i64 0],Res.many (vs:=[.agg #[.int .i64 ((rdN l 16 4:Nat):Int),.int .i64 ((rdN l 20 4:Nat):Int),.int .i64 ((rdN l 24 4:Nat):Int),.int .i64 ((rdN l 28 4:Nat):Int),.int .i64 ((rdN l 32 4:Nat):Int),.int .i64 ((rdN l 36 4:Nat):Int)],.int .i64 0]) rfl ⟨⟨_,rfl,load_ag T.ag148 ok.m0 T.sz148⟩,rfl,trivial⟩ rfl,⟨by rw [dec0 (by omega) (by simpa using C1) ⟨hyc,Classical.not_not.1 C2⟩];rfl,ok.chg⟩⟩
theorem hdB_len6 {a b c d e f:Nat} : (hdB [a,b,c,d,e,f]).length=64:=by
 unfold hdB hdT hdF;simp [fixedN_len]
def headP (z:Nat) (fb:UInt8):List UInt8:=hdB [z,1,0,0,fb.toNat,0]++List.replicate (z-64) fb
theorem chk_head {z c:Nat} (hz:okSz z=true) (hc:c<256):ChkP ⟨((z:Nat):Int),((1:Nat):Int),((0:Nat):Int),((0:Nat):Int),((c:Nat):Int),((0:Nat):Int)⟩:=by
 have:=okSz_cases hz;refine ⟨decide_eq_true (by simp only;omega),⟨by simp only;omega,by simp only;omega,by simp only;omega⟩,⟨by simp only;omega,by simp only;omega,fun _=>rfl,by simp only;omega⟩,⟨by simp only;omega,by simp only;omega⟩,by simp only;omega,by simp only;omega⟩
theorem headP_len {z:Nat} {fb:UInt8} (hz:okSz z=true):(headP z fb).length=z:=by
 have:=okSz_cases hz;unfold headP;rw [List.length_append,hdB_len6,List.length_replicate];omega
theorem hencode_any {h:Heap} {n0 n1 n2 n3 n4 n5:Nat} (h0:n0<4294967296) (h1:n1<4294967296) (h2:n2<4294967296) (h3:n3<4294967296) (h4:n4<4294967296) (h5:n5<4294967296) (hc:ChkP ⟨((n0:Nat):Int),((n1:Nat):Int),((n2:Nat):Int),((n3:Nat):Int),((n4:Nat):Int),((n5:Nat):Int)⟩):HC Tryz.prog 127 #[.agg #[.int .i64 (n0:Int),.int .i64 (n1:Int),.int .i64 (n2:Int),.int .i64 (n3:Int),.int .i64 (n4:Int),.int .i64 (n5:Int)]] h (fun v h'=>∃w,v=.tuple #[w,.int .i64 0]∧Own h h' 1 5 w ((hdB [n0,n1,n2,n3,n4,n5]).map bv)):=by
 have ok:=Hp.nil h none_;refine HC.go Tryz.func127 12 ?_;refine .seq<|.r<|.a' 1 (.bxA (cs:=[.int .i64 (n0:Int),.int .i64 (n1:Int),.int .i64 (n2:Int),.int .i64 (n3:Int),.int .i64 (n4:Int),.int .i64 (n5:Int)]) ok) ?_;rintro _ η1 ⟨pb1,rfl,ok,xe⟩;refine .z .asS<|.z .asI<|.nil ?_;refine .seq<|.seq<|.r<|.z (.ldb T.ag148 ok.m0 T.sz148)<|.c' 6 .func (check_any (z0:=(n0:Int)) (z1:=(n1:Int)) (z2:=(n2:Int)) (z3:=(n3:Int)) (z4:=(n4:Int)) (z5:=(n5:Int)) (by omega) (by omega) (by omega) (by omega) (by omega) (by omega)) ?_;rintro _ η2 ⟨rfl,hx⟩;have ok:=ok.ext hx;refine .z .asI<|.nil ?_;refine .seq<|.r<|.z .mvI<|.z .neq<|.nil ?_;refine .cd (fun C0=>?_) (fun C0=>?_)
 ·
  exact absurd (by rw [chk_y hc];rfl) C0
 refine .skip<|.seq<|.r<|.z (.ldb T.ag148 ok.m0 T.sz148)<|.c' 11 .func (hbytes_any (n0:=n0) (n1:=n1) (n2:=n2) (n3:=n3) (n4:=n4) (n5:=n5) (by omega) (by omega) (by omega) (by omega) (by omega) (by omega)) ?_;rintro _ η3 own;obtain ⟨ya1,yc1,rfl⟩:=own.formB;have ok:=ok.own own;refine .z .asS<|.z .asI<|.nil ?_;refine .ret ⟨.tuple #[.slice ya1 ((hdB [n0,n1,n2,n3,n4,n5]).length) yc1,.int .i64 0],Res.two rfl rfl rfl,⟨_,rfl,(ok).toOwn⟩⟩
theorem head14_any {h:Heap} {z:Nat} {fb:UInt8} (hz:okSz z=true):HC Tryz.prog 62 #[.int .i64 (z:Int),.int .u8 (fb.toNat:Int)] h (fun v h'=>Own h h' 1 5 v ((headP z fb).map bv)):=by
 have ok:=Hp.nil h none_;have hzc:=okSz_cases hz;have hfb:=fb.toNat_lt;have hb6:(hdB [z,1,0,0,fb.toNat,0]).length=64:=hdB_len6;refine HC.go Tryz.func62 28 ?_;refine .seq<|.r<|.z .asS<|.nil ?_;refine .seq<|.r<|.z .mvI<|.z .mvI<|.z (.cvi T.in3 T.in5 (ha:=by omega))<|.z (.bd #[.int .i64 (z:Int),.int .i64 1,.int .i64 0,.int .i64 0,.int .i64 ((fb.toNat:Nat):Int),.int .i64 0] T.zr148 T.pl148 rfl)<|.c' 13 .func (hencode_any (n0:=z) (n1:=1) (n2:=0) (n3:=0) (n4:=fb.toNat) (n5:=0) (by omega) (by omega) (by omega) (by omega) (by omega) (by omega) (chk_head hz hfb)) ?_;rintro _ η1 ⟨w,rfl,own⟩;obtain ⟨ya1,yc1,rfl⟩:=own.formB;have ok:=ok.own own;refine .z .mvU<|.z .ex<|.z .ex<|.z .asS<|.z .asI<|.nil ?_;refine .seq<|.r<|.a' 16 (.lit [] (cs:=[]) T.el22 T.sz5 T.zr5 ok trivial) ?_;rintro _ η2 ⟨pb1,rfl,ok,xe⟩;have ok:=ok.cx (ys:=([]:List UInt8).map bv) rfl;refine .z .mvS<|.a' 18 (.app (news:=(hdB [z,1,0,0,fb.toNat,0]).map bv) T.el22 T.sz5 T.by5 T.zr5 ok (ok.m1).sl bv_all (by simp only [List.length_map,List.length_append,List.length_take,List.length_cons,List.length_nil,List.length_replicate,List.length_range,fixedN_len,sealN_len];omega)) ?_;rintro _ η3 ⟨ya2,yn1,yc2,rfl,ok,ap⟩;have ok:=ok.cx (ys:=((hdB [z,1,0,0,fb.toNat,0])).map bv) (by simp [bv]);obtain rfl:yn1=((hdB [z,1,0,0,fb.toNat,0])).length:=ok.lenB;refine .z .asS<|.nil ?_;refine .seq<|.block fun K0 hK0=>.loop (fun m s hh=>∃(i:Nat) (bs:List UInt8) (a7:Option Addr) (c7:Nat),Has s [(0,.int .i64 (z:Int)),(1,.int .u8 (fb.toNat:Int)),(7,.slice a7 bs.length c7)]∧Hp h none_ [capI 1 5 (a7,bs.length,c7) (bs.map bv)] [] hh∧i+64≤z∧bs=hdB [z,1,0,0,fb.toNat,0]++List.replicate i fb∧bs.length=i+64∧m=z-i) ?_ ?_
 ·exact ⟨_,0,(hdB [z,1,0,0,fb.toNat,0]),ya2,yc2,⟨rfl,rfl,rfl,trivial⟩,(ok).k1,by omega,by simp,by simp [hdB_len6],rfl⟩
 rintro _ _ η4 ⟨i,bs,a7,c7,hs,ok,hi,hbs,hbl,rfl⟩ J0 hJ0;refine .frame hs fun τ=>?_;refine .seq<|.seq<|.r<|.z .mvS<|.z (.len T.el22)<|.z .mvI<|.z .lss<|.nil ?_;refine .cdr (fun C0=>?_) (fun C0=>?_)
 ·
  have hiz:i=z-64:=by omega
  refine .exit<|hK0 _ _<|.seq<|.r<|.z .mvS<|.z .asS<|.nil ?_;refine .ret ⟨.slice a7 bs.length c7,Res.one rfl rfl,(by rw [show headP z fb=bs from by rw [hbs,hiz];rfl];exact (ok).toOwn)⟩
 refine .skip<|.block fun K1 hK1=>.r<|.z .mvS<|.z .mvI<|.a' 25 (.lit [.tmp 24] (cs:=[.int .u8 (fb.toNat:Int)]) T.el22 T.sz5 T.zr5 ok ⟨rfl,trivial⟩) ?_;rintro _ η5 ⟨pb2,rfl,ok,xe⟩;have ok:=ok.cx (ys:=([fb]:List UInt8).map bv) rfl;refine .a' 26 (.app (news:=([fb]:List UInt8).map bv) T.el22 T.sz5 T.by5 T.zr5 ok.n1 (ok.n1.m1).sl bv_all (by simp only [List.length_map,List.length_append,List.length_take,List.length_cons,List.length_nil,List.length_replicate,List.length_range,fixedN_len,sealN_len];omega)) ?_;rintro _ η6 ⟨ya3,yn2,yc3,rfl,ok,ap⟩;have ok:=ok.cx (ys:=(bs++([fb]:List UInt8)).map bv) (by simp [bv]);obtain rfl:yn2=(bs++([fb]:List UInt8)).length:=ok.lenB;refine .z .asS<|.nil ?_;refine .end<|hK1 _ _<|.end<|hJ0 _ _ _ ⟨i+1,bs++[fb],ya3,yc3,⟨rfl,rfl,rfl,trivial⟩,(ok).k1,by omega,by rw [hbs,List.append_assoc,←List.replicate_succ'],by rw [show (bs++[fb]).length=bs.length+1 by simp,hbl,Nat.add_right_comm],rfl⟩ (by omega)
abbrev SB:=Option Addr × Nat × List UInt8
structure RwB {α:Type} (k:Nat) (f:α→List Value) (g:α→SB) (h:Heap) (E:Nat→Prop) (x:SV) (l:List α):Prop where
 sl:Sl h k (sv x) (l.flatMap f)
 n:x.2.1=l.length
 bl:∀j,blk (sv x) j→E j
 by':∀y∈l,RdL h E E ((g y).1,(g y).2.2.length,(g y).2.1) (g y).2.2
section
variable {α:Type} {k:Nat} {f:α→List Value} {g:α→SB} {h h':Heap} {E E' G:Nat→Prop} {x:SV} {l:List α}
theorem RwB.st (c:Chg G h h') (d:∀j,E j→¬G j) (r:RwB k f g h E x l):RwB k f g h' E x l:=⟨Sl.chg c r.sl fun j hj=>d j (r.bl j hj),r.n,r.bl,fun y hy=>(r.by' y hy).st c d d⟩
theorem RwB.ext (c:Ext h h') (r:RwB k f g h E x l):RwB k f g h' E x l:=r.st c fun _ _ f=>f
theorem RwB.mono (hE:∀j,E j→E' j) (r:RwB k f g h E x l):RwB k f g h E' x l:=⟨r.sl,r.n,fun j hj=>hE j (r.bl j hj),fun y hy=>(r.by' y hy).mono hE hE⟩
theorem RwB.lt (hk:0<k) (r:RwB k f g h E x l):RwB k f g h (fun j=>E j∧j<h.size) x l:=⟨r.sl,r.n,fun j hj=>⟨r.bl j hj,blk_lt hk r.sl j hj⟩,fun y hy=>(r.by' y hy).lt⟩
@[reducible] def rwI (k:Nat) (f:α→List Value) (g:α→SB) (E:Nat→Prop) (x:SV) (l:List α):Itm:=⟨fun h=>RwB k f g h E x l,E,fun _ _ _ c d r=>r.st c d⟩
theorem RwB.pos {a:Option Addr} {n c:Nat} (r:RwB k f g h E (a,n,c) l) (hk:0<n):∃b o,a=some ⟨b,o,none⟩∧E b:=by
 obtain ⟨a',n',c',e,_,_,h3⟩:=r.sl;injection e with e1 e2 e3;subst e1 e2 e3;obtain ⟨b,o,e,_⟩:=h3.2 hk;subst e;exact ⟨b,o,rfl,r.bl b ⟨o,n,c,rfl,hk⟩⟩
theorem RwB.nil (h:Heap) (E:Nat→Prop) (c:Nat) (hc:c≤9223372036854775807):RwB k f g h E (none,0,c) ([]:List α):=⟨⟨none,0,c,rfl,Nat.zero_le _,hc,by simp,fun h=>absurd h (by omega)⟩,rfl,fun j ⟨o,n,c,e,hn⟩=>(by cases e),fun _ h=>(by cases h)⟩
theorem RwB.m {a:Option Addr} {n c:Nat} (r:RwB k f g h E (a,n,c) l):n≤c∧c≤9223372036854775807:=by
 obtain ⟨a',n',c',e,h1,h2,h3⟩:=r.sl;injection e with e1 e2 e3;subst e1 e2 e3;exact ⟨h1,h2⟩
theorem RwB.ofCap {e:TypeId} (hk:0<k) (hf:∀y,(f y).length=k) (c:Cap h k e (sv x) (l.flatMap f)) (hb:∀j,blkC (sv x) j→E j) (h2:∀y∈l,RdL h E E ((g y).1,(g y).2.2.length,(g y).2.1) (g y).2.2):RwB k f g h E x l:=by
 obtain ⟨a,n,c'⟩:=x;have hs:=c.sl;refine ⟨hs,?_,fun j ⟨o,n,c,e,_⟩=>hb j ⟨o,n,c,e⟩,h2⟩;have h1:=hs.cells.1;have h3:(l.flatMap f).length=l.length*k:=by
  clear hs h1 c h2;induction l with
  | nil=>simp
  | cons y l ih=>rw [List.flatMap_cons,List.length_append,hf,ih,List.length_cons,Nat.add_mul];omega
 rw [h3] at h1;exact (Nat.eq_of_mul_eq_mul_right hk h1).symm
end
theorem sl_at1 {α:Type} {f:α→List Value} (hf:∀y,(f y).length=1) {h:Heap} {b o n c:Nat} {l:List α} (r:Sl h 1 (.slice (some ⟨b,o,none⟩) n c) (l.flatMap f)) {i:Nat} (hi:i<l.length) {v:Value} (hv:(f l[i])[0]? = some v):cell h b (o+i)=some v:=by
 have:=sl_at hf r hi (j:=0) hv;simpa using this
def RB.cells (x:RB):List Value:=[.slice x.a x.l.length x.c]
def RB.sb (x:RB):SB:=(x.a,x.c,x.l)
theorem RB.cells_len (x:RB):x.cells.length=1:=rfl
abbrev PgB (h:Heap) (E:Nat→Prop) (x:SV) (l:List RB):Prop:=RwB 1 RB.cells RB.sb h E x l
@[reducible] def pgwI (E:Nat→Prop) (x:SV) (l:List RB):Itm:=rwI 1 RB.cells RB.sb E x l
def pgs (l:List RB):List (List UInt8):=l.map RB.l
theorem pgs_len {l:List RB} : (pgs l).length=l.length:=List.length_map _
theorem pgs_at {l:List RB} {i:Nat} (h:i<l.length):(pgs l)[i]'(by rw [pgs_len];exact h)=l[i].l:=List.getElem_map _
def Pby (h:Heap) (E:Nat→Prop) (l:List RB):Prop:=∀y∈l,RdL h E E (y.a,y.l.length,y.c) y.l
@[reducible] def pbyI (E:Nat→Prop) (l:List RB):Itm:=⟨fun h=>Pby h E l,E,fun _ _ _ c d b y hy=>(b y hy).st c d d⟩
theorem Pby.nil {h:Heap} {E:Nat→Prop} : Pby h E []:=fun _ hy=>by cases hy
theorem Pby.mono {h:Heap} {E E':Nat→Prop} {l:List RB} (hE:∀j,E j→E' j) (b:Pby h E l):Pby h E' l:=fun y hy=>(b y hy).mono hE hE
theorem Pby.snoc {h:Heap} {E:Nat→Prop} {l:List RB} {x:RB} (b:Pby h E l) (hx:RdL h E E (x.a,x.l.length,x.c) x.l):Pby h E (l++[x]):=fun y hy=>(List.mem_append.1 hy).elim (b y) fun h=>by rw [List.mem_singleton.1 h];exact hx
theorem Pby.set {h:Heap} {E:Nat→Prop} {l:List RB} {x:RB} {i:Nat} (b:Pby h E l) (hx:RdL h E E (x.a,x.l.length,x.c) x.l):Pby h E (l.set i x):=fun y hy=>by
 rcases List.mem_or_eq_of_mem_set hy with h1 | h1
 ·exact b y h1
 ·rw [h1];exact hx
theorem Pby.sub {h:Heap} {E:Nat→Prop} {l l2:List RB} (b:Pby h E l) (hs:∀y∈l2,y∈l):Pby h E l2:=fun y hy=>b y (hs y hy)
theorem PgB.of {h:Heap} {E E':Nat→Prop} {e:TypeId} {x:SV} {l:List RB} (c:Cap h 1 e (sv x) (l.flatMap RB.cells)) (b:Pby h E' l) (hc:∀j,blkC (sv x) j→E j) (hE:∀j,E' j→E j):PgB h E x l:=RwB.ofCap (by decide) RB.cells_len c hc fun y hy=>(b y hy).mono hE hE
structure WPg where
 z:Nat
 sure:List (List UInt8)
 now:List (List UInt8)
 in_:Bool
 fr:Nat
structure RWp where
 z:Nat
 sa:Option Addr
 sc:Nat
 sl:List RB
 na:Option Addr
 nc:Nat
 nl:List RB
 i:Bool
 fr:Nat
def RWp.abs (w:RWp):WPg:=⟨w.z,pgs w.sl,pgs w.nl,w.i,w.fr⟩
def RWp.cells (w:RWp):Array Value:=#[.int .i64 (w.z:Int),.slice w.sa w.sl.length w.sc,.slice w.na w.nl.length w.nc,.bool w.i,.int .i64 (w.fr:Int)]
structure DocP (h:Heap) (E:Nat→Prop) (w:RWp):Prop where
 s:PgB h E (w.sa,w.sl.length,w.sc) w.sl
 n:PgB h E (w.na,w.nl.length,w.nc) w.nl
theorem DocP.st {G h h' E w} (c:Chg G h h') (d:∀j,E j→¬G j) (r:DocP h E w):DocP h' E w:=⟨r.s.st c d,r.n.st c d⟩
theorem DocP.mono {h:Heap} {E E':Nat→Prop} {w:RWp} (hE:∀j,E j→E' j) (r:DocP h E w):DocP h E' w:=⟨r.s.mono hE,r.n.mono hE⟩
structure PRet (h:Heap) (E:Nat→Prop) (w:RWp) (h':Heap):Prop where
 ext:Ext h h'
 rd:DocP h' (fun j=>E j∨Nw h h' j) w
def WPg.pages (w:WPg):List (List UInt8):=if w.in_=true then w.now else w.sure
def beginP (w:WPg):WPg × Nat:=if w.in_=true then (w,10) else ({ w with in_:=true,now:=w.sure },0)
def readP (w:WPg) (no:Int):List UInt8 × Nat:=if no<1∨(w.pages.length:Int)<no then ([],1) else (w.pages.getD (no-1).toNat [],0)
def writeP (w:WPg) (no:Int) (b:List UInt8):WPg × Nat:=if w.in_=false then (w,10) else if no<1∨(w.now.length:Int)<no∨b.length≠w.z then (w,1) else ({ w with now:=w.now.set (no-1).toNat b },0)
def resizeP (w:WPg) (n:Int):WPg × Nat:=if w.in_=false then (w,10) else if n<0 then (w,1) else if 1048576<n∨16777216 / (w.z:Int)<n then (w,5) else ({ w with now:=growL w.now w.z n.toNat },0)
def commitP (w:WPg):WPg × Nat:=
 if w.in_=false then (w,10) else if w.now=[]∧w.sure≠[] then (w,8) else if w.now≠[]∧hdOk (w.now.getD 0 []) w.z=false then (w,8) else
 if 16777196 / (w.z+16)<(listN w.now w.sure).length then (w,5) else
 (⟨w.z,w.now,[],false,(if 16777196 / (w.z+16)<w.fr+(listN w.now w.sure).length then 0 else w.fr)+(listN w.now w.sure).length⟩,0)
def rollbackP (w:WPg):WPg × Nat:=if w.in_=false then (w,10) else (⟨w.z,w.sure,[],false,w.fr⟩,0)
def checkP (w:WPg):WPg × Nat:=if w.in_=true then (w,10) else (⟨w.z,w.sure,[],false,0⟩,0)
def openP (w:WPg):WPg:=⟨w.z,w.sure,[],false,0⟩
def pgA (i:Bool) (na sa:Option Addr):Option Addr:=if i=true then na else sa
def pgC (i:Bool) (nc sc:Nat):Nat:=if i=true then nc else sc
def pgL' (i:Bool) (nl sl:List RB):List RB:=if i=true then nl else sl
theorem DocP.pages {h:Heap} {E:Nat→Prop} {z fr sc nc:Nat} {sa na:Option Addr} {sl nl:List RB} {i:Bool} (r:DocP h E ⟨z,sa,sc,sl,na,nc,nl,i,fr⟩):PgB h E (pgA i na sa,(pgL' i nl sl).length,pgC i nc sc) (pgL' i nl sl):=by
 cases i
 ·exact r.s
 ·exact r.n
open Go Go.HL
structure PO6 where
 k:Nat
 no:Int
 n:Int
 fb:UInt8
 hd:Bool
 b:List UInt8
structure ROp6 where
 k:Nat
 no:Int
 n:Int
 fb:UInt8
 hd:Bool
 ba:Option Addr
 bc:Nat
 bl:List UInt8
def ROp6.abs (x:ROp6):PO6:=⟨x.k,x.no,x.n,x.fb,x.hd,x.bl⟩
def ROp6.cells (x:ROp6):List Value:=[.int .u8 (x.k:Int),.int .i64 x.no,.int .i64 x.n,.int .u8 (x.fb.toNat:Int),.bool x.hd,.slice x.ba x.bl.length x.bc]
def ROp6.sb (x:ROp6):SB:=(x.ba,x.bc,x.bl)
theorem ROp6.cells_len (x:ROp6):x.cells.length=6:=rfl
def pageP (z:Nat) (x:PO6):List UInt8:=if x.hd=true then headP z x.fb else (List.range z).map fun i=>x.b.getD i x.fb
def sizeZ (n:Nat):Nat:=256*2 ^ (n%3)
theorem sizeZ_ok (n:Nat):okSz (sizeZ n)=true:=by
 unfold sizeZ;have:n%3=0∨n%3=1∨n%3=2:=by omega
 rcases this with h | h | h<;>rw [h]<;>rfl
theorem sizeZ_b (n:Nat):256≤sizeZ n∧sizeZ n≤1024:=by
 unfold sizeZ;have:n%3=0∨n%3=1∨n%3=2:=by omega
 rcases this with h | h | h<;>rw [h]<;>decide
end Go.Proofs.YtpeaicddbnghfaaGreat
namespace Go.HL
open Go
theorem OpV.shlI {P:Program} {s:Slots} {h:Heap} {d:Option Tmp} {t u ty:TypeId} {x y:Operand} {pos:String} {af:Array Edge} {g:Option (Nat × Bool)} {ky:IntKind} (a b:Nat) (hb:b≤64) (hr:a*2 ^ b≤9223372036854775807) (hx:ev s x=.int .i64 (a:Nat):=by exact rfl) (hy:ev s y=.int ky (b:Nat):=by exact rfl):OpV P ⟨d,.binOp .shl t x y u,ty,pos,af,g⟩ s h (.int .i64 ((a*2 ^ b:Nat):Int)):=fun w _=>by
 have h0:¬((b:Int)<0):=by omega
 have hm:min b IntKind.i64.bits=b:=Nat.min_eq_left hb;have h1:IntKind.wrap .i64 ((a:Int)*2 ^ min b IntKind.i64.bits)=((a*2 ^ b:Nat):Int):=by
  rw [hm];have e:(a:Int)*2 ^ b=((a*2 ^ b:Nat):Int):=by simp
  rw [e];exact IntWalk.i64_in _ (by omega)
 rw [hm] at h1;simp [execOp,hx,hy,V.eqG,binOp,Op.shift,h0];first | simpa using h1 | (rw [hm];simpa using h1)
end Go.HL
namespace Go.Proofs.YtpeaicddbnghfaaGreat
open Go Go.HL
theorem size14_any {h:Heap} {n:Nat} (hn:n<256):HC Tryz.prog 15 #[.int .u8 (n:Int)] h (fun v h'=>v=.int .i64 ((sizeZ n:Nat):Int)∧h'=h):=by
 refine HC.go Tryz.func15 6 ?_;refine .seq<|.r<|.z .asI<|.nil ?_;refine .seq<|.r<|.z .mvI<|.z (.remn (b:=3))<|.z (.shlI 256 (n%3) (by omega) (by have:=sizeZ_b n;unfold sizeZ at this;omega))<|.z .asI<|.nil ?_;refine .ret ⟨.int .i64 ((256*2 ^ (n%3):Nat):Int),Res.one rfl rfl,⟨rfl,rfl⟩⟩
theorem snocInd {α:Type} {P:List α→Prop} (h0:P []) (h1:∀l a,P l→P (l++[a])) (l:List α):P l:=by
 suffices h:∀n,P (l.take n) by have:=h l.length;simpa using this
 intro n;induction n with
 | zero=>simpa using h0
 | succ n ih=>
  by_cases hn:n<l.length
  ·rw [take_next hn];exact h1 _ _ ih
  ·rw [List.take_of_length_le (by omega)] at ih⊢;exact ih
def putsN:Nat→List Fr→List UInt8
 | _,[]=>[]
 | p,f::fs=>putN p f++putsN (linkN p f) fs
def linkL (p:Nat) (fs:List Fr):Nat:=fs.foldl linkN p
theorem linkL_lt {p:Nat} (h:p<18446744073709551616) (fs:List Fr):linkL p fs<18446744073709551616:=by
 induction fs generalizing p with
 | nil=>exact h
 | cons f fs ih=>exact ih (nextN_lt h _)
theorem linkL_snoc (p:Nat) (fs:List Fr) (f:Fr):linkL p (fs++[f])=linkN (linkL p fs) f:=by simp [linkL]
theorem linkL_app (p:Nat) (fs gs:List Fr):linkL p (fs++gs)=linkL (linkL p fs) gs:=by simp [linkL]
theorem putsN_app (p:Nat) (fs gs:List Fr):putsN p (fs++gs)=putsN p fs++putsN (linkL p fs) gs:=by
 induction fs generalizing p with
 | nil=>rfl
 | cons f fs ih=>simp only [List.cons_append,putsN,ih,List.append_assoc];rfl
theorem putsN_snoc (p:Nat) (fs:List Fr) (f:Fr):putsN p (fs++[f])=putsN p fs++putN (linkL p fs) f:=by rw [putsN_app];simp [putsN]
def okL (size:Nat) (fs:List Fr):Prop:=∀f∈fs,okF f=true∧f.b.length=size
theorem putsN_len {size:Nat} {p:Nat} {fs:List Fr} (h:okL size fs):(putsN p fs).length=fs.length*(16+size):=by
 induction fs generalizing p with
 | nil=>simp [putsN]
 | cons f fs ih=>
  have h1:=(h f List.mem_cons_self).2;have h2:=ih (p:=linkN p f) fun g hg=>h g (List.mem_cons_of_mem _ hg);rw [putsN,List.length_append,putN_len,h1,h2,List.length_cons,Nat.add_mul];omega
def sureN (fs:List Fr):Nat:=(fs.foldl (fun (p:Nat × Nat) f=>(p.1+1,if 0<f.commit then p.1+1 else p.2)) (0,0)).2
theorem sure_fst (fs:List Fr):(fs.foldl (fun (p:Nat × Nat) f=>(p.1+1,if 0<f.commit then p.1+1 else p.2)) (0,0)).1=fs.length:=
 snocInd (P:=fun fs=>(fs.foldl (fun (p:Nat × Nat) f=>(p.1+1,if 0<f.commit then p.1+1 else p.2)) (0,0)).1=fs.length) rfl (fun l a ih=>by rw [List.foldl_append];simp [ih]) fs
theorem sureN_snoc (fs:List Fr) (f:Fr):sureN (fs++[f])=if 0<f.commit then fs.length+1 else sureN fs:=by
 unfold sureN;rw [List.foldl_append];simp only [List.foldl_cons,List.foldl_nil,sure_fst]
theorem sureN_le (fs:List Fr):sureN fs≤fs.length:=
 snocInd (P:=fun fs=>sureN fs≤fs.length) (Nat.le_refl _) (fun l a ih=>by rw [sureN_snoc,List.length_append,List.length_singleton];split<;>omega) fs
def foldS (size:Nat) (s:Sc) (fs:List Fr):Sc:=fs.foldl (stepF size) s
theorem foldS_eq (size:Nat) (b:List UInt8) (fs:List Fr) (h:∀f∈fs,0≤f.commit) :
  foldS size (scan0 b) fs=⟨20+fs.length*(16+size),linkL (firstN b) fs,fs,fs.take (sureN fs),linkL (firstN b) (fs.take (sureN fs)),20+sureN fs*(16+size)⟩:=by
 revert h;refine snocInd (P:=fun fs=>(∀f∈fs,0≤f.commit)→foldS size (scan0 b) fs=⟨20+fs.length*(16+size),linkL (firstN b) fs,fs,fs.take (sureN fs),linkL (firstN b) (fs.take (sureN fs)),20+sureN fs*(16+size)⟩) (fun _=>by simp [foldS,scan0,linkL,sureN]) (fun l a ih h=>?_) fs;have ih:=ih fun f hf=>h f (List.mem_append_left _ hf);have ha:=h a (by simp);unfold foldS at ih⊢;rw [List.foldl_append,ih,List.foldl_cons,List.foldl_nil,sureN_snoc];by_cases hc:a.commit=0
 ·rw [if_neg (by omega)];have hle:=sureN_le l;simp only [stepF,hc,ne_eq,not_true_eq_false,if_false,linkL_snoc,List.length_append,List.length_singleton,Nat.add_mul,Nat.one_mul];rw [List.take_append_of_le_length hle];simp only [Sc.mk.injEq,true_and,and_true];omega
 ·rw [if_pos (by omega)];simp only [stepF,ne_eq,hc,not_false_eq_true,if_true,linkL_snoc,List.length_append,List.length_singleton,Nat.add_mul,Nat.one_mul];rw [List.take_of_length_le (by simp),linkL_snoc];simp only [Sc.mk.injEq,true_and];omega
theorem Reach.front {b:List UInt8} {size:Nat} {s s':Sc} (h:fits b size s.pos s.prev) (r:Reach b size (stepF size s (rawF b size s.pos)) s'):Reach b size s s':=by
 induction r with
 | refl=>exact .step (.refl _) h
 | step _ h2 ih=>exact .step ih h2
theorem reach_puts {size:Nat} {z:List UInt8} : ∀(fs:List Fr) (x:List UInt8) (s:Sc),okL size fs→s.pos=x.length→s.prev<18446744073709551616→Reach (x++(putsN s.prev fs++z)) size s (foldS size s fs)
 | [],x,s,_,_,_=>.refl _
 | f::fs,x,s,h,hp,hv=>by
  obtain ⟨h1,h2⟩:=h f List.mem_cons_self;have e:x++(putsN s.prev (f::fs)++z)=x++(putN s.prev f++(putsN (linkN s.prev f) fs++z)):=by simp [putsN]
  have e2:x++(putN s.prev f++(putsN (linkN s.prev f) fs++z))=(x++putN s.prev f)++(putsN (linkN s.prev f) fs++z):=by simp
  have hf:=fits_put (x:=x) (z:=putsN (linkN s.prev f) fs++z) h1 hv;have hr:=rawF_put (x:=x) (z:=putsN (linkN s.prev f) fs++z) (p:=s.prev) h1;rw [h2] at hf hr;rw [e];refine Reach.front (by rw [hp];exact hf) ?_;rw [hp,hr,e2];have ih:=reach_puts (size:=size) (z:=z) fs (x++putN s.prev f) (stepF size s f) (fun g hg=>h g (List.mem_cons_of_mem _ hg)) (by rw [stepF_pos,hp,List.length_append,putN_len,h2];omega) (by rw [stepF_prev];exact nextN_lt hv _);rw [stepF_prev] at ih;exact ih
section
variable {n salt:Nat} (hn:n<4294967296) (hs:salt<18446744073709551616)
include hn hs
theorem scan_log {fs:List Fr} (h:okL n fs) (z:List UInt8) (hz:¬fits (headN n salt++(putsN (nextN salt (headN n salt)) fs++z)) n (20+fs.length*(16+n)) (linkL (nextN salt (headN n salt)) fs)) :
  ScanE (headN n salt++(putsN (nextN salt (headN n salt)) fs++z)) ⟨20+fs.length*(16+n),linkL (nextN salt (headN n salt)) fs,fs,fs.take (sureN fs),linkL (nextN salt (headN n salt)) (fs.take (sureN fs)),20+sureN fs*(16+n)⟩:=by
 have hc:∀f∈fs,0≤f.commit:=fun f hf=>(okF_iff.1 (h f hf).1).1.2.2.1;have e0:firstN (headN n salt++(putsN (nextN salt (headN n salt)) fs++z))=nextN salt (headN n salt):=firstN_headN hs _;have e1:=foldS_eq n (headN n salt++(putsN (nextN salt (headN n salt)) fs++z)) fs hc;rw [e0] at e1;have e2:rdN (headN n salt++(putsN (nextN salt (headN n salt)) fs++z)) 4 4=n:=rd4_headN hn _;refine ⟨?_,by rw [e2];exact hz⟩;rw [e2,←e1];have:=reach_puts (size:=n) (z:=z) fs (headN n salt) (scan0 (headN n salt++(putsN (nextN salt (headN n salt)) fs++z))) h (headN_len n salt).symm (firstN_lt _);have e3:(scan0 (headN n salt++(putsN (nextN salt (headN n salt)) fs++z))).prev=nextN salt (headN n salt):=e0;rw [e3] at this;exact this
theorem scan_short_log {fs:List Fr} (h:okL n fs) (z:List UInt8) (hz:z.length<16+n) :
  ScanE (headN n salt++(putsN (nextN salt (headN n salt)) fs++z)) ⟨20+fs.length*(16+n),linkL (nextN salt (headN n salt)) fs,fs,fs.take (sureN fs),linkL (nextN salt (headN n salt)) (fs.take (sureN fs)),20+sureN fs*(16+n)⟩:=
 scan_log hn hs h z fun hf=>by
  have h1:=hf.1;simp only [List.length_append,headN_len,putsN_len h] at h1;omega
omit hn hs
end
open Go Go.HL
def gd (b:List UInt8) (i:Nat):UInt8:=b.getD i 0
theorem gd_nil (i:Nat):gd [] i=0:=rfl
theorem gd_ge {b:List UInt8} {i:Nat} (h:b.length≤i):gd b i=0:=by unfold gd;rw [List.getD_eq_getElem?_getD,List.getElem?_eq_none h];rfl
theorem gd_lt {b:List UInt8} {i:Nat} (h:i<b.length):gd b i=b[i]:=by unfold gd;rw [List.getD_eq_getElem?_getD,List.getElem?_eq_getElem h];rfl
theorem gd_app {a b:List UInt8} {i:Nat} : gd (a++b) i=if i<a.length then gd a i else gd b (i-a.length):=by
 unfold gd;rw [List.getD_eq_getElem?_getD,List.getD_eq_getElem?_getD,List.getD_eq_getElem?_getD];split
 ·rename_i h;rw [List.getElem?_append_left h]
 ·rename_i h;rw [List.getElem?_append_right (by omega)]
theorem gd_take {b:List UInt8} {n i:Nat} : gd (b.take n) i=if i<n then gd b i else 0:=by
 split
 ·rename_i h;unfold gd;rw [List.getD_eq_getElem?_getD,List.getD_eq_getElem?_getD,List.getElem?_take_of_lt h]
 ·rename_i h;exact gd_ge (by rw [List.length_take];omega)
theorem gd_drop {b:List UInt8} {n i:Nat} : gd (b.drop n) i=gd b (n+i):=by unfold gd;rw [List.getD_eq_getElem?_getD,List.getD_eq_getElem?_getD,List.getElem?_drop]
theorem gd_zeros {n i:Nat} : gd (List.replicate n 0) i=0:=by
 by_cases h:i<n
 ·rw [gd_lt (by simpa using h)];simp
 ·exact gd_ge (by simp;omega)
theorem ext_gd {a b:List UInt8} (hl:a.length=b.length) (h:∀i,i<a.length→gd a i=gd b i):a=b:=by
 refine List.ext_getElem hl fun i h1 h2=>?_;have:=h i h1;rwa [gd_lt h1,gd_lt h2] at this
theorem gd_longN {b:List UInt8} {n i:Nat} : gd (longN b n) i=if i<n then gd b i else 0:=by
 unfold longN;rw [gd_app,gd_take,gd_zeros,List.length_take];by_cases h1:i<n
 ·by_cases h2:i<b.length
  ·rw [if_pos (by omega),if_pos h1]
  ·rw [if_neg (by omega),if_pos h1,gd_ge (by omega)]
 ·rw [if_neg (by omega),if_neg h1]
def wrB (b:List UInt8) (p:Nat) (c:List UInt8):List UInt8:=patchN (longN b (max b.length (p+c.length))) p c
theorem wrB_len {b c:List UInt8} {p:Nat} : (wrB b p c).length=max b.length (p+c.length):=by
 unfold wrB;rw [patchN_len (by rw [longN_len];omega),longN_len]
theorem gd_wrB {b c:List UInt8} {p i:Nat} : gd (wrB b p c) i=if p≤i∧i<p+c.length then gd c (i-p) else gd b i:=by
 unfold wrB patchN;obtain ⟨m,hm⟩:∃m,m=max b.length (p+c.length):=⟨_,rfl⟩;have h1:b.length≤m:=by omega
 have h2:p+c.length≤m:=by omega
 rw [←hm];have h3:((longN b m).take p).length=p:=by rw [List.length_take,longN_len];omega
 rw [gd_app,gd_app,List.length_append,h3,gd_take,gd_drop,gd_longN,gd_longN];by_cases g1:i<p
 ·rw [if_pos (by omega),if_pos g1,if_pos g1,if_pos (by omega),if_neg (by omega)]
 ·by_cases g2:i<p+c.length
  ·rw [if_pos g2,if_neg g1,if_pos ⟨by omega,g2⟩]
  ·have g3:¬(p≤i∧i<p+c.length):=fun h=>g2 h.2;rw [if_neg g2,show p+c.length+(i-(p+c.length))=i by omega,if_neg g3];split
   ·rfl
   ·rw [gd_ge (by omega)]
theorem wrB_end {b c:List UInt8} : wrB b b.length c=b++c:=by
 refine ext_gd (by rw [wrB_len,List.length_append];omega) fun i hi=>?_;rw [gd_wrB,gd_app];rw [wrB_len] at hi;by_cases h:i<b.length
 ·rw [if_neg (by omega),if_pos h]
 ·rw [if_pos (by omega),if_neg h]
theorem wrB_nil {c:List UInt8} : wrB [] 0 c=c:=by have:=wrB_end (b:=[]) (c:=c);simpa using this
theorem flat_lenZ {z:Nat} {l:List (List UInt8)} (h:∀x∈l,x.length=z):l.flatten.length=l.length*z:=by
 induction l with
 | nil=>simp
 | cons a l ih=>
  rw [List.flatten_cons,List.length_append,h a List.mem_cons_self,ih fun x hx=>h x (List.mem_cons_of_mem _ hx),List.length_cons,Nat.add_mul];omega
theorem flat_drop {z:Nat} {l:List (List UInt8)} (h:∀x∈l,x.length=z) {i:Nat} (hi:i<l.length):(l.flatten.drop (i*z)).take z=l[i]:=by
 induction l generalizing i with
 | nil=>simp at hi
 | cons a l ih=>
  have ha:=h a List.mem_cons_self;cases i with
  | zero=>rw [Nat.zero_mul,List.drop_zero,List.flatten_cons,List.take_left' ha];rfl
  | succ i=>
   rw [List.flatten_cons,Nat.add_mul,Nat.one_mul,Nat.add_comm,←List.drop_drop,List.drop_left' ha,List.getElem_cons_succ];exact ih (fun x hx=>h x (List.mem_cons_of_mem _ hx)) (by simpa using hi)
theorem gd_flat {z:Nat} {l:List (List UInt8)} (h:∀x∈l,x.length=z) (hz:0<z) (i:Nat):gd l.flatten i=gd (l.getD (i / z) []) (i%z):=by
 have hm:=Nat.mod_lt i hz;have hd:i / z*z+i%z=i:=by rw [Nat.mul_comm];exact Nat.div_add_mod i z
 by_cases hi:i / z<l.length
 ·have e:l.getD (i / z) []=l[i / z]:=by simp [hi]
  rw [e,←flat_drop h hi,gd_take,if_pos hm,gd_drop,hd]
 ·have e:l.getD (i / z) []=[]:=by rw [List.getD_eq_getElem?_getD,List.getElem?_eq_none (Nat.le_of_not_lt hi)];rfl
  rw [e,gd_nil,gd_ge];rw [flat_lenZ h];have h1:l.length*z≤i / z*z:=Nat.mul_le_mul_right _ (Nat.le_of_not_lt hi);exact Nat.le_trans h1 (Nat.div_mul_le_self i z)
def doO' (c:Chn):Option (List UInt8)→Option (List UInt8)
 | none=>if c.kind=0 then some (wrB [] c.pos c.b) else none
 | some b=>if c.kind=0 then some (wrB b c.pos c.b) else if c.kind=1 then some (longN b c.pos) else none
def optP (p:List UInt8 × Bool):Option (List UInt8):=if p.2=true then some p.1 else none
theorem done_optP {c:Chn} {b:List UInt8} {h:Bool} (hb:h=false→b=[]):optP (doneN c b h)=doO' c (optP (b,h)):=by
 cases h with
 | false=>
  rw [hb rfl];unfold doneN optP doO';by_cases h0:c.kind=0
  ·simp [h0,wrB]
  ·simp [h0]
 | true=>
  unfold doneN optP doO';by_cases h0:c.kind=0
  ·simp [h0,wrB]
  ·by_cases h1:c.kind=1<;>simp [h0,h1]
theorem done_nilP {c:Chn} {b:List UInt8} {h:Bool} (e:(doneN c b h).2=false):(doneN c b h).1=[]:=by
 unfold doneN at e⊢;split
 ·rename_i h0;rw [if_pos h0] at e;cases e
 ·rename_i h0;rw [if_neg h0] at e;split
  ·rename_i h1;rw [if_pos h1] at e;cases e
  ·rfl
def crO (c:Chn) (k:Nat) (o:Option (List UInt8)):Option (List UInt8):=if (keptN c k).2=true then doO' (keptN c k).1 o else o
def crOL:Option (List UInt8)→List Chn→List UInt8→Option (List UInt8)
 | o,[],_=>o
 | o,c::l,ks=>crOL (crO c (ks.headD 0).toNat o) l ks.tail
theorem keptN_kind {c:Chn} {k:Nat} : (keptN c k).1.kind=c.kind:=by unfold keptN;split<;>(try split)<;>rfl
theorem optP_crC:∀ {l:List Chn} {b:List UInt8} {h:Bool} {ks:List UInt8},(h=false→b=[])→optP (crC b h l ks)=crOL (optP (b,h)) l ks
 | [],_,_,_,_=>rfl
 | c::l,b,h,ks,hb=>by
  unfold crC crOL;simp only;by_cases g:(keptN c (ks.headD 0).toNat).2=true∧(c.kind=0∨h=true)
  ·rw [if_pos g,optP_crC (h:=(doneN (keptN c (ks.headD 0).toNat).1 b h).2) done_nilP];congr 1;unfold crO;rw [if_pos g.1];exact done_optP hb
  ·rw [if_neg g,optP_crC hb];congr 1;unfold crO;split
   ·rename_i g1;have h2:¬(c.kind=0∨h=true):=fun h2=>g ⟨g1,h2⟩;have h3:h=false:=by cases h;rfl;exact absurd (.inr rfl) h2
    subst h3;have h4:¬(keptN c (ks.headD 0).toNat).1.kind=0:=by rw [keptN_kind];exact fun e=>h2 (.inl e)
    show optP (b,false)=doO' _ none;unfold doO';rw [if_neg h4];rfl
   ·rfl
theorem crOL_inv {P:Option (List UInt8)→Prop} : ∀ {l:List Chn} {o:Option (List UInt8)} {ks:List UInt8},P o→(∀c∈l,∀k o,P o→P (crO c k o))→P (crOL o l ks)
 | [],_,_,h,_=>h
 | a::l,o,ks,h,hc=>crOL_inv (l:=l) (o:=crO a (ks.headD 0).toNat o) (hc a List.mem_cons_self _ _ h) fun c hc'=>hc c (List.mem_cons_of_mem _ hc')
theorem crO_w {p:Nat} {c:List UInt8} {k:Nat} {o:Option (List UInt8)} : crO ⟨0,p,c⟩ k o=o∨∃c',c' <+: c∧crO ⟨0,p,c⟩ k o=some (wrB (o.getD []) p c'):=by
 unfold crO;split
 ·refine .inr ⟨(keptN ⟨0,p,c⟩ k).1.b,?_,?_⟩
  ·unfold keptN;simp only [ne_eq,not_true,if_false];split
   ·exact List.take_prefix _ _
   ·exact List.prefix_rfl
  ·have e1:(keptN ⟨0,p,c⟩ k).1.kind=0:=keptN_kind;have e2:(keptN ⟨0,p,c⟩ k).1.pos=p:=by unfold keptN;simp only [ne_eq,not_true,if_false];split<;>rfl
   cases o with
   | none=>unfold doO';rw [if_pos e1,e2];rfl
   | some b=>unfold doO';simp only;rw [if_pos e1,e2];rfl
 ·exact .inl rfl
theorem crO_n {c:Chn} {k:Nat} {o:Option (List UInt8)} (h:c.kind≠0):crO c k o=o∨crO c k o=doO' c o:=by
 unfold crO;split
 ·right;have:(keptN c k).1=c:=by unfold keptN;rw [if_pos h]
  rw [this]
 ·exact .inl rfl
def synF (c:Option (List UInt8)):Option Fl:=c.map fun b=>⟨b,b,true,true,[]⟩
structure FSt (o:Option Fl) (base:Option (List UInt8)) (ops:List Chn) (cur:Option (List UInt8)):Prop where
 safe:(o.getD noF).safe=base.getD []
 was:(o.getD noF).was=base.isSome
 opn:(o.getD noF).opn=ops
 now:(o.getD noF).now=cur.getD []
 here:(o.getD noF).here=cur.isSome
theorem FSt.syn (c:Option (List UInt8)):FSt (synF c) c [] c:=by cases c<;>exact ⟨rfl,rfl,rfl,rfl,rfl⟩
def Out (o:Option Fl) (c:Option (List UInt8)):Prop:=∃ks,c=(o.bind fun f=>optP (crC f.safe f.was f.opn ks))
theorem opt_getD {o:Option (List UInt8)} : optP (o.getD [],o.isSome)=o:=by cases o<;>rfl
theorem FSt.out {o:Option Fl} {base cur c:Option (List UInt8)} {ops:List Chn} (s:FSt o base ops cur) (h:Out o c):∃ks,c=crOL base ops ks:=by
 obtain ⟨ks,rfl⟩:=h;cases o with
 | none=>
  have h1:base=none:=by have:=s.was;cases base;rfl;cases this
  have h2:ops=[]:=s.opn.symm;subst h1 h2;exact ⟨ks,rfl⟩
 | some f=>
  refine ⟨ks,?_⟩;have h1:f.safe=base.getD []:=s.safe;have h2:f.was=base.isSome:=s.was;have h3:f.opn=ops:=s.opn;show optP (crC f.safe f.was f.opn ks)=_;rw [h1,h2,h3,optP_crC,opt_getD];intro e;cases base;rfl;cases e
theorem FSt.inv {P:Option (List UInt8)→Prop} {o:Option Fl} {base cur c:Option (List UInt8)} {ops:List Chn} (s:FSt o base ops cur) (h:Out o c) (h0:P base) (hc:∀c∈ops,∀k o,P o→P (crO c k o)):P c:=by
 obtain ⟨ks,rfl⟩:=s.out h;exact crOL_inv h0 hc
theorem Out.syn {b c:Option (List UInt8)} (h:Out (synF b) c):c=b:=by obtain ⟨ks,rfl⟩:=(FSt.syn b).out h;rfl
theorem FSt.chg {o:Option Fl} {base cur:Option (List UInt8)} {ops:List Chn} (s:FSt o base ops cur) (c:Chn):FSt (some (chgF (o.getD noF) c)) base (ops++[c]) (doO' c cur):=by
 have e:doO' c cur=optP (doneN c (o.getD noF).now (o.getD noF).here):=by
  rw [s.now,s.here,done_optP (by intro e;cases cur;rfl;cases e),opt_getD]
 have hn:(doneN c (o.getD noF).now (o.getD noF).here).2=false→(doneN c (o.getD noF).now (o.getD noF).here).1=[]:=done_nilP;refine ⟨s.safe,s.was,by show _++[c]=_;rw [s.opn],?_,?_⟩
 ·show (doneN c (o.getD noF).now (o.getD noF).here).1=_;rw [e];unfold optP;cases hh:(doneN c (o.getD noF).now (o.getD noF).here).2 with
  | true=>rfl
  | false=>simp only [Bool.false_eq_true,if_false,Option.getD_none];exact hn hh
 ·show (doneN c (o.getD noF).now (o.getD noF).here).2=_;rw [e];unfold optP;cases hh:(doneN c (o.getD noF).now (o.getD noF).here).2<;>rfl
theorem FSt.settle {f:Fl} {base cur:Option (List UInt8)} {ops:List Chn} (s:FSt (some f) base ops cur):settleF f=synF cur:=by
 have h1:f.here=cur.isSome:=s.here;have h2:f.now=cur.getD []:=s.now;unfold settleF synF;rw [h1,h2];cases cur<;>rfl
def nOk (n:List UInt8):Prop:=1≤n.length∧n.length≤32
def darkD (d:Dk):Dk:=⟨d.fs,true,d.left,d.chg⟩
def stepD' (d:Dk) (n:List UInt8) (v:Option Fl):Dk:=⟨put1 d.fs n v,false,if 0<d.left then d.left-1 else d.left,d.chg+1⟩
def Res (d:Dk) (r:Dk × Nat) (G B:Dk→Prop):Prop:=
 (r.2=0∧r.1.dark=false∧(d.left<0→r.1.left<0)∧G r.1)∨(r.2=13∧r.1.dark=true∧0≤d.left∧B r.1)
section
variable {d:Dk} {r:Dk × Nat} {G G' B B':Dk→Prop} {n:List UInt8}
theorem Res.mono (h:Res d r G B) (hG:∀d',d'.dark=false→G d'→G' d') (hB:∀d',B d'→B' d'):Res d r G' B':=
 h.imp (fun ⟨a,b,c,e⟩=>⟨a,b,c,hG _ b e⟩) fun ⟨a,b,c,e⟩=>⟨a,b,c,hB _ e⟩
theorem Res.ok (hd:d.dark=false) (h:G d):Res d (d,0) G B:=.inl ⟨rfl,hd,id,h⟩
theorem Res.bind {d0:Dk} (hl:d0.left<0→d.left<0) (h:Res d r G B):Res d0 r G B:=
 h.imp (fun ⟨a,b,c,e⟩=>⟨a,b,fun h=>c (hl h),e⟩) fun ⟨a,b,c,e⟩=>⟨a,b,by rcases Int.lt_or_le d0.left 0 with h | h;(have:=hl h;omega);exact h,e⟩
theorem Res.code (h:Res d r G B):r.2=0∨r.2=13:=h.imp (·.1) (·.1)
theorem Res.good (h:Res d r G B) (h0:r.2=0):r.1.dark=false∧(d.left<0→r.1.left<0)∧G r.1:=by
 rcases h with h | h
 ·exact h.2
 ·have:=h.1;omega
theorem Res.bad (h:Res d r G B) (h0:r.2≠0):r.2=13∧r.1.dark=true∧0≤d.left∧B r.1:=by
 rcases h with h | h
 ·exact absurd h.1 h0
 ·exact h
theorem wrong_0 {zs:List Int} (hd:d.dark=false) (hn:nOk n) (hz:∀z∈zs,0≤z):wrongN d n zs=0:=by
 unfold wrongN;rw [if_neg,if_neg (by rw [hd];decide)];rintro (h | h | ⟨z,h1,h2⟩)
 ·have:=hn.1;omega
 ·have:=hn.2;omega
 ·have:=hz z h1;omega
theorem do_res (hd:d.dark=false) (c:Chn) (hG:G (stepD' d n (some (chgF ((d.fs n).getD noF) c)))) (hB:B (darkD d)):Res d (doN d n c) G B:=by
 unfold doN powerN;by_cases h:d.left=0
 ·rw [if_pos h,if_pos h];exact .inr ⟨rfl,rfl,by omega,hB⟩
 ·rw [if_neg h];refine .inl ⟨rfl,hd,fun h1=>?_,?_⟩
  ·simp only;rw [if_neg (by omega)];exact h1
  ·rw [hd];exact hG
theorem write_res {p:Nat} {b:List UInt8} (hd:d.dark=false) (hn:nOk n) (hf:p+b.length≤16777216) (hG:G (stepD' d n (some (chgF ((d.fs n).getD noF) ⟨0,p,b⟩)))) (hB:B (darkD d)):Res d (writeN d n (p:Int) b) G B:=by
 unfold writeN;rw [if_neg (by rw [wrong_0 hd hn (by simp)];simp),if_neg (by omega),Int.toNat_natCast];exact do_res hd _ hG hB
theorem trunc_res {z:Nat} (hd:d.dark=false) (hn:nOk n) (ht:thereN d n=true) (hf:z≤16777216) (hG:G (stepD' d n (some (chgF ((d.fs n).getD noF) ⟨1,z,[]⟩)))) (hB:B (darkD d)):Res d (truncN d n (z:Int)) G B:=by
 unfold truncN;rw [if_neg (by rw [wrong_0 hd hn (by simp)];simp),if_neg (by rw [ht];decide),if_neg (by omega),Int.toNat_natCast];exact do_res hd _ hG hB
theorem remove_res (hd:d.dark=false) (hn:nOk n) (ht:thereN d n=true) (hG:G (stepD' d n (some (chgF ((d.fs n).getD noF) ⟨2,0,[]⟩)))) (hB:B (darkD d)):Res d (removeN d n) G B:=by
 unfold removeN;rw [if_neg (by rw [wrong_0 hd hn (by simp)];simp),if_neg (by rw [ht];decide)];exact do_res hd _ hG hB
theorem remove_no (hd:d.dark=false) (hn:nOk n) (ht:thereN d n=false):removeN d n=(d,4):=by
 unfold removeN;rw [if_neg (by rw [wrong_0 hd hn (by simp)];simp),if_pos ht]
theorem sync_res {f:Fl} (hd:d.dark=false) (hn:nOk n) (hf:d.fs n=some f) (ho:f.here=true∨f.opn≠[]) (hG:G (stepD' d n (settleF f))) (hB:B (darkD d)):Res d (syncN d n) G B:=by
 unfold syncN powerN;rw [if_neg (by rw [wrong_0 hd hn (by simp)];simp),hf];simp only;rw [if_neg (by rintro ⟨h1,h2⟩;rcases ho with h | h;(rw [h1] at h;cases h);exact h h2)];by_cases h:d.left=0
 ·rw [if_pos h,if_pos h];exact .inr ⟨rfl,rfl,by omega,hB⟩
 ·rw [if_neg h];refine .inl ⟨rfl,hd,fun h1=>?_,?_⟩
  ·simp only;rw [if_neg (by omega)];exact h1
  ·rw [hd];exact hG
theorem stepD'_at {v:Option Fl} : (stepD' d n v).fs n=v:=put1_at _ _ _
theorem stepD'_ne {m:List UInt8} {v:Option Fl} (h:m≠n):(stepD' d n v).fs m=d.fs m:=put1_ne h
theorem there_st {base cur:Option (List UInt8)} {ops:List Chn} (s:FSt (d.fs n) base ops cur):thereN d n=cur.isSome:=by
 have h:=s.here;unfold thereN;cases hf:d.fs n with
 | none=>rw [hf] at h;exact h
 | some f=>rw [hf] at h;exact h
theorem size_st {base cur:Option (List UInt8)} {ops:List Chn} (hd:d.dark=false) (s:FSt (d.fs n) base ops cur):sizeN d n=((cur.getD []).length,cur.isSome):=by
 unfold sizeN;rw [there_st s,s.now,hd];cases cur<;>simp
theorem read_st {base:Option (List UInt8)} {b:List UInt8} {ops:List Chn} {p z:Nat} (hd:d.dark=false) (hn:nOk n) (s:FSt (d.fs n) base ops (some b)):readN d n (p:Int) (z:Int)=((b.drop p).take z,0):=by
 have h:=s.here;have h2:=s.now;unfold readN;rw [if_neg (by rw [wrong_0 hd hn (by simp)];simp)];cases hf:d.fs n with
 | none=>rw [hf] at h;cases h
 | some f=>
  rw [hf] at h h2;replace h:f.here=true:=h;replace h2:f.now=b:=h2;simp only;rw [if_neg (by rw [h];decide),h2,Int.toNat_natCast,Int.toNat_natCast]
theorem read_no {base:Option (List UInt8)} {ops:List Chn} {p z:Nat} (hd:d.dark=false) (hn:nOk n) (s:FSt (d.fs n) base ops none):readN d n (p:Int) (z:Int)=([],4):=by
 have h:=s.here;unfold readN;rw [if_neg (by rw [wrong_0 hd hn (by simp)];simp)];cases hf:d.fs n with
 | none=>rfl
 | some f=>
  rw [hf] at h;replace h:f.here=false:=h;simp only;rw [if_pos h]
end
theorem thenN_res {d:Dk} {a:Dk × Nat} {f:Dk→Dk × Nat} {G1 G2 B:Dk→Prop} (h1:Res d a G1 B) (h2:∀d1,d1.dark=false→G1 d1→Res d1 (f d1) G2 B):Res d (if a.2=0 then f a.1 else a) G2 B:=by
 rcases h1 with ⟨e,hd,hl,g⟩ | ⟨e,hd,hl,b⟩
 ·rw [if_pos e];exact (h2 _ hd g).bind hl
 ·rw [if_neg (by omega)];exact .inr ⟨e,hd,hl,b⟩
open Go Go.HL
def latK (l:List Fr) (k:Nat) (p:Int):Option (List UInt8):=(mget (latM l k) p).map fun i=>(frN l i).b
def latQ (l:List Fr) (p:Int):Option (List UInt8):=latK l l.length p
def manyN (l:List Fr):Nat:=(latC l l.length).toNat
def ovB (fs:List Fr) (z:Nat) (T:List UInt8):List UInt8:=(List.range (manyN fs*z)).map fun i=>match latQ fs ((i / z:Nat)+1) with | some b=>gd b (i%z) | none=>gd T i
theorem ovB_len {fs:List Fr} {z:Nat} {T:List UInt8} : (ovB fs z T).length=manyN fs*z:=by simp [ovB]
theorem gd_ovB {fs:List Fr} {z:Nat} {T:List UInt8} {i:Nat} (h:i<manyN fs*z):gd (ovB fs z T) i=match latQ fs ((i / z:Nat)+1) with | some b=>gd b (i%z) | none=>gd T i:=by
 rw [gd_lt (by rw [ovB_len];exact h)];simp [ovB]
def tgt (fs:List Fr) (z:Nat) (T:List UInt8):List UInt8:=if fs=[] then T else ovB fs z T
def Un (fs:List Fr) (z:Nat) (T T':List UInt8):Prop:=∀i,i<manyN fs*z→latQ fs ((i / z:Nat)+1)=none→gd T' i=gd T i
theorem Un.ov {fs:List Fr} {z:Nat} {T T':List UInt8} (h:Un fs z T T'):ovB fs z T'=ovB fs z T:=by
 refine ext_gd (by rw [ovB_len,ovB_len]) fun i hi=>?_;rw [ovB_len] at hi;rw [gd_ovB hi,gd_ovB hi];cases hq:latQ fs ((i / z:Nat)+1) with
 | some b=>rfl
 | none=>exact h i hi hq
theorem Un.refl (fs:List Fr) (z:Nat) (T:List UInt8):Un fs z T T:=fun _ _ _=>rfl
theorem Un.tgt {fs:List Fr} {z:Nat} {T T':List UInt8} (hn:fs≠[]) (h:Un fs z T T'):tgt fs z T'=tgt fs z T:=by unfold Go.Proofs.YtpeaicddbnghfaaGreat.tgt;rw [if_neg hn,if_neg hn];exact h.ov
theorem un_ov {fs:List Fr} {z:Nat} {T:List UInt8} : Un fs z T (ovB fs z T):=fun i hi hq=>by rw [gd_ovB hi,hq]
theorem tgt_tgt {fs:List Fr} {z:Nat} {T:List UInt8} : tgt fs z (tgt fs z T)=tgt fs z T:=by
 by_cases h:fs=[]
 ·unfold tgt;rw [if_pos h,if_pos h]
 ·refine Un.tgt h ?_;unfold tgt;rw [if_neg h];exact un_ov
section
variable {l:List Fr} {k:Nat}
theorem mget_some {m:List (Int × Nat)} (hn:(m.map (·.1)).Nodup) {p:Int} {i:Nat} : mget m p=some i↔(p,i)∈m:=⟨mget_mem,mget_of_mem hn⟩
theorem latK_some {p:Int} {b:List UInt8} (h:latK l k p=some b):∃i,i∈latO l k∧(frN l i).page=p∧(frN l i).b=b:=by
 unfold latK at h;cases hm:mget (latM l k) p with
 | none=>rw [hm] at h;cases h
 | some i=>
  rw [hm] at h;injection h with h;have h1:=mget_mem hm;have h2:=(lat l k).key _ h1;exact ⟨i,((lat l k).mem i).2 (by rw [←h2];exact h1),h2.symm,h⟩
theorem latK_of {i:Nat} (h:i∈latO l k):latK l k (frN l i).page=some (frN l i).b:=by
 unfold latK;rw [(mget_some (lat l k).nod).2 (((lat l k).mem i).1 h)];rfl
theorem latQ_some {p:Int} {b:List UInt8} (h:latQ l p=some b):∃f∈latF l,f.page=p∧f.b=b:=by
 obtain ⟨i,h1,h2,h3⟩:=latK_some h;exact ⟨frN l i,List.mem_map.2 ⟨i,h1,rfl⟩,h2,h3⟩
theorem latQ_of {f:Fr} (h:f∈latF l):latQ l f.page=some f.b:=by
 obtain ⟨i,h1,rfl⟩:=List.mem_map.1 h;exact latK_of h1
theorem latF_srt (l:List Fr):(latF l).Pairwise fun a b=>a.page<b.page:=by
 unfold latF;rw [List.pairwise_map];exact (lat l l.length).srt
theorem latF_in {f:Fr} (h:f∈latF l):f∈l:=by
 obtain ⟨i,hi,rfl⟩:=latF_mem h;exact frN_mem hi
theorem latM_le (hk:0<k) (hc:(frN l (k-1)).commit≠0):∀p∈latM l k,p.1≤latC l k:=by
 obtain ⟨j,rfl⟩:∃j,k=j+1:=⟨k-1,by omega⟩;intro p hp;rw [Nat.add_sub_cancel] at hc;rw [latM_succ] at hp;rw [latC_succ];unfold stepM at hp;unfold stepC;rw [if_neg hc] at hp⊢;simpa using (List.mem_filter.1 hp).2
end
def EndsC (fs:List Fr):Prop:=fs≠[]∧(frN fs (fs.length-1)).commit≠0
theorem EndsC.pos {fs:List Fr} (h:EndsC fs):0<fs.length:=List.length_pos_iff.2 h.1
theorem EndsC.page {fs:List Fr} (h:EndsC fs) {f:Fr} (hf:f∈latF fs):f.page≤latC fs fs.length:=by
 obtain ⟨i,hi,rfl⟩:=List.mem_map.1 hf;exact latM_le h.pos h.2 _ (((lat fs fs.length).mem i).1 hi)
theorem EndsC.many {fs:List Fr} (h:EndsC fs) (hok:∀f∈fs,okF f=true):1≤manyN fs∧(manyN fs:Int)=latC fs fs.length∧manyN fs≤1048576:=by
 have h1:=latC_le hok (Nat.le_refl fs.length);have h2:latC fs fs.length=(frN fs (fs.length-1)).commit:=by
  obtain ⟨j,hj⟩:∃j,fs.length=j+1:=⟨fs.length-1,by have:=h.pos;omega⟩;have h3:=h.2;rw [hj,Nat.add_sub_cancel] at h3⊢;rw [latC_succ];unfold stepC;rw [if_neg h3]
 have h3:=h.2;unfold manyN;omega
theorem sure_ends {fs:List Fr} (hok:∀f∈fs,0≤f.commit) (h:fs.take (sureN fs)≠[]):EndsC (fs.take (sureN fs)):=by
 refine ⟨h,?_⟩;have hp:0<sureN fs:=by
  rcases Nat.eq_zero_or_pos (sureN fs) with h1 | h1
  ·rw [h1] at h;simp at h
  ·exact h1
 clear h;have key:∀fs:List Fr,(∀f∈fs,0≤f.commit)→0<sureN fs→(frN fs (sureN fs-1)).commit≠0:=fun fs=>by
  refine snocInd (P:=fun fs=>(∀f∈fs,0≤f.commit)→0<sureN fs→(frN fs (sureN fs-1)).commit≠0) (fun _ h=>by simp [sureN] at h) (fun l a ih hok hp=>?_) fs;rw [sureN_snoc] at hp⊢;by_cases hc:0<a.commit
  ·rw [if_pos hc,Nat.add_sub_cancel];simp [frN];omega
  ·rw [if_neg hc] at hp⊢;have h1:=ih (fun f hf=>hok f (List.mem_append_left _ hf)) hp;have h2:=sureN_le l;have e:frN (l++[a]) (sureN l-1)=frN l (sureN l-1):=by
    unfold frN;rw [List.getElem?_append_left (by omega)]
   rw [e];exact h1
 have h1:=key fs hok hp;have h2:=sureN_le fs;rw [List.length_take,Nat.min_eq_left h2];have e:frN (fs.take (sureN fs)) (sureN fs-1)=frN fs (sureN fs-1):=by
  unfold frN;rw [List.getElem?_take_of_lt (by omega)]
 rw [e];exact h1
theorem latM_app {fs gs:List Fr} {k:Nat} (h:k≤fs.length):latM (fs++gs) k=latM fs k:=by
 induction k with
 | zero=>rfl
 | succ k ih=>
  have e:frN (fs++gs) k=frN fs k:=by unfold frN;rw [List.getElem?_append_left (by omega)]
  rw [latM_succ,latM_succ,ih (by omega)];unfold stepM;rw [e]
theorem mget_iput {m:List (Int × Nat)} {k k':Int} {v:Nat} : mget (iput m k v) k'=if k'=k then some v else mget m k':=by
 have e:iput m k v=mput m k v:=by
  induction m with
  | nil=>rfl
  | cons p m ih=>unfold iput mput;rw [ih]
 rw [e];exact mget_mput
theorem mget_filter {m:List (Int × Nat)} {c k:Int} : mget (m.filter fun p=>decide (p.1≤c)) k=if k≤c then mget m k else none:=by
 induction m with
 | nil=>simp [mget]
 | cons p m ih=>
  by_cases h:p.1≤c
  ·rw [List.filter_cons_of_pos (by exact decide_eq_true h),mget_cons,mget_cons,ih];by_cases h2:p.1=k
   ·rw [if_pos h2,if_pos h2,if_pos (by omega)]
   ·rw [if_neg h2,if_neg h2]
  ·rw [List.filter_cons_of_neg (by simpa using h),ih,mget_cons];by_cases h2:p.1=k
   ·rw [if_neg (by omega),if_neg (by omega)]
   ·rw [if_neg h2]
theorem latK_succ {l:List Fr} {k:Nat} {p:Int} : latK l (k+1) p=if (frN l k).commit=0∨p≤(frN l k).commit then (if p=(frN l k).page then some (frN l k).b else latK l k p) else none:=by
 have e:∀(c:Prop) [Decidable c] (o:Option Nat),(if c then some k else o).map (fun i=>(frN l i).b)=if c then some (frN l k).b else o.map (fun i=>(frN l i).b):=fun c _ o=>by split<;>rfl
 unfold latK;rw [latM_succ];unfold stepM;by_cases h:(frN l k).commit=0
 ·rw [if_pos h,if_pos (Or.inl h),mget_iput,e]
 ·rw [if_neg h,mget_filter,mget_iput];by_cases h2:p≤(frN l k).commit
  ·have h3:(frN l k).commit=0∨p≤(frN l k).commit:=Or.inr h2;rw [if_pos h2,if_pos h3,e]
  ·rw [if_neg h2,if_neg (fun h3=>h3.elim h h2)];rfl
theorem latK_app {fs gs:List Fr} {p:Int} {k:Nat} (hk:k≤fs.length):latK (fs++gs) k p=latK fs k p:=by
 unfold latK;rw [latM_app hk];cases hm:mget (latM fs k) p with
 | none=>rfl
 | some i=>
  have hi:=latM_lt fs (mget_mem hm);have e:frN (fs++gs) i=frN fs i:=by unfold frN;rw [List.getElem?_append_left (by simp only at hi;omega)]
  simp only [Option.map_some,e]
theorem latQ_app {fs gs:List Fr} {m:Nat} (hg:gs≠[]) (h0:∀j,j+1<gs.length→(frN gs j).commit=0) (hl:(frN gs (gs.length-1)).commit=(m:Int)) (hm:1≤m) (hd:gs.Pairwise fun a b=>a.page≠b.page) (p:Int) :
  latQ (fs++gs) p=if p≤m then (match gs.find? fun f=>decide (f.page=p) with | some f=>some f.b | none=>latQ fs p) else none:=by
 have key:∀c,c<gs.length→latK (fs++gs) (fs.length+c) p=match (gs.take c).find? fun f=>decide (f.page=p) with | some f=>some f.b | none=>latQ fs p:=fun c=>by
  induction c with
  | zero=>intro _;rw [Nat.add_zero,latK_app (Nat.le_refl _)];rfl
  | succ c ih=>
   intro hc;have e:frN (fs++gs) (fs.length+c)=gs[c]:=by
    unfold frN;rw [List.getElem?_append_right (by omega),Nat.add_sub_cancel_left,List.getElem?_eq_getElem (by omega)];rfl
   have e2:frN gs c=gs[c]:=by unfold frN;rw [List.getElem?_eq_getElem (by omega)];rfl
   have h1:=h0 c hc;rw [e2] at h1;rw [←Nat.add_assoc,latK_succ,e,if_pos (.inl h1),ih (by omega),List.take_succ_eq_append_getElem (by omega),List.find?_append];by_cases h2:p=gs[c].page
   ·rw [if_pos h2];have h3:(gs.take c).find? (fun f=>decide (f.page=p))=none:=by
     rw [List.find?_eq_none];intro f hf;obtain ⟨i,hi,rfl⟩:=List.mem_iff_getElem.1 hf;rw [List.length_take] at hi;rw [List.getElem_take];have:=(List.pairwise_iff_getElem.1 hd) i c (by omega) (by omega) (by omega);simp only [decide_eq_true_eq];intro e;exact this (e.trans h2)
    rw [h3,h2];simp
   ·rw [if_neg h2];have h3:[gs[c]].find? (fun f=>decide (f.page=p))=none:=by
     rw [List.find?_cons_of_neg (by simpa using fun e=>h2 e.symm)];rfl
    rw [h3];cases (gs.take c).find? fun f=>decide (f.page=p)<;>rfl
 have hp:0<gs.length:=List.length_pos_iff.2 hg;have hlen:(fs++gs).length=fs.length+(gs.length-1)+1:=by rw [List.length_append];omega
 have e:frN (fs++gs) (fs.length+(gs.length-1))=gs[gs.length-1]:=by
  unfold frN;rw [List.getElem?_append_right (by omega),Nat.add_sub_cancel_left,List.getElem?_eq_getElem (by omega)];rfl
 have e2:frN gs (gs.length-1)=gs[gs.length-1]:=by unfold frN;rw [List.getElem?_eq_getElem (by omega)];rfl
 rw [e2] at hl;unfold latQ;rw [hlen,latK_succ,e,hl];by_cases h1:p≤(m:Int)
 ·rw [if_pos (.inr h1),if_pos h1,key _ (by omega)]
  conv=>rhs;rw [show gs=gs.take (gs.length-1)++[gs[gs.length-1]] by
   rw [←List.take_succ_eq_append_getElem (by omega),show gs.length-1+1=gs.length by omega,List.take_length]]
  rw [List.find?_append];by_cases h2:p=gs[gs.length-1].page
  ·rw [if_pos h2];have h3:(gs.take (gs.length-1)).find? (fun f=>decide (f.page=p))=none:=by
    rw [List.find?_eq_none];intro f hf;obtain ⟨i,hi,rfl⟩:=List.mem_iff_getElem.1 hf;rw [List.length_take] at hi;rw [List.getElem_take];have:=(List.pairwise_iff_getElem.1 hd) i (gs.length-1) (by omega) (by omega) (by omega);simp only [decide_eq_true_eq];intro e;exact this (e.trans h2)
   rw [h3,List.find?_cons_of_pos (by simpa using h2.symm)];rfl
  ·rw [if_neg h2];have h3:[gs[gs.length-1]].find? (fun f=>decide (f.page=p))=none:=by
    rw [List.find?_cons_of_neg (by simpa using fun e=>h2 e.symm)];rfl
   rw [h3];cases (gs.take (gs.length-1)).find? fun f=>decide (f.page=p)<;>rfl
 ·rw [if_neg (by rintro (h | h)<;>omega),if_neg h1]
open Go Go.HL
theorem nT_ok:nOk nT:=by unfold nOk nT;decide
theorem nL_ok:nOk nL:=by unfold nOk nL;decide
theorem nM_ok:nOk nM:=by unfold nOk nM;decide
theorem nLT:nL≠nT:=by decide
theorem nMT:nM≠nT:=by decide
theorem nML:nM≠nL:=by decide
theorem gone_res {d:Dk} {n:List UInt8} {c:Option (List UInt8)} (hd:d.dark=false) (hn:nOk n) (hf:d.fs n=synF c) :
  Res d (goneN d n) (fun d'=>d'.fs n=none∧∀m,m≠n→d'.fs m=d.fs m) (fun d'=>(∀c',Out (d'.fs n) c'→c'=c∨c'=none)∧∀m,m≠n→d'.fs m=d.fs m):=by
 have st:FSt (d.fs n) c [] c:=by rw [hf];exact .syn c
 cases c with
 | none=>
  have h1:=remove_no hd hn (there_st st);have e:goneN d n=(d,0):=by unfold goneN;rw [h1];rfl
  rw [e];exact .ok hd ⟨hf,fun _ _=>rfl⟩
 | some b=>
  have s1:=st.chg ⟨2,0,[]⟩;have ob:∀ {o:Option Fl} {ops:List Chn} {cur c':Option (List UInt8)},FSt o (some b) ops cur→(∀x∈ops,x=⟨2,0,[]⟩)→Out o c'→c'=some b∨c'=none:=fun s ho hO=>by
   refine s.inv (P:=fun o=>o=some b∨o=none) hO (.inl rfl) fun x hx k o ho'=>?_;rw [ho x hx];rcases crO_n (c:=⟨2,0,[]⟩) (k:=k) (o:=o) (by simp) with h | h
   ·rw [h];exact ho'
   ·rw [h];cases o<;>exact .inr rfl
  have r1:Res d (removeN d n) (fun d1=>d1.fs n=some (chgF ((d.fs n).getD noF) ⟨2,0,[]⟩)∧∀m,m≠n→d1.fs m=d.fs m) (fun d'=>(∀c',Out (d'.fs n) c'→c'=some b∨c'=none)∧∀m,m≠n→d'.fs m=d.fs m):=
   remove_res hd hn (there_st st) ⟨stepD'_at,fun m hm=>stepD'_ne hm⟩ ⟨fun c' hO=>ob st (by simp) hO,fun _ _=>rfl⟩
  rcases r1 with ⟨e1,e2,e3,e4,e5⟩ | ⟨e1,e2,e3,e4⟩
  ·have e:goneN d n=syncN (removeN d n).1 n:=by unfold goneN;rw [if_pos e1]
   rw [e];refine Res.bind e3 (sync_res e2 hn e4 (.inr (by show _++[_]≠[];simp)) ⟨by rw [stepD'_at,s1.settle];rfl,fun m hm=>by rw [stepD'_ne hm];exact e5 m hm⟩ ⟨fun c' hO=>?_,e5⟩);refine ob s1 (by simp) ?_;rw [show (darkD (removeN d n).1).fs n=(removeN d n).1.fs n from rfl,e4] at hO;exact hO
  ·have e:goneN d n=removeN d n:=by unfold goneN;rw [if_neg (by omega),if_neg (by omega)]
   rw [e];exact .inr ⟨e1,e2,e3,e4⟩
theorem clear_res {d:Dk} {T L M:Option (List UInt8)} (hd:d.dark=false) (hT:d.fs nT=synF T) (hL:d.fs nL=synF L) (hM:d.fs nM=synF M) :
  Res d (clearN d) (fun d'=>d'.fs nT=synF T∧d'.fs nL=none∧d'.fs nM=none) (fun d'=>∀T' L' M',Out (d'.fs nT) T'→Out (d'.fs nL) L'→Out (d'.fs nM) M'→T'=T∧(M'=M∧L'=L∨M'=none)):=by
 have h1:Res d (goneN d nM) (fun d'=>d'.fs nM=none∧∀m,m≠nM→d'.fs m=d.fs m) (fun d'=>∀T' L' M',Out (d'.fs nT) T'→Out (d'.fs nL) L'→Out (d'.fs nM) M'→T'=T∧(M'=M∧L'=L∨M'=none)):=
  (gone_res hd nM_ok hM).mono (fun d' _ g=>g) fun d' b=>by
   intro T' L' M' h1 h2 h3;rw [b.2 nT nMT.symm,hT] at h1;rw [b.2 nL nML.symm,hL] at h2;exact ⟨h1.syn,(b.1 M' h3).imp (fun h=>⟨h,h2.syn⟩) id⟩
 refine thenN_res (f:=fun d=>goneN d nL) h1 fun d1 hd1 g=>?_;refine (gone_res (c:=L) hd1 nL_ok (by rw [g.2 nL nML.symm];exact hL)).mono (fun d' _ g2=>⟨by rw [g2.2 nT nLT.symm,g.2 nT nMT.symm];exact hT,g2.1,by rw [g2.2 nM nML];exact g.1⟩) fun d' b=>by
  intro T' L' M' h1 h2 h3;rw [b.2 nT nLT.symm,g.2 nT nMT.symm,hT] at h1;rw [b.2 nM nML,g.1] at h3;exact ⟨h1.syn,.inr (Out.syn (b:=none) h3)⟩
theorem latQ_find {fs:List Fr} {p:Int} : latQ fs p=((latF fs).find? fun f=>decide (f.page=p)).map (·.b):=by
 cases hf:(latF fs).find? fun f=>decide (f.page=p) with
 | none=>
  rw [List.find?_eq_none] at hf;cases hq:latQ fs p with
  | none=>rfl
  | some b=>obtain ⟨f,h1,h2,_⟩:=latQ_some hq;exact absurd (by simpa using h2) (hf f h1)
 | some f=>
  have h1:=List.mem_of_find?_eq_some hf;have h2:=List.find?_some hf;simp only [decide_eq_true_eq] at h2;rw [←h2,latQ_of h1];rfl
def wrG (ds:List Fr) (z:Nat) (T:List UInt8) (i:Nat):UInt8:=match ds.find? fun f=>decide (f.page=((i / z:Nat):Int)+1) with | some f=>gd f.b (i%z) | none=>gd T i
theorem in_page {i p z:Nat} (hz:0<z):(p*z≤i∧i<p*z+z)↔i / z=p:=by
 constructor
 ·rintro ⟨h1,h2⟩;refine Nat.le_antisymm ?_ ((Nat.le_div_iff_mul_le hz).2 h1);exact Nat.le_of_lt_succ ((Nat.div_lt_iff_lt_mul hz).2 (by rw [Nat.succ_mul];exact h2))
 ·rintro rfl;have h1:=Nat.div_mul_le_self i z;have h2:=Nat.mod_lt i hz;have h3:i / z*z+i%z=i:=by rw [Nat.mul_comm];exact Nat.div_add_mod i z
  omega
theorem mod_page {i p z:Nat} (h:i / z=p):i-p*z=i%z:=by
 have h3:i / z*z+i%z=i:=by rw [Nat.mul_comm];exact Nat.div_add_mod i z
 rw [h] at h3;omega
theorem wrG_snoc {ds:List Fr} {f:Fr} {z p:Nat} {T cur:List UInt8} (hz:0<z) (hf:f.page=(p:Int)+1) (hl:f.b.length=z) (hn:∀g∈ds,g.page≠f.page) (hc:∀i,gd cur i=wrG ds z T i) (i:Nat):gd (wrB cur (p*z) f.b) i=wrG (ds++[f]) z T i:=by
 rw [gd_wrB,hl];unfold wrG;rw [List.find?_append];by_cases h:i / z=p
 ·rw [if_pos ((in_page hz).2 h),mod_page h];have h1:ds.find? (fun f=>decide (f.page=((i / z:Nat):Int)+1))=none:=by
   rw [List.find?_eq_none];intro g hg;simp only [decide_eq_true_eq];rw [h,←hf];exact hn g hg
  rw [h1,List.find?_cons_of_pos (by simp only [decide_eq_true_eq];omega)];rfl
 ·rw [if_neg (fun h1=>h ((in_page hz).1 h1)),hc i];have h1:[f].find? (fun f=>decide (f.page=((i / z:Nat):Int)+1))=none:=by
   rw [List.find?_cons_of_neg (by simp only [decide_eq_true_eq];omega)];rfl
  rw [h1,Option.or_none];rfl
def Keep (fs:List Fr) (z:Nat) (T:List UInt8) (c:Chn):Prop:=∀k o,Un fs z T (Option.getD o [])→Un fs z T ((crO c k o).getD [])
theorem keep_w {fs:List Fr} {z:Nat} {T:List UInt8} {f:Fr} {p:Nat} (hz:0<z) (hf:f∈latF fs) (hp:f.page=(p:Int)+1) (hl:f.b.length=z):Keep fs z T ⟨0,p*z,f.b⟩:=fun k o ho=>by
 rcases crO_w (p:=p*z) (c:=f.b) (k:=k) (o:=o) with h | ⟨c',h1,h⟩
 ·rw [h];exact ho
 ·rw [h,Option.getD_some];intro i hi hq;rw [gd_wrB,if_neg,ho i hi hq];intro h2;have h3:=h1.length_le;have h4:i / z=p:=(in_page hz).1 ⟨h2.1,by omega⟩;rw [h4,←hp,latQ_of hf] at hq;cases hq
theorem keep_t {fs:List Fr} {z:Nat} {T:List UInt8} : Keep fs z T ⟨1,manyN fs*z,[]⟩:=fun k o ho=>by
 rcases crO_n (c:=⟨1,manyN fs*z,[]⟩) (k:=k) (o:=o) (by simp) with h | h
 ·rw [h];exact ho
 ·rw [h];cases o with
  | none=>exact ho
  | some b=>intro i hi hq;show gd (longN b _) i=_;rw [gd_longN,if_pos hi];exact ho i hi hq
theorem gd_pre0 {c:List UInt8} (h:c <+: [0]) (i:Nat):gd c i=0:=by
 obtain ⟨s,hs⟩:=h;cases c with
 | nil=>rfl
 | cons a c=>
  injection hs with h1 h2;have h3:c=[]:=List.append_eq_nil_iff.1 h2 |>.1
  subst h1 h3;cases i<;>rfl
theorem keep_0 {fs:List Fr} {z p:Nat} {T:List UInt8} (h0:latF fs=[]) (hT:T=[]):Keep fs z T ⟨0,p,[0]⟩:=fun k o ho=>by
 rcases crO_w (p:=p) (c:=[0]) (k:=k) (o:=o) with h | ⟨c',h1,h⟩
 ·rw [h];exact ho
 ·rw [h,Option.getD_some];intro i hi hq;rw [gd_wrB];split
  ·rw [gd_pre0 h1,hT];rfl
  ·exact ho i hi hq
structure WSt (fs:List Fr) (z:Nat) (T:Option (List UInt8)) (L M:Option (List UInt8)) (ds:List Fr) (d:Dk):Prop where
 L:d.fs nL=synF L
 M:d.fs nM=synF M
 T:∃ops cur,FSt (d.fs nT) T ops cur∧(∀c∈ops,Keep fs z (T.getD []) c)∧(∀i,gd (cur.getD []) i=wrG ds z (T.getD []) i)∧(cur=none→ds=[]∧T=none)
def Mid (fs:List Fr) (z:Nat) (T L M T' L' M':Option (List UInt8)):Prop:=
 (M'=M∧L'=L∧tgt fs z (T'.getD [])=tgt fs z (T.getD []))∨(M'=none∧T'.getD []=tgt fs z (T.getD []))
def MidD (fs:List Fr) (z:Nat) (T L M:Option (List UInt8)) (d:Dk):Prop:=∀T' L' M',Out (d.fs nT) T'→Out (d.fs nL) L'→Out (d.fs nM) M'→Mid fs z T L M T' L' M'
theorem mid_of {fs:List Fr} {z:Nat} {T L M cur:Option (List UInt8)} {ops:List Chn} {d:Dk} (hn:fs≠[]) (hL:d.fs nL=synF L) (hM:d.fs nM=synF M) (st:FSt (d.fs nT) T ops cur) (hk:∀c∈ops,Keep fs z (T.getD []) c):MidD fs z T L M d:=fun T' L' M' h1 h2 h3=>by
 rw [hL] at h2;rw [hM] at h3;exact .inl ⟨h3.syn,h2.syn,Un.tgt hn (st.inv (P:=fun o=>Un fs z (T.getD []) (o.getD [])) h1 (Un.refl _ _ _) fun c hc k o ho=>hk c hc k o ho)⟩
section
variable {fs:List Fr} {z:Nat} {T L M:Option (List UInt8)} (hz:0<z) (hz2:z≤4096) (hok:okL z fs) (he:EndsC fs) (hm:manyN fs*z≤16777216)
include hz hz2 hok he hm
theorem page_in {f:Fr} (hf:f∈latF fs):∃p:Nat,f.page=(p:Int)+1∧p<manyN fs∧f.b.length=z∧p*z+z≤16777216:=by
 have h1:=hok f (latF_in hf);have h2:=(okF_iff.1 h1.1).1;have h3:=he.page hf;have h4:=he.many fun f hf=>(hok f hf).1;refine ⟨(f.page-1).toNat,by omega,by omega,h1.2,?_⟩;have h5:((f.page-1).toNat+1)*z≤manyN fs*z:=Nat.mul_le_mul_right _ (by omega);rw [Nat.succ_mul] at h5;omega
theorem writes_res:∀(gs ds:List Fr) {d:Dk},ds++gs=latF fs→d.dark=false→WSt fs z T L M ds d→Res d (writesN z d gs) (WSt fs z T L M (latF fs)) (MidD fs z T L M)
 | [],ds,d,e,hd,w=>by
  rw [List.append_nil] at e;rw [e] at w;exact .ok hd w
 | f::gs,ds,d,e,hd,w=>by
  have hf:f∈latF fs:=by rw [←e];simp
  obtain ⟨p,hp,hpm,hl,hb⟩:=page_in hz hz2 hok he hm hf;obtain ⟨ops,cur,st,hk,hg,hn⟩:=w.T;have hdis:∀g∈ds,g.page≠f.page:=fun g hg=>by
   have h1:=latF_srt fs;rw [←e] at h1;have:=(List.pairwise_append.1 h1).2.2 g hg f List.mem_cons_self;omega
  have s1:=st.chg ⟨0,p*z,f.b⟩;have e1:doO' ⟨0,p*z,f.b⟩ cur=some (wrB (cur.getD []) (p*z) f.b):=by cases cur<;>rfl
  rw [e1] at s1;have hk1:∀c∈ops++[⟨0,p*z,f.b⟩],Keep fs z (T.getD []) c:=fun c hc=>by
   rcases List.mem_append.1 hc with h | h
   ·exact hk c h
   ·rw [List.mem_singleton.1 h];exact keep_w hz hf hp hl
  have ea:(f.page-1)*(z:Int)=((p*z:Nat):Int):=by rw [hp,Int.add_sub_cancel];exact (Int.natCast_mul _ _).symm
  have r1:Res d (writeN d nT ((f.page-1)*(z:Int)) f.b) (WSt fs z T L M (ds++[f])) (MidD fs z T L M):=by
   rw [ea];exact write_res hd nT_ok (by omega) ⟨by rw [stepD'_ne nLT];exact w.L,by rw [stepD'_ne nMT];exact w.M,_,some (wrB (cur.getD []) (p*z) f.b),by rw [stepD'_at];exact s1,hk1,fun i=>wrG_snoc hz hp hl hdis hg i,fun h=>by cases h⟩
    (mid_of he.1 (d:=darkD d) w.L w.M st hk)
  exact thenN_res (f:=fun d=>writesN z d gs) r1 fun d1 hd1 w1=>writes_res gs (ds++[f]) (by rw [List.append_assoc];exact e) hd1 w1
theorem wrG_ov {i:Nat} (hi:i<manyN fs*z) (T:List UInt8):wrG (latF fs) z T i=gd (ovB fs z T) i:=by
 rw [gd_ovB hi,latQ_find];unfold wrG;cases (latF fs).find? fun f=>decide (f.page=((i / z:Nat):Int)+1)<;>rfl
theorem fit_res {d:Dk} (hd:d.dark=false) (w:WSt fs z T L M (latF fs) d):Res d (fitN d (latC fs fs.length*z)) (fun d'=>d'.fs nL=synF L∧d'.fs nM=synF M∧∃ops,FSt (d'.fs nT) T ops (some (ovB fs z (T.getD [])))∧∀c∈ops,Keep fs z (T.getD []) c) (MidD fs z T L M):=by
 have hmy:=he.many fun f hf=>(hok f hf).1;have ea:latC fs fs.length*(z:Int)=((manyN fs*z:Nat):Int):=by rw [←hmy.2.1];exact (Int.natCast_mul _ _).symm
 obtain ⟨ops,cur,st,hk,hg,hn⟩:=w.T;have ht:=there_st st;have hzz:0<manyN fs*z:=Nat.mul_pos hmy.1 hz;unfold fitN;rw [ht,hd,ea];cases hc:cur with
 | some b=>
  subst hc;rw [if_pos (.inl rfl)];have s1:=st.chg ⟨1,manyN fs*z,[]⟩;have e1:doO' ⟨1,manyN fs*z,[]⟩ (some b)=some (ovB fs z (T.getD [])):=by
   show some (longN b _)=_;congr 1;refine ext_gd (by rw [longN_len,ovB_len]) fun i hi=>?_;rw [longN_len] at hi;rw [gd_longN,if_pos hi,←wrG_ov hz hz2 hok he hm hi];exact hg i
  rw [e1] at s1;refine trunc_res hd nT_ok ht (by omega) ⟨by rw [stepD'_ne nLT];exact w.L,by rw [stepD'_ne nMT];exact w.M,_,by rw [stepD'_at];exact s1,fun c hc=>?_⟩ (mid_of he.1 (d:=darkD d) w.L w.M st hk);rcases List.mem_append.1 hc with h | h
  ·exact hk c h
  ·rw [List.mem_singleton.1 h];exact keep_t
 | none=>
  subst hc;obtain ⟨h0,hT0⟩:=hn rfl;rw [if_neg (by rintro (h | h)<;>cases h),show ((manyN fs*z:Nat):Int)-1=((manyN fs*z-1:Nat):Int) by omega];have s1:=st.chg ⟨0,manyN fs*z-1,[0]⟩;have e1:doO' ⟨0,manyN fs*z-1,[0]⟩ none=some (ovB fs z (T.getD [])):=by
   show some (wrB [] (manyN fs*z-1) [0])=_;congr 1;refine ext_gd (by rw [wrB_len,ovB_len];simp;omega) fun i hi=>?_;rw [wrB_len] at hi;rw [gd_wrB,←wrG_ov hz hz2 hok he hm (by simp at hi;omega),←hg i];split
   ·exact gd_pre0 List.prefix_rfl _
   ·rfl
  rw [e1] at s1;refine write_res hd nT_ok (by simp;omega) ⟨by rw [stepD'_ne nLT];exact w.L,by rw [stepD'_ne nMT];exact w.M,_,by rw [stepD'_at];exact s1,fun c hc=>?_⟩ (mid_of he.1 (d:=darkD d) w.L w.M st hk);rcases List.mem_append.1 hc with h | h
  ·exact hk c h
  ·rw [List.mem_singleton.1 h];exact keep_0 h0 (by rw [hT0];rfl)
end
def tO (fs:List Fr) (z:Nat) (T:Option (List UInt8)):Option (List UInt8):=if fs=[] then T else some (ovB fs z (T.getD []))
theorem tO_get {fs:List Fr} {z:Nat} {T:Option (List UInt8)} : (tO fs z T).getD []=tgt fs z (T.getD []):=by unfold tO tgt;split<;>rfl
theorem carry_res {fs:List Fr} {z:Nat} {T L M:Option (List UInt8)} {d:Dk} (hd:d.dark=false) (hT:d.fs nT=synF T) (hL:d.fs nL=synF L) (hM:d.fs nM=synF M) (hz:0<z) (hz2:z≤4096) (hok:okL z fs) (he:fs=[]∨EndsC fs) (hm:manyN fs*z≤16777216) :
  Res d (carryN d z fs) (fun d'=>d'.fs nT=synF (tO fs z T)∧d'.fs nL=none∧d'.fs nM=none) (MidD fs z T L M):=by
 have hcl:∀ {d1:Dk},d1.dark=false→d1.fs nT=synF (tO fs z T)→d1.fs nL=synF L→d1.fs nM=synF M→Res d1 (clearN d1) (fun d'=>d'.fs nT=synF (tO fs z T)∧d'.fs nL=none∧d'.fs nM=none) (MidD fs z T L M):=fun h1 h2 h3 h4=>
  (clear_res h1 h2 h3 h4).mono (fun d' _ g=>g) fun d' b=>by
   intro T' L' M' g1 g2 g3;obtain ⟨e1,e2⟩:=b T' L' M' g1 g2 g3;rcases e2 with ⟨e2,e3⟩ | e2
   ·exact .inl ⟨e2,e3,by rw [e1,tO_get,tgt_tgt]⟩
   ·exact .inr ⟨e2,by rw [e1,tO_get]⟩
 unfold carryN;by_cases h0:fs=[]
 ·rw [if_pos h0];exact hcl hd (by rw [hT];unfold tO;rw [if_pos h0]) hL hM
 ·rw [if_neg h0];have he:=he.resolve_left h0;have hmy:=he.many fun f hf=>(hok f hf).1;have w0:WSt fs z T L M [] d:=⟨hL,hM,[],T,by rw [hT];exact .syn T,by simp,fun i=>rfl,fun h=>⟨rfl,h⟩⟩;have r1:=writes_res hz hz2 hok he hm (latF fs) [] rfl hd w0;have r2:=thenN_res (f:=fun d=>fitN d (latC fs fs.length*z)) r1 fun d1 hd1 w1=>fit_res hz hz2 hok he hm hd1 w1;refine thenN_res (f:=clearN) (thenN_res (f:=fun d=>noneOk (syncN d nT)) (G2:=fun d'=>d'.fs nT=synF (tO fs z T)∧d'.fs nL=synF L∧d'.fs nM=synF M) r2 fun d1 hd1 ⟨g1,g2,ops,g3,g4⟩=>?_) fun d1 hd1 g=>hcl hd1 g.1 g.2.1 g.2.2;have hh:=g3.here;cases hf:d1.fs nT with
  | none=>rw [hf] at hh;cases hh
  | some f=>
   rw [hf] at hh;have hs:settleF f=synF (some (ovB fs z (T.getD []))):=FSt.settle (by rw [←hf];exact g3);have r3:Res d1 (syncN d1 nT) (fun d'=>d'.fs nT=synF (tO fs z T)∧d'.fs nL=synF L∧d'.fs nM=synF M) (MidD fs z T L M):=
    sync_res hd1 nT_ok hf (.inl hh) ⟨by rw [stepD'_at,hs];unfold tO;rw [if_neg h0],by rw [stepD'_ne nLT];exact g1,by rw [stepD'_ne nMT];exact g2⟩ (mid_of he.1 (d:=darkD d1) g1 g2 g3 g4)
   have e4:noneOk (syncN d1 nT)=syncN d1 nT:=by unfold noneOk;rw [if_neg];intro h;rcases r3.code with h1 | h1<;>omega
   simp only [e4];exact r3
open Go Go.HL
structure PgOk (z:Nat) (s:List (List UInt8)):Prop where
 sz:okSz z=true
 len:∀l∈s,l.length=z
 fit:s.length*z≤16777216
 hd:s≠[]→hdOk (s.getD 0 []) z=true
theorem okSz_b {z:Nat} (h:okSz z=true):256≤z∧z≤4096:=by have:=okSz_cases h;omega
theorem PgOk.many {z:Nat} {s:List (List UInt8)} (p:PgOk z s):s.length≤65536:=by
 have h1:=(okSz_b p.sz).1;have h2:s.length*256≤s.length*z:=Nat.mul_le_mul_left _ h1;have:=p.fit;omega
def cmtN (fa:List Fr) (k:Nat):List Fr:=(fa.take k).take (sureN (fa.take k))
def logB (z salt:Nat) (fs:List Fr):List UInt8:=headN z salt++putsN (nextN salt (headN z salt)) fs
def mlen (M:Option (List UInt8)):Nat:=(M.getD []).length
def Gd (z:Nat) (T L M:Option (List UInt8)) (s:List (List UInt8)):Prop:=
 if mlen M=0 then T.getD []=s.flatten else ∃salt fa x,salt<18446744073709551616∧okL z fa∧L=some (logB z salt fa++x)∧mlen M≤fa.length+1∧tgt (cmtN fa (mlen M-1)) z (T.getD [])=s.flatten
theorem Gd.z0 {z:Nat} {T L M:Option (List UInt8)} {s:List (List UInt8)} (h:mlen M=0) (hT:T.getD []=s.flatten):Gd z T L M s:=by unfold Gd;rw [if_pos h];exact hT
theorem okL.take {z k:Nat} {fa:List Fr} (h:okL z fa):okL z (fa.take k):=fun f hf=>h f (List.mem_of_mem_take hf)
theorem cmt_ok {z k:Nat} {fa:List Fr} (h:okL z fa):okL z (cmtN fa k):=h.take.take
theorem cmt_ends {z k:Nat} {fa:List Fr} (h:okL z fa):cmtN fa k=[]∨EndsC (cmtN fa k):=by
 by_cases h0:cmtN fa k=[]
 ·exact .inl h0
 ·exact .inr (sure_ends (fun f hf=>(okF_iff.1 (h.take f hf).1).1.2.2.1) h0)
theorem logB_len {z salt:Nat} {fs:List Fr} (h:okL z fs):(logB z salt fs).length=20+fs.length*(16+z):=by unfold logB;rw [List.length_append,headN_len,putsN_len h]
theorem log_take {z salt k:Nat} {fa:List Fr} {x:List UInt8} (h:okL z fa) (hk:k≤fa.length):(logB z salt fa++x).take (20+k*(16+z))=logB z salt (fa.take k):=by
 have h1:okL z (fa.take k):=h.take;have hl:=logB_len (salt:=salt) h1;rw [List.length_take,Nat.min_eq_left hk] at hl;have e:logB z salt fa++x=logB z salt (fa.take k)++(putsN (linkL (nextN salt (headN z salt)) (fa.take k)) (fa.drop k)++x):=by
  unfold logB
  conv=>lhs;rw [←List.take_append_drop k fa,putsN_app]
  simp only [List.append_assoc]
 rw [e,List.take_left' hl]
theorem log_scan {z salt:Nat} {fs:List Fr} (hz:z<4294967296) (hs:salt<18446744073709551616) (h:okL z fs):scanF (logB z salt fs)=fs.take (sureN fs):=by
 have:=scan_short_log hz hs h [] (by simp;omega);rw [List.append_nil] at this;exact scanF_of this
theorem tgt_bound {z:Nat} {fs:List Fr} {T:List UInt8} {s:List (List UInt8)} (p:PgOk z s) (h:tgt fs z T=s.flatten):manyN fs*z≤16777216:=by
 unfold tgt at h;by_cases h0:fs=[]
 ·subst h0;simp [manyN,latC]
 ·rw [if_neg h0] at h;have:=congrArg List.length h;rw [ovB_len,flat_lenZ p.len] at this;rw [this];exact p.fit
theorem allN_syn {d:Dk} {L:Option (List UInt8)} (hd:d.dark=false) (hL:d.fs nL=synF L) (hl:(L.getD []).length≤16777216):(allN d nL).1=L.getD []∧(allN d nL).2≠13:=by
 have st:FSt (d.fs nL) L [] L:=by rw [hL];exact .syn L
 unfold allN;rw [size_st hd st];cases L with
 | none=>rw [show (((none:Option (List UInt8)).getD []).length,(none:Option (List UInt8)).isSome)=(0,false) from rfl,show ((0,false).1:Nat)=0 from rfl,show (0:Int)=((0:Nat):Int) from rfl,read_no hd nL_ok st];exact ⟨rfl,by decide⟩
 | some b=>rw [show (0:Int)=((0:Nat):Int) from rfl,read_st hd nL_ok st];exact ⟨by simp,by simp⟩
structure Syn3 (d:Dk) (T L M:Option (List UInt8)):Prop where
 hd:d.dark=false
 T:d.fs nT=synF T
 L:d.fs nL=synF L
 M:d.fs nM=synF M
def GdD (z:Nat) (s:List (List UInt8)) (d:Dk):Prop:=∀T' L' M',Out (d.fs nT) T'→Out (d.fs nL) L'→Out (d.fs nM) M'→Gd z T' L' M' s
def Clean (s:List (List UInt8)) (d:Dk):Prop:=∃T,Syn3 d T none none∧T.getD []=s.flatten
theorem mlen_pos {M:Option (List UInt8)} (h:mlen M≠0):∃b,M=some b∧b.length=mlen M:=by cases M;exact absurd rfl h;exact ⟨_,rfl,rfl⟩
theorem start_own {d:Dk} {T L M:Option (List UInt8)} {z:Nat} {s:List (List UInt8)} (S:Syn3 d T L M) (p:PgOk z s) (g:Gd z T L M s) (hLl:(L.getD []).length≤16777216):Res d (startN d z) (Clean s) (GdD z s):=by
 have stM:FSt (d.fs nM) M [] M:=by rw [S.M];exact .syn M
 have hsz:=size_st S.hd stM;have hzb:=okSz_b p.sz;unfold Gd at g;by_cases h0:mlen M=0
 ·rw [if_pos h0] at g;rw [start_c (by rw [hsz];rintro ⟨_,h2⟩;unfold mlen at h0;simp only at h2;omega)];refine (clear_res S.hd S.T S.L S.M).mono (fun d' hd' g'=>⟨T,⟨hd',g'.1,g'.2.1,g'.2.2⟩,g⟩) fun d' b=>by
   intro T' L' M' g1 g2 g3;obtain ⟨e1,e2⟩:=b T' L' M' g1 g2 g3;refine .z0 ?_ (by rw [e1];exact g);rcases e2 with ⟨e2,_⟩ | e2
   ·rw [e2];exact h0
   ·rw [e2];rfl
 ·rw [if_neg h0] at g;obtain ⟨salt,fa,x,hs,hok,rfl,hm,ht⟩:=g;obtain ⟨mb,rfl,hmb⟩:=mlen_pos h0;have hal:=allN_syn S.hd S.L hLl;simp only [Option.getD_some] at hal hLl;have hn:(sizeN d nM).1=mlen (some mb):=by rw [hsz];rfl
  have hk:mlen (some mb)-1≤fa.length:=by omega
  rw [start_r (by rw [hsz];rfl) (by rw [hn];omega),hn];have hll:(logB z salt fa++x).length=20+fa.length*(16+z)+x.length:=by rw [List.length_append,logB_len hok]
  have h20:(logB z salt fa++x).take 20=headN z salt:=by unfold logB;rw [List.append_assoc];exact take_headN
  have hrd:rdN ((logB z salt fa++x).take 20) 4 4=z:=by rw [h20];have:=rd4_headN (n:=z) (salt:=salt) (by omega) [];rwa [List.append_nil] at this
  have hho:headOk ((logB z salt fa++x).take 20)=true:=by rw [h20];have:=headOk_headN (n:=z) (salt:=salt) (by omega) hs p.sz [];rwa [List.append_nil] at this
  have hmul:(mlen (some mb)-1)*(16+z)≤fa.length*(16+z):=Nat.mul_le_mul_right _ hk;have hsc:=scan_short_log (n:=z) (by omega) hs (hok.take (k:=mlen (some mb)-1)) [] (by simp;omega);rw [List.append_nil] at hsc;have hrec:recN d z (mlen (some mb))=carryN d z (cmtN fa (mlen (some mb)-1)):=
   rec_go (n:=mlen (some mb)) (size:=z) hal.1 hal.2 (by rw [hll];omega) hho (by rw [hrd,hll];omega) hrd (by rw [hrd,log_take hok hk];exact hsc)
  rw [hrec];refine (carry_res S.hd S.T S.L S.M (by omega) hzb.2 (cmt_ok hok) (cmt_ends hok) (tgt_bound p ht)).mono (fun d' hd' g'=>⟨_,⟨hd',g'.1,g'.2.1,g'.2.2⟩,by rw [tO_get];exact ht⟩) fun d' b=>by
   intro T' L' M' g1 g2 g3;rcases b T' L' M' g1 g2 g3 with ⟨e1,e2,e3⟩ | ⟨e1,e2⟩
   ·unfold Gd;rw [e1,if_neg h0];exact ⟨salt,fa,x,hs,hok,e2,hm,by rw [e3];exact ht⟩
   ·exact .z0 (by rw [e1];rfl) (by rw [e2];exact ht)
theorem decN_take {l:List UInt8} (h:64≤l.length):decN (l.take 64)=decN l:=by
 have h1:∀k,k<6→hdAt (l.take 64) k=hdAt l k:=fun k hk=>by unfold hdAt;exact rdN_take (by omega)
 have h2:decH (l.take 64)=decH l:=by unfold decH;rw [h1 0 (by omega),h1 1 (by omega),h1 2 (by omega),h1 3 (by omega),h1 4 (by omega),h1 5 (by omega)]
 have h3:decY (l.take 64)↔decY l:=by unfold decY;rw [h2,h1 0 (by omega),h1 1 (by omega),h1 2 (by omega),h1 3 (by omega),h1 4 (by omega),h1 5 (by omega),List.take_take,Nat.min_self]
 unfold decN;rw [if_neg (show ¬(l.take 64).length<64 by rw [List.length_take];omega),if_neg (show ¬l.length<64 by omega),List.take_take,show min 16 64=16 from rfl,h2];by_cases h4:decY l
 ·rw [if_pos h4,if_pos (h3.2 h4)]
 ·rw [if_neg h4,if_neg (fun h=>h4 (h3.1 h))]
theorem look_own {d:Dk} {z:Nat} {s:List (List UInt8)} (p:PgOk z s) (c:Clean s d):lookN d z=(s.length,0):=by
 obtain ⟨T,S,hT⟩:=c;have stT:FSt (d.fs nT) T [] T:=by rw [S.T];exact .syn T
 have hsz:=size_st S.hd stT;have hfl:=flat_lenZ p.len;have hzb:=okSz_b p.sz;rw [hT] at hsz;by_cases h0:s=[]
 ·subst h0;rw [look_00 (.inr (by rw [hsz];rfl)) S.hd];rfl
 ·have hp:0<s.length:=List.length_pos_iff.2 h0;have hlz:z≤s.flatten.length:=by rw [hfl];exact Nat.le_mul_of_pos_left _ hp
  obtain ⟨b,hb⟩:∃b,T=some b:=by cases T;(rw [←hT] at hlz;simp at hlz;omega);exact ⟨_,rfl⟩
  subst hb;simp only [Option.getD_some] at hT;have hr:=read_st (p:=0) (z:=64) S.hd nT_ok stT;rw [List.drop_zero,hT,show ((0:Nat):Int)=0 from rfl,show ((64:Nat):Int)=64 from rfl] at hr;have hpg:s.flatten.take 64=(s.getD 0 []).take 64:=by
   have h1:=flat_drop p.len (i:=0) hp;rw [Nat.zero_mul,List.drop_zero] at h1;have e:s.getD 0 []=s[0]:=by simp [hp]
   rw [e,←h1,List.take_take];congr 1;omega
  have hdc:decN (s.flatten.take 64)=decN (s.getD 0 []):=by
   rw [hpg];refine decN_take ?_;have e:s.getD 0 []=s[0]:=by simp [hp]
   rw [e,p.len _ (List.getElem_mem hp)];omega
  have hh:=p.hd h0;unfold hdOk at hh;simp only [decide_eq_true_eq] at hh;have e1:(sizeN d nT).1=s.length*z:=by rw [hsz];exact hfl
  rw [look_ok (by rw [hsz];rfl) (by rw [e1];have:=Nat.mul_pos hp (show 0<z by omega);omega) (by rw [hr]) (by rw [hr];simp only;rw [hdc,hh.2,e1];rintro (h | h);exact h hh.1;exact h (by rw [Int.natCast_mul];exact Int.mul_emod_left _ _)) (by rw [hr];simp only;rw [hdc];exact hh.2),e1,Nat.mul_div_cancel _ (by omega)]
theorem okZ_of {z:Nat} (h:okSz z=true):okZ (z:Int)=true:=by have:=okSz_cases h;exact decide_eq_true (by omega)
theorem open_own {d:Dk} {T L M:Option (List UInt8)} {z:Nat} {room:Int} {s:List (List UInt8)} (S:Syn3 d T L M) (p:PgOk z s) (g:Gd z T L M s) (hLl:(L.getD []).length≤16777216) (hr:1≤room∧room≤1048576) :
  ((openN d z room).2=(s.length,0)∧Clean s (openN d z room).1∧(d.left<0→(openN d z room).1.left<0))∨((openN d z room).2=(0,13)∧(openN d z room).1.dark=true∧0≤d.left∧GdD z s (openN d z room).1):=by
 have r:=start_own S p g hLl;rcases r with ⟨e1,e2,e3,e4⟩ | ⟨e1,e2,e3,e4⟩
 ·left;rw [open_ok (okZ_of p.sz) hr S.hd e1,look_own p e4];exact ⟨rfl,e4,e3⟩
 ·right;rw [open_e (okZ_of p.sz) hr S.hd (by omega),e1];exact ⟨rfl,e2,e3,e4⟩
def fstL (z salt:Nat):Nat:=nextN salt (headN z salt)
inductive DkSt (A:Ah) (T:Option (List UInt8)):List Fr→Prop
 | none:A.nd=0→A.fr=0→A.dk.fs nL=Option.none→A.dk.fs nM=Option.none→T.getD []=A.sure.flatten→DkSt A T []
 | log {fs:List Fr} (salt:Nat) (mk:List UInt8):salt<18446744073709551616→okL A.size fs→EndsC fs→A.nd=20+fs.length*(16+A.size)→A.fr=fs.length→A.link=linkL (fstL A.size salt) fs→A.dk.fs nL=synF (some (logB A.size salt fs))→A.dk.fs nM=synF (some mk)→mk.length=1+fs.length→ovB fs A.size (T.getD [])=A.sure.flatten→A.nd≤16777216→DkSt A T fs
structure AhOk (A:Ah):Prop where
 hd:A.dk.dark=false
 pg:PgOk A.size A.sure
 st:∃T fs,A.dk.fs nT=synF T∧DkSt A T fs
def Gd2 (z:Nat) (s s':List (List UInt8)) (d:Dk):Prop:=∀T' L' M',Out (d.fs nT) T'→Out (d.fs nL) L'→Out (d.fs nM) M'→Gd z T' L' M' s∨Gd z T' L' M' s'
theorem sure_all {fs:List Fr} (h:EndsC fs) (hok:∀f∈fs,0≤f.commit):sureN fs=fs.length:=by
 obtain ⟨l,a,rfl⟩:∃l a,fs=l++[a]:=⟨fs.dropLast,fs.getLast h.1,(List.dropLast_concat_getLast h.1).symm⟩;have h2:=h.2;rw [List.length_append,List.length_singleton,Nat.add_sub_cancel] at h2;have e:frN (l++[a]) l.length=a:=by simp [frN]
 rw [e] at h2;have:=hok a (by simp);rw [sureN_snoc,if_pos (by omega),List.length_append];rfl
theorem okL.com {z:Nat} {fs:List Fr} (h:okL z fs):∀f∈fs,0≤f.commit:=fun f hf=>(okF_iff.1 (h f hf).1).1.2.2.1
theorem cmt_all {z:Nat} {fs:List Fr} (hok:okL z fs) (he:EndsC fs):cmtN fs fs.length=fs:=by
 unfold cmtN;rw [List.take_length,sure_all he hok.com,List.take_length]
theorem AhOk.gd {A:Ah} (O:AhOk A):GdD A.size A.sure A.dk:=fun T' L' M' h1 h2 h3=>by
 obtain ⟨T,fs,hT,st⟩:=O.st;rw [hT] at h1;have e1:=h1.syn;cases st with
 | none h4 h5 h6 h7 h8=>
  rw [h7] at h3;have e3:=Out.syn (b:=Option.none) h3;exact .z0 (by rw [e3];rfl) (by rw [e1];exact h8)
 | log salt mk hs hok he hnd hfr hlk hL hM hmk hov=>
  rw [hL] at h2;rw [hM] at h3;rw [h2.syn,h3.syn,e1];unfold Gd;rw [if_neg (by show ¬mk.length=0;omega)];refine ⟨salt,fs,[],hs,hok,by rw [List.append_nil],by unfold mlen;simp;omega,?_⟩;have:mlen (some mk)-1=fs.length:=by unfold mlen;simp;omega
  rw [this,cmt_all hok he];unfold tgt;rw [if_neg he.1];exact hov
theorem over_eq {A:Ah} {T:Option (List UInt8)} {fs:List Fr} (O:AhOk A) (st:DkSt A T fs) (h0:0<A.nd):∃salt,salt<18446744073709551616∧okL A.size fs∧EndsC fs∧(readN A.dk nL 0 A.nd)=(logB A.size salt fs,0)∧scanF (logB A.size salt fs)=fs∧tgt fs A.size (T.getD [])=A.sure.flatten∧headOk (logB A.size salt fs)=true∧(logB A.size salt fs).length=A.nd:=by
 cases st with
 | none h4=>omega
 | log salt mk hs hok he hnd hfr hlk hL hM hmk hov=>
  have hzb:=okSz_b O.pg.sz;have stL:FSt (A.dk.fs nL) (some (logB A.size salt fs)) [] (some (logB A.size salt fs)):=by rw [hL];exact .syn _
  have hll:=logB_len (salt:=salt) hok;have hr:=read_st (p:=0) (z:=A.nd) O.hd nL_ok stL;rw [List.drop_zero,List.take_of_length_le (by omega)] at hr;have hsc:=log_scan (z:=A.size) (by omega) hs hok;rw [sure_all he hok.com,List.take_length] at hsc;exact ⟨salt,hs,hok,he,hr,hsc,by unfold tgt;rw [if_neg he.1];exact hov,headOk_headN (by omega) hs O.pg.sz _,by omega⟩
theorem over_res {A:Ah} (O:AhOk A) (h0:0<A.nd) :
  ((overA A).2=0∧(carryN A.dk A.size (scanF (readN A.dk nL 0 A.nd).1)).2=0∧AhOk (overA A).1∧(overA A).1 = { A with dk:=(carryN A.dk A.size (scanF (readN A.dk nL 0 A.nd).1)).1,fr:=0,nd:=0,link:=0 }∧(A.dk.left<0→(overA A).1.dk.left<0)∧(∃T,(overA A).1.dk.fs nT=synF T∧T.getD []=A.sure.flatten))∨
  ((overA A).2=13∧(carryN A.dk A.size (scanF (readN A.dk nL 0 A.nd).1)).2=13∧overA A=failA A (carryN A.dk A.size (scanF (readN A.dk nL 0 A.nd).1)).1 13∧(overA A).1.dk.dark=true∧0≤A.dk.left∧GdD A.size A.sure (overA A).1.dk):=by
 obtain ⟨T,fs,hT,st⟩:=O.st;obtain ⟨salt,hs,hok,he,hr,hsc,htg,_⟩:=over_eq O st h0;have hzb:=okSz_b O.pg.sz;rw [hr];simp only;rw [hsc];have ho:overA A=if (carryN A.dk A.size fs).2=0 then ({ A with dk:=(carryN A.dk A.size fs).1,fr:=0,nd:=0,link:=0 },0) else failA A (carryN A.dk A.size fs).1 (carryN A.dk A.size fs).2:=by
  unfold overA;rw [hr];simp only;rw [hsc]
 obtain ⟨L,M,hL,hM,hML⟩:∃L M,A.dk.fs nL=synF L∧A.dk.fs nM=synF M∧(L=some (logB A.size salt fs)∨True):=by
  cases st with
  | none h4=>omega
  | log salt mk hs hok he hnd hfr hlk hL hM=>exact ⟨_,_,hL,hM,.inr trivial⟩
 have hgd:=O.gd;rcases carry_res O.hd hT hL hM (by omega) hzb.2 hok (.inr he) (tgt_bound O.pg htg) with ⟨e1,e2,e3,e4,e5,e6⟩ | ⟨e1,e2,e3,e4⟩
 ·left;rw [if_pos e1] at ho;rw [ho];have htT:(tO fs A.size T).getD []=A.sure.flatten:=by rw [tO_get];exact htg
  exact ⟨rfl,e1,⟨e2,O.pg,_,[],e4,.none rfl rfl e5 e6 htT⟩,rfl,e3,_,e4,htT⟩
 ·right;rw [if_neg (by omega),e1] at ho;rw [ho];refine ⟨rfl,e1,rfl,e2,e3,fun T' L' M' h1 h2 h3=>?_⟩;have hg0:=hgd T L M ⟨[],by rw [hT];cases T<;>rfl⟩ ⟨[],by rw [hL];cases L<;>rfl⟩ ⟨[],by rw [hM];cases M<;>rfl⟩;rcases e4 T' L' M' h1 h2 h3 with ⟨g1,g2,g3⟩ | ⟨g1,g2⟩
  ·cases st with
   | none h4=>omega
   | log salt2 mk hs2 hok2 he2 hnd2 hfr2 hlk2 hL2 hM2 hmk2 hov2=>
    have e1:M=some mk:=by
     have:Out (A.dk.fs nM) M:=⟨[],by rw [hM];cases M<;>rfl⟩;rw [hM2] at this;exact this.syn
    have e2:L=some (logB A.size salt2 fs):=by
     have:Out (A.dk.fs nL) L:=⟨[],by rw [hL];cases L<;>rfl⟩;rw [hL2] at this;exact this.syn
    unfold Gd;rw [g1,g2,e1,e2,if_neg (by show ¬mk.length=0;omega)];refine ⟨salt2,fs,[],hs2,hok2,by rw [List.append_nil],by unfold mlen;simp;omega,?_⟩;have:mlen (some mk)-1=fs.length:=by unfold mlen;simp;omega
    rw [this,cmt_all hok2 he2,g3];exact htg
  ·exact .z0 (by rw [g1];rfl) (by rw [g2];exact htg)
theorem listN_srt {now sure:List (List UInt8)} : (listN now sure).Pairwise (· < ·):=by
 unfold listN;split
 ·exact List.pairwise_singleton _ _
 ·exact List.Pairwise.filter _ List.pairwise_lt_range
theorem listN_lt {now sure:List (List UInt8)} (h:now≠[]):∀i∈listN now sure,i<now.length:=by
 intro i hi;unfold listN at hi;split at hi
 ·rw [List.mem_singleton.1 hi];exact List.length_pos_iff.2 h
 ·exact List.mem_range.1 (List.mem_filter.1 hi).1
theorem listN_not {now sure:List (List UInt8)} {i:Nat} (hi:i<now.length) (h:i∉listN now sure):sure[i]? = some now[i]:=by
 have h1:i∉unlN now sure:=by
  unfold listN at h;split at h
  ·rename_i h2;rw [h2.1];simp
  ·exact h
 unfold unlN at h1;simp only [List.mem_filter,List.mem_range,decide_eq_true_eq,not_and] at h1;have h2:now[i]? = sure[i]?:=Classical.not_not.1 (h1 hi);rw [←h2,List.getElem?_eq_getElem hi]
section
variable {z:Nat} {now sure:List (List UInt8)} (hp:PgOk z now) (hn:now≠[])
include hp hn
theorem frms_ok {ns:List Nat} (h:∀i∈ns,i<now.length):okL z (frmsN now ns):=fun f hf=>by
 obtain ⟨k,hk,rfl⟩:=List.mem_iff_getElem.1 hf;rw [frmsN_len] at hk;rw [frmsN_at hk];have h1:=h _ (List.getElem_mem hk);have h2:=hp.many;have e:now.getD ns[k] []=now[ns[k]]:=by simp [h1]
 have h3:(frmN now (decide (k+1=ns.length)) ns[k]).b.length=z:=by show (now.getD ns[k] []).length=z;rw [e];exact hp.len _ (List.getElem_mem h1)
 refine ⟨okF_iff.2 ⟨?_,by rw [h3];exact hp.sz⟩,h3⟩;unfold frmN;simp only;split<;>omega
theorem frms_com {ns:List Nat} {j:Nat} (hj:j<ns.length):(frN (frmsN now ns) j).commit=if j+1=ns.length then (now.length:Int) else 0:=by
 have e:frN (frmsN now ns) j=(frmsN now ns)[j]'(by rw [frmsN_len];exact hj):=by unfold frN;rw [List.getElem?_eq_getElem (by rw [frmsN_len];exact hj)];rfl
 rw [e,frmsN_at hj];by_cases h:j+1=ns.length
 ·rw [if_pos h,decide_eq_true h];rfl
 ·rw [if_neg h,decide_eq_false h];rfl
theorem frms_find {ns:List Nat} {i:Nat} : (frmsN now ns).find? (fun f=>decide (f.page=(i:Int)+1))=none∧i∉ns∨∃f,(frmsN now ns).find? (fun f=>decide (f.page=(i:Int)+1))=some f∧i∈ns∧f.b=now.getD i []:=by
 cases hf:(frmsN now ns).find? fun f=>decide (f.page=(i:Int)+1) with
 | none=>
  left;refine ⟨rfl,fun hi=>?_⟩;rw [List.find?_eq_none] at hf;obtain ⟨k,hk,rfl⟩:=List.mem_iff_getElem.1 hi;have h1:=hf _ (List.getElem_mem (l:=frmsN now ns) (n:=k) (by rw [frmsN_len];exact hk));rw [frmsN_at hk] at h1;simp [frmN] at h1
 | some f=>
  right;have h1:=List.mem_of_find?_eq_some hf;have h2:=List.find?_some hf;simp only [decide_eq_true_eq] at h2;obtain ⟨k,hk,rfl⟩:=List.mem_iff_getElem.1 h1;rw [frmsN_len] at hk;rw [frmsN_at hk] at h2⊢;have e:ns[k]=i:=by unfold frmN at h2;simp only at h2;omega
  exact ⟨_,rfl,e▸List.getElem_mem hk,by unfold frmN;simp only;rw [e]⟩
theorem frms_dis {ns:List Nat} (h:ns.Pairwise (· < ·)):(frmsN now ns).Pairwise fun a b=>a.page≠b.page:=by
 rw [List.pairwise_iff_getElem];intro i j hi hj hij;rw [frmsN_len] at hi hj;rw [frmsN_at hi,frmsN_at hj];have:=(List.pairwise_iff_getElem.1 h) i j hi hj hij;unfold frmN;simp only;omega
theorem commit_ov {fs:List Fr} {T:List UInt8} (hs:PgOk z sure) (hl:listN now sure≠[]) (ht:tgt fs z T=sure.flatten):ovB (fs++frmsN now (listN now sure)) z T=now.flatten∧EndsC (fs++frmsN now (listN now sure)):=by
 have hz:=(okSz_b hp.sz).1;have hnl:(frmsN now (listN now sure)).length=(listN now sure).length:=frmsN_len;have hp0:0<(listN now sure).length:=List.length_pos_iff.2 hl;have hn1:0<now.length:=List.length_pos_iff.2 hn;have hgs:frmsN now (listN now sure)≠[]:=List.length_pos_iff.1 (by omega);have hlast:(frN (frmsN now (listN now sure)) ((frmsN now (listN now sure)).length-1)).commit=(now.length:Int):=by
  rw [frms_com hp hn (by omega),if_pos (by omega)]
 have h0:∀j,j+1<(frmsN now (listN now sure)).length→(frN (frmsN now (listN now sure)) j).commit=0:=fun j hj=>by
  rw [frms_com hp hn (by omega),if_neg (by omega)]
 have he:EndsC (fs++frmsN now (listN now sure)):=by
  refine ⟨by simp [hgs],?_⟩;have e:frN (fs++frmsN now (listN now sure)) ((fs++frmsN now (listN now sure)).length-1)=frN (frmsN now (listN now sure)) ((frmsN now (listN now sure)).length-1):=by
   unfold frN;rw [List.length_append,List.getElem?_append_right (by omega)];congr 2;omega
  rw [e,hlast];omega
 have hmy:manyN (fs++frmsN now (listN now sure))=now.length:=by
  unfold manyN;have e2:(fs++frmsN now (listN now sure)).length=fs.length+((frmsN now (listN now sure)).length-1)+1:=by rw [List.length_append];omega
  have e:frN (fs++frmsN now (listN now sure)) (fs.length+((frmsN now (listN now sure)).length-1))=frN (frmsN now (listN now sure)) ((frmsN now (listN now sure)).length-1):=by
   unfold frN;rw [List.getElem?_append_right (by omega),Nat.add_sub_cancel_left]
  rw [e2,latC_succ];unfold stepC;rw [e,hlast,if_neg (by omega)];omega
 refine ⟨?_,he⟩;have hfl:=flat_lenZ hp.len;refine ext_gd (by rw [ovB_len,hmy,hfl]) fun i hi=>?_;rw [ovB_len] at hi;rw [gd_ovB hi,gd_flat hp.len (by omega),latQ_app (m:=now.length) hgs h0 hlast hn1 (frms_dis hp hn listN_srt)];rw [hmy] at hi;have hiz:i / z<now.length:=(Nat.div_lt_iff_lt_mul (by omega)).2 hi;rw [if_pos (by omega)];rcases frms_find hp hn (ns:=listN now sure) (i:=i / z) with ⟨e1,e2⟩ | ⟨f,e1,e2,e3⟩
 ·rw [e1];have h1:=listN_not hiz e2;obtain ⟨h2,h3⟩:=List.getElem?_eq_some_iff.1 h1;have e4:now.getD (i / z) []=sure.getD (i / z) []:=by
   rw [List.getD_eq_getElem?_getD,List.getD_eq_getElem?_getD,h1,List.getElem?_eq_getElem hiz]
  rw [e4,←gd_flat hs.len (by omega),←ht];simp only;unfold tgt;by_cases h4:fs=[]
  ·rw [if_pos h4];subst h4;have:latQ [] (((i / z:Nat):Int)+1)=none:=rfl;rw [this]
  ·rw [if_neg h4,gd_ovB];have h5:=congrArg List.length ht;unfold tgt at h5;rw [if_neg h4,ovB_len,flat_lenZ hs.len] at h5;rw [h5];have h6:=(Nat.div_lt_iff_lt_mul (show 0<z by omega)).1 h2;exact h6
 ·rw [e1];simp only;rw [e3]
end
end Go.Proofs.YtpeaicddbnghfaaGreat
