/- The store in plain terms: the document's states, and a map of pages laid over others. Conditions: those that each fact names. The disk in memory: its box, its map, its files' boxes and changes as one item that turns; all bytes as one that is read. Conditions: those that each fact names. The disk's changes: long, done, kept, what is wrong with a call. Conditions: the bytes are readable, few. What is wrong with a call to a disk. Conditions: the disk's box is known, the numbers are readable. A disk's power, what is there, a change that is done, what is made safe. Conditions: the disk is in order, its changes few. A disk's calls: Write, Truncate, Remove, Sync, Size, Dark, Changes, Cut, New. Conditions: the disk is in order, its changes few. A disk's calls: Read, Size, Dark, Changes, Cut, New, and the calls to no disk. Conditions: the disk is in order. slices.Index, slices.Clone, bytes.Clone and slices.Delete over the types that the cache uses. Conditions: lengths below a bound. The order of a cache: forget and touch. Conditions: lengths below a bound. A cache in memory, and the method drop. Conditions: the cache is well laid. cache.New and the method Get. Conditions: the cache is well laid. The method Clean of a cache. Conditions: the cache is well laid, lengths below a bound. The pager that logs ahead, in memory: its box, its maps, its cache and its disk as one item that turns; what is told of its cache alone. Conditions: those that each fact names. Calls through an interface, interface values, and closures, in few words. Conditions: those that each fact names. A store in memory: its box, its map of pages, its savepoints, and a pager of whatever make, as one item that is told by the document's state. Conditions: those that each fact names. Cells are put into pages of slots, one behind the other. Conditions: there is room. A cell is put behind the others of a page of slots, in plain terms. Conditions: there is room. Pages of slots are made, and a cell is put behind the others. Conditions: there is room. Bytes are a sound page of slots or not; its cells. Conditions: not too many bytes. The page of bytes; its bytes, its cells. Conditions: the page is sound. The page of bytes, if they are sound. Conditions: not too many bytes. Numbers in groups of seven bits are laid and read. Conditions: the bytes are readable. -/
import Derived.Test.YtfegfklipbnhjaaGreatPkZ3
set_option maxRecDepth 100000
set_option maxHeartbeats 2000000
set_option linter.all false
namespace Go.Proofs.YtfegfklipbnhjaaGreat
open Go Go.HL
section
variable {no z:Nat} {x b:List UInt8} {l:List (List UInt8)}
structure St where
 z:Nat
 sure:List (List UInt8)
 in_:Bool
 now:List (List UInt8)
 saves:List (List (List UInt8))
def Hd.enc (H:Hd):List UInt8:=hdB [H.size.toNat,H.pages.toNat,H.free.toNat,H.many.toNat,H.cookie.toNat,H.version.toNat]
def wth (l:List (List UInt8)) (no:Nat) (b:List UInt8):List (List UInt8):=if l.length<no then l++[b] else l.set (no-1) b
def pg1 (z:Nat) (H:Hd):List UInt8:=H.enc++List.replicate (z-64) 0
namespace St
variable (w:St)
def pgs:List (List UInt8):=if w.in_=true then w.now else w.sure
def head:Hd:=if w.pgs=[] then hd0 else { (decN (w.pgs.headD [])).1 with size:=(w.z:Int),pages:=(w.pgs.length:Int) }
def begin_:St × Nat:=if w.in_=true then (w,10) else ({ w with in_:=true,now:=w.sure,saves:=[] },0)
def commit:St × Nat:=if w.in_=false then (w,10) else (⟨w.z,w.now,false,[],[]⟩,0)
def setHead (H:Hd):St × Nat:=if w.in_=false then (w,10) else if ¬ChkP H\/H.size≠(w.z:Int)\/(max 1 (w.now.length:Int))<H.pages then (w,1) else ({ w with now:=(wth w.now 1 (pg1 w.z H)).take H.pages.toNat },0)
def read (no:Int):List UInt8 × Nat:=if no<1\/(w.pgs.length:Int)<no then ([],1) else (w.pgs.getD (no-1).toNat [],0)
def write (no:Int) (b:List UInt8):St × Nat:=
 if w.in_=false then (w,10) else if no<2\/(w.now.length:Int)+1<no\/w.now=[]\/b.length≠w.z then (w,1) else if 1048576<no\/16777216<no*(w.z:Int) then (w,5) else ({ w with now:=wth w.now no.toNat b },0)
end St
def hok (b:List UInt8) (z:Nat):Prop:=(decN b).2=0/\(decN b).1.size=(z:Int)
structure PgsK (z:Nat) (l:List (List UInt8)):Prop where
 len:∀b∈l,b.length=z
 hd:l≠[]->hok (l.headD []) z
 many:l.length*z<=16777216
structure StOk (w:St):Prop where
 z:okSz w.z=true
 sure:PgsK w.z w.sure
 now:PgsK w.z w.now
 saves:∀l∈w.saves,PgsK w.z l
 few:w.saves.length<=16
 out:w.in_=false->w.now=[]/\w.saves=[]
theorem hdB_l6 {a b c d e f:Nat} : (hdB [a,b,c,d,e,f]).length=64:=by
 unfold hdB hdT hdF;simp [fixedN_len]
theorem enc_len {H:Hd} : H.enc.length=64:=hdB_l6
theorem okSz_c {n:Nat} (h:okSz n=true):n=256\/n=512\/n=1024\/n=2048\/n=4096:=by simpa [okSz,or_assoc] using h
theorem pg1_len {H:Hd} (hz:okSz z=true):(pg1 z H).length=z:=by
 have:=okSz_c hz;unfold pg1;rw [qA,enc_len,kW];omega
theorem PgsK.nil : PgsK z []:=⟨by simp,by simp,by simp⟩
theorem hdAt_enc {N:List Nat} {k:Nat} (hk:k<N.length) (hN:N.length=6) (hb:N[k]<4294967296):hdAt (hdB N++x) k=N[k]:=by
 have e:hdB N++x=(signL++hdF (N.take k))++(fixedN N[k] 4++(hdF (N.drop (k+1))++(List.replicate 20 0++fixedN (sumN (hdT N)) 4++x))):=by
  have h1:hdF N=hdF (N.take k)++(fixedN N[k] 4++hdF (N.drop (k+1))):=by
   have h2:N=N.take k++N[k]::N.drop (k+1):=by rw [<-qF hk,qT]
   have h3:hdF N=hdF (N.take k++N[k]::N.drop (k+1)):=congrArg hdF h2;rw [h3];unfold hdF;rw [kJ,List.flatten_append,kE,List.flatten_cons]
  unfold hdB;rw [show hdT N=signL++hdF N++List.replicate 20 0 from rfl,h1];simp only [qZ]
 have hl:(signL++hdF (N.take k)).length=16+4*k:=by
  have h1:∀(M:List Nat),(hdF M).length=4*M.length:=fun M=>by
   unfold hdF;induction M with
   | nil=>rfl
   | cons a M ih=>rw [kE,List.flatten_cons,qA,fixedN_len,ih,qV];omega
  rw [qA,h1,qJ];simp;omega
 unfold hdAt;rw [e,<-hl,rdN_app (fixedN_len _ _),beN_fixed (by simpa using hb)]
theorem dec_encN {n0 n1 n2 n3 n4 n5:Nat} (h0:n0<4294967296) (h1:n1<4294967296) (h2:n2<4294967296) (h3:n3<4294967296) (h4:n4<4294967296) (h5:n5<4294967296) (hc:ChkP ⟨(n0:Int),(n1:Int),(n2:Int),(n3:Int),(n4:Int),(n5:Int)⟩):decN (hdB [n0,n1,n2,n3,n4,n5]++x)=(⟨(n0:Int),(n1:Int),(n2:Int),(n3:Int),(n4:Int),(n5:Int)⟩,0):=by
 have a0:=hdAt_enc (N:=[n0,n1,n2,n3,n4,n5]) (x:=x) (k:=0) (by simp) rfl h0;have a1:=hdAt_enc (N:=[n0,n1,n2,n3,n4,n5]) (x:=x) (k:=1) (by simp) rfl h1;have a2:=hdAt_enc (N:=[n0,n1,n2,n3,n4,n5]) (x:=x) (k:=2) (by simp) rfl h2;have a3:=hdAt_enc (N:=[n0,n1,n2,n3,n4,n5]) (x:=x) (k:=3) (by simp) rfl h3;have a4:=hdAt_enc (N:=[n0,n1,n2,n3,n4,n5]) (x:=x) (k:=4) (by simp) rfl h4;have a5:=hdAt_enc (N:=[n0,n1,n2,n3,n4,n5]) (x:=x) (k:=5) (by simp) rfl h5;simp only [List.getElem_cons_zero,List.getElem_cons_succ] at a0 a1 a2 a3 a4 a5;have hl:(hdB [n0,n1,n2,n3,n4,n5]).length=64:=hdB_l6;have hd:decH (hdB [n0,n1,n2,n3,n4,n5]++x)=⟨(n0:Int),(n1:Int),(n2:Int),(n3:Int),(n4:Int),(n5:Int)⟩:=by unfold decH;rw [a0,a1,a2,a3,a4,a5]
 have hs:(hdB [n0,n1,n2,n3,n4,n5]++x).take 16=signL:=by
  unfold hdB hdT;simp only [qZ];exact List.take_left' rfl
 have hy:decY (hdB [n0,n1,n2,n3,n4,n5]++x):=by
  unfold decY;rw [hd,a0,a1,a2,a3,a4,a5];exact ⟨hc,(List.take_left' hl).symm⟩
 rw [dec0 (by rw [qA];omega) hs hy,hd]
theorem dec_enc {H:Hd} (hc:ChkP H) (x:List UInt8):decN (H.enc++x)=(H,0):=by
 have h0:=okZ_cases hc.1;have h1:=hc.2.1;have h2:=hc.2.2.1;have h3:=hc.2.2.2;obtain ⟨a,b,c,d,e,f⟩:=H;simp only at h0 h1 h2 h3;obtain ⟨a,rfl⟩:∃n:Nat,a=(n:Int):=⟨a.toNat,by omega⟩;obtain ⟨b,rfl⟩:∃n:Nat,b=(n:Int):=⟨b.toNat,by omega⟩;obtain ⟨c,rfl⟩:∃n:Nat,c=(n:Int):=⟨c.toNat,by
  by_cases h:d=0
  ·have:=h2.2.2.1 h;omega
  ·have:=h2.2.2.2 (by omega);omega⟩
 obtain ⟨d,rfl⟩:∃n:Nat,d=(n:Int):=⟨d.toNat,by omega⟩;obtain ⟨e,rfl⟩:∃n:Nat,e=(n:Int):=⟨e.toNat,by omega⟩;obtain ⟨f,rfl⟩:∃n:Nat,f=(n:Int):=⟨f.toNat,by omega⟩;have hcb:c<4294967296:=by
  by_cases h:d=0
  ·have:=h2.2.2.1 (by omega);omega
  ·have:=h2.2.2.2 (by omega);omega
 have hdb:d<4294967296:=by have:=h1.2.1;have:=h2.2.1;omega
 have heb:e<4294967296:=by have:=h3.1.2;omega
 have hfb:f<4294967296:=by have:=h3.2.2;omega
 exact dec_encN (n0:=a) (n1:=b) (n2:=c) (n3:=d) (n4:=e) (n5:=f) (x:=x) (by omega) (by omega) hcb hdb heb hfb hc
theorem hok_pg1 {H:Hd} (hc:ChkP H) (hz:H.size=(z:Int)):hok (pg1 z H) z:=by
 unfold hok pg1;rw [dec_enc hc];exact ⟨rfl,hz⟩
theorem wth_len (h2:no<=l.length+1):(wth l no b).length=max l.length no:=by
 unfold wth;split
 ·simp;omega
 ·simp;omega
theorem wth_get (h1:1<=no) (h2:no<=l.length+1) (i:Nat):(wth l no b)[i]? = if i+1=no then some b else l[i]?:=by
 unfold wth;split
 ·rename_i h;rw [List.getElem?_append];split
  ·rw [if_neg (by omega)]
  ·rename_i h3;by_cases h4:i+1=no
   ·rw [if_pos h4,show i-l.length=0 by omega];rfl
   ·rw [if_neg h4,List.getElem?_eq_none (l:=l) (by omega),List.getElem?_eq_none (by simp;omega)]
 ·rw [List.getElem?_set];by_cases h4:i+1=no
  ·rw [if_pos (by omega),if_pos h4,if_pos (by omega)]
  ·rw [if_neg (by omega),if_neg h4]
theorem wth_mem (h:x∈wth l no b):x=b\/x∈l:=by
 unfold wth at h;split at h
 ·rcases qD.1 h with h | h
  ·exact .inr h
  ·exact .inl (qS.1 h)
 ·exact (List.mem_or_eq_of_mem_set h).symm
theorem headD_get (l:List (List UInt8)):l.headD []=(l[0]?).getD []:=by cases l<;>rfl
structure VW {β:Type} (f:β->List UInt8) (ov:List (Int × β)) (many:Nat) (S now:List (List UInt8)):Prop where
 len:now.length=many
 sm:∀(i:Nat) x,i<many->mget ov ((i:Int)+1)=some x->now[i]? = some (f x)
 nn:∀i:Nat,i<many->mget ov ((i:Int)+1)=none->i<S.length/\now[i]? = S[i]?
 key:∀p∈ov,1<=p.1/\p.1<=(many:Int)
section
variable {β:Type} {f:β->List UInt8} {ov:List (Int × β)} {many:Nat} {S now:List (List UInt8)}
theorem VW.begin:VW f ([]:List (Int × β)) S.length S S:=⟨rfl,fun _ _ _ h=>(by cases h),fun _ h _=>⟨h,rfl⟩,by simp⟩
theorem VW.put (v:VW f ov many S now) {x:β} (h1:1<=no) (h2:no<=many+1):VW f (mput ov (no:Int) x) (max many no) S (wth now no (f x)):=by
 have hl:=v.len;refine ⟨by rw [wth_len (by omega),hl],fun i y hi hg=>?_,fun i hi hg=>?_,fun p hp=>?_⟩
 ·rw [mget_mput] at hg;rw [wth_get h1 (by omega)];split at hg
  ·injection hg with hg;subst hg;rw [if_pos (by omega)]
  ·rename_i h3;rw [if_neg (by omega)];exact v.sm i y (by omega) hg
 ·rw [mget_mput] at hg;rw [wth_get h1 (by omega)];split at hg
  ·cases hg
  ·rename_i h3;rw [if_neg (by omega)];exact v.nn i (by omega) hg
 ·rcases mem_mput hp with rfl | hp
  ·simp only;omega
  ·have:=v.key p hp;omega
theorem mget_filt (n:Int) (k:Int):mget (ov.filter fun p=>decide (p.1<=n)) k=if k<=n then mget ov k else none:=by
 induction ov with
 | nil=>simp [mget]
 | cons p l ih=>
  rw [List.filter_cons];by_cases h:p.1<=n
  ·rw [if_pos (by simpa using h),mget_cons,mget_cons,ih];by_cases h2:p.1=k
   ·rw [if_pos h2,if_pos h2,if_pos (by omega)]
   ·rw [if_neg h2,if_neg h2]
  ·rw [if_neg (by simpa using h),ih,mget_cons];by_cases h3:k<=n
   ·rw [if_pos h3,if_pos h3,if_neg (by omega)]
   ·rw [if_neg h3,if_neg h3]
theorem VW.cut (v:VW f ov many S now) {n:Nat} (hn:n<=many):VW f (ov.filter fun p=>decide (p.1<=(n:Int))) n S (now.take n):=by
 have hl:=v.len;refine ⟨by rw [qJ];omega,fun i y hi hg=>?_,fun i hi hg=>?_,fun p hp=>?_⟩
 ·rw [mget_filt,if_pos (by omega)] at hg;rw [List.getElem?_take_of_lt hi];exact v.sm i y (by omega) hg
 ·rw [mget_filt,if_pos (by omega)] at hg;rw [List.getElem?_take_of_lt hi];exact v.nn i (by omega) hg
 ·have:=List.mem_filter.1 hp;have h2:=v.key p this.1;have h3:p.1<=(n:Int):=by simpa using this.2
  exact ⟨h2.1,h3⟩
end
theorem PgsK.wth {z no:Nat} {l:List (List UInt8)} {b:List UInt8} (p:PgsK z l) (hb:b.length=z) (h1:1<=no) (h2:no<=l.length+1) (hm:no*z<=16777216) (hh:no=1\/l=[]->hok b z):PgsK z (wth l no b):=by
 refine ⟨fun x hx=>(wth_mem hx).elim (fun e=>e▸hb) (p.len x),fun _=>?_,?_⟩
 ·rw [headD_get,wth_get h1 h2];by_cases h3:0+1=no
  ·rw [if_pos h3];exact hh (.inl h3.symm)
  ·rw [if_neg h3];have:l≠[]:=fun e=>by subst e;simp at h2;omega
   rw [<-headD_get];exact p.hd this
 ·rw [wth_len h2];have:=p.many;rcases Nat.le_total l.length no with h | h
  ·rw [Nat.max_eq_right h];exact hm
  ·rw [Nat.max_eq_left h];exact this
theorem PgsK.take {z:Nat} {l:List (List UInt8)} (p:PgsK z l) (n:Nat):PgsK z (l.take n):=by
 refine ⟨fun x hx=>p.len x (qC hx),fun h=>?_,kN (qE _ (by rw [qJ];omega)) p.many⟩;cases n with
 | zero=>simp at h
 | succ n=>
  cases l with
  | nil=>simp at h
  | cons a l=>exact p.hd (by simp)
end
open Go Go.HL
structure RC where
 kind:Nat
 pos:Nat
 ba:Option Addr
 bc:Nat
 bl:List UInt8
def RC.abs (c:RC):Chn:=⟨c.kind,c.pos,c.bl⟩
def RC.cells (c:RC):List Value:=[.J (c.kind:Int),.J (c.pos:Int),.slice c.ba c.bl.length c.bc]
theorem RC.cells_len (c:RC):c.cells.length=3:=rfl
structure RF where
 blk:Nat
 na:Option Addr
 nc:Nat
 nl:List UInt8
 sa:Option Addr
 sc:Nat
 sl:List UInt8
 here:Bool
 was:Bool
 oa:Option Addr
 oc:Nat
 ol:List RC
def RF.abs (f:RF):Fl:=⟨f.nl,f.sl,f.here,f.was,f.ol.map RC.abs⟩
@[reducible] def fboxI (f:RF):Itm:=boxI f.blk 272 [.slice f.na f.nl.length f.nc,.slice f.sa f.sl.length f.sc,.bool f.here,.bool f.was,.slice f.oa f.ol.length f.oc]
@[reducible] def fopnI (f:RF):Itm:=capI 3 370 (f.oa,f.ol.length,f.oc) (f.ol.flatMap RC.cells)
def fileI (f:RF):List Itm:=[fboxI f,fopnI f]
abbrev Fs:=List (List UInt8 × RF)
def flsI (fs:Fs):Itm:=starI (fs.flatMap fun p=>fileI p.2)
def ptrF (f:RF):Value:=.pointer (some ⟨f.blk,0,none⟩)
def ents (fs:Fs):List (List UInt8 × Value):=fs.map fun p=>(p.1,ptrF p.2)
def bget (fs:Fs) (n:List UInt8):Option RF:=(fs.find? fun p=>p.1=n).map (·.2)
def bput:Fs->List UInt8->RF->Fs
 | [],n,f=>[(n,f)]
 | p::l,n,f=>if p.1=n then (n,f)::l else p::bput l n f
def bdel (fs:Fs) (n:List UInt8):Fs:=fs.filter fun p=>decide (p.1≠n)
structure RD where
 m:Nat
 fs:Fs
 dark:Bool
 left:Int
 chg:Int
def RD.abs (r:RD):Dk:=⟨fun n=>(bget r.fs n).map RF.abs,r.dark,r.left,r.chg⟩
@[reducible] def dboxI (d:Nat) (r:RD):Itm:=boxI d 175 [.map (some r.m),.bool r.dark,.J r.left,.J r.chg]
def dskI (d:Nat) (r:RD):Itm:=starI (dboxI d r::mapI kvB r.m (ents r.fs)::r.fs.flatMap fun p=>fileI p.2)
section
variable {fs:Fs} {n m:List UInt8} {f g:RF}
theorem bget_mem:∀ {fs:Fs},bget fs n=some f->(n,f)∈fs
 | [],h=>by simp [bget] at h
 | p::l,h=>by
  by_cases hp:p.1=n
  ·subst hp;simp [bget] at h;subst h;exact qX
  ·exact qQ _ (bget_mem (fs:=l) (by simpa [bget,hp] using h))
theorem bget_cons (p:List UInt8 × RF) (l:Fs) (n:List UInt8):bget (p::l) n=if p.1=n then some p.2 else bget l n:=by
 by_cases h:p.1=n<;>simp [bget,h]
theorem bput_cons (p:List UInt8 × RF) (l:Fs) (n:List UInt8) (f:RF):bput (p::l) n f=if p.1=n then (n,f)::l else p::bput l n f:=rfl
theorem bget_put:bget (bput fs n f) m=if m=n then some f else bget fs m:=by
 induction fs with
 | nil=>by_cases h:n=m<;>simp [bput,bget,h,eq_comm]
 | cons p l ih=>
  rw [bput_cons];split
  ·rename_i h;rw [bget_cons,bget_cons];by_cases h2:n=m
   ·subst h2;simp
   ·rw [if_neg h2,if_neg (by intro e;exact h2 e.symm),if_neg (by rw [h];exact h2)]
  ·rename_i h;rw [bget_cons,bget_cons,ih];by_cases h2:p.1=m
   ·rw [if_pos h2,if_pos h2,if_neg (by intro e;exact h (h2.trans e))]
   ·rw [if_neg h2,if_neg h2]
theorem bget_none_iff:bget fs n=none↔∀p∈fs,p.1≠n:=by
 induction fs with
 | nil=>simp [bget]
 | cons p l ih=>
  rw [bget_cons];by_cases h:p.1=n
  ·simp [h]
  ·simp [h,ih]
theorem bdel_none (h:bget fs n=none):bdel fs n=fs:=by
 unfold bdel;rw [List.filter_eq_self];intro p hp;simpa using bget_none_iff.1 h p hp
theorem perm_get (hn:(fs.map (·.1)).Nodup) (h:bget fs n=some f):fs.Perm ((n,f)::bdel fs n):=by
 induction fs with
 | nil=>simp [bget] at h
 | cons p l ih=>
  have h1:=List.nodup_cons.1 hn;rw [bget_cons] at h;by_cases hp:p.1=n
  ·rw [if_pos hp] at h;injection h with h;have e:bdel (p::l) n=l:=by
    have:bget l n=none:=bget_none_iff.2 fun q hq e=>h1.1 (kS.2 ⟨q,hq,e.trans hp.symm⟩);have h2:=bdel_none this;unfold bdel at h2⊢;rw [List.filter_cons];simp [hp];simpa using h2
   rw [e,<-h,<-hp]
  ·rw [if_neg hp] at h;have e:bdel (p::l) n=p::bdel l n:=by unfold bdel;rw [List.filter_cons];simp [hp]
   rw [e];exact ((ih h1.2 h).cons p).trans (.swap _ _ _)
theorem bdel_put:bdel (bput fs n f) n=bdel fs n:=by
 induction fs with
 | nil=>simp [bput,bdel]
 | cons p l ih=>
  rw [bput_cons];split
  ·rename_i h;simp [bdel,h]
  ·rename_i h;unfold bdel at ih⊢;rw [List.filter_cons,List.filter_cons,ih]
theorem keys_put (f:RF) (h:bget fs n=some g):(bput fs n f).map (·.1)=fs.map (·.1):=by
 induction fs with
 | nil=>simp [bget] at h
 | cons p l ih=>
  rw [bput_cons];split
  ·rename_i hp;simp [hp]
  ·rename_i hp;rw [bget_cons,if_neg hp] at h;simp [ih h]
theorem bput_none (h:bget fs n=none):bput fs n f=fs++[(n,f)]:=by
 induction fs with
 | nil=>rfl
 | cons p l ih=>
  rw [bget_cons] at h;split at h
  ·cases h
  ·rename_i hp;rw [bput_cons,if_neg hp,ih h];rfl
theorem nodup_put (hn:(fs.map (·.1)).Nodup):((bput fs n f).map (·.1)).Nodup:=by
 cases h:bget fs n with
 | some g=>rw [keys_put f h];exact hn
 | none=>
  rw [bput_none h,kJ];refine kT.2 ⟨hn,by simp,fun a ha b hb=>?_⟩;obtain ⟨p,hp,rfl⟩:=kS.1 ha;simp at hb;subst hb;exact bget_none_iff.1 h p hp
theorem perm_put (hn:(fs.map (·.1)).Nodup):(bput fs n f).Perm ((n,f)::bdel fs n):=by
 have h:=perm_get (fs:=bput fs n f) (n:=n) (f:=f) (nodup_put hn) (by rw [bget_put,if_pos rfl]);rwa [bdel_put] at h
theorem ents_keys:(ents fs).map (·.1)=fs.map (·.1):=by simp [ents,Function.comp_def]
theorem ents_get:aget (ents fs) n=(bget fs n).map ptrF:=by
 induction fs with
 | nil=>rfl
 | cons p l ih=>
  rw [bget_cons];by_cases h:p.1=n
  ·simp [ents,aget,h]
  ·simpa [ents,aget,h] using ih
theorem ents_put:aput (ents fs) n (ptrF f)=ents (bput fs n f):=by
 induction fs with
 | nil=>rfl
 | cons p l ih=>
  rw [bput_cons];by_cases h:p.1=n
  ·simp [ents,aput,h]
  ·simpa [ents,aput,h] using ih
theorem ents_same (h:bget fs n=some g) (hb:f.blk=g.blk):ents (bput fs n f)=ents fs:=by
 induction fs with
 | nil=>simp [bget] at h
 | cons p l ih=>
  rw [bput_cons];rw [bget_cons] at h;by_cases hp:p.1=n
  ·rw [if_pos hp] at h⊢;injection h with h;subst h;simp [ents,hp,ptrF,hb]
  ·rw [if_neg hp] at h⊢;simpa [ents] using ih h
end
end Go.Proofs.YtfegfklipbnhjaaGreat
namespace Go.HL
open Go Go.Proofs.YtfegfklipbnhjaaGreat
section
variable {h0 h h':Heap} {D G:Nat->Prop} {M R:List Itm} {d:Nat} {r r':RD} {fs:Fs} {n:List UInt8} {f:RF} {E E':Nat->Prop}
theorem Hp.dopn (ok:Hp h0 D (dskI d r::M) R h):Hp h0 D (dboxI d r::mapI kvB r.m (ents r.fs)::flsI r.fs::M) R h:=Hp.star2 ok
theorem Hp.dcls (ok:Hp h0 D (dboxI d r::mapI kvB r.m (ents r.fs)::flsI r.fs::M) R h):Hp h0 D (dskI d r::M) R h:=Hp.unstar2 ok
theorem Hp.fopn (hn:(fs.map (·.1)).Nodup) (hg:bget fs n=some f) (ok:Hp h0 D (flsI fs::M) R h):Hp h0 D (fboxI f::fopnI f::flsI (bdel fs n)::M) R h:=
 Hp.star2 (Hp.starP (l':=((n,f)::bdel fs n).flatMap fun p:List UInt8 × RF=>fileI p.2) ok ((perm_get hn hg).flatMap_right _).symm)
theorem Hp.fcls (hn:(fs.map (·.1)).Nodup) (ok:Hp h0 D (fboxI f::fopnI f::flsI (bdel fs n)::M) R h):Hp h0 D (flsI (bput fs n f)::M) R h:=
 Hp.starP (l':=(bput fs n f).flatMap fun p:List UInt8 × RF=>fileI p.2) (Hp.unstar2 ok) ((perm_put hn).flatMap_right _)
structure ByF (h:Heap) (E:Nat->Prop) (f:RF):Prop where
 now:RdL h E E (f.na,f.nl.length,f.nc) f.nl
 safe:RdL h E E (f.sa,f.sl.length,f.sc) f.sl
 opn:∀c∈f.ol,RdL h E E (c.ba,c.bl.length,c.bc) c.bl
theorem ByF.st (c:Chg G h h') (hE:∀j,E j->¬G j) (b:ByF h E f):ByF h' E f:=⟨b.now.st c hE hE,b.safe.st c hE hE,fun x hx=>(b.opn x hx).st c hE hE⟩
theorem ByF.mono (hE:∀j,E j->E' j) (b:ByF h E f):ByF h E' f:=⟨b.now.mono hE hE,b.safe.mono hE hE,fun x hx=>(b.opn x hx).mono hE hE⟩
def Bys (h:Heap) (E:Nat->Prop) (fs:Fs):Prop:=∀p∈fs,ByF h E p.2
@[reducible] def bysI (E:Nat->Prop) (fs:Fs):Itm:=⟨fun h=>Bys h E fs,E,fun _ _ _ c d b p hp=>(b p hp).st c d⟩
theorem Bys.get (b:Bys h E fs) (hg:bget fs n=some f):ByF h E f:=b _ (bget_mem hg)
theorem Bys.mono (hE:∀j,E j->E' j) (b:Bys h E fs):Bys h E' fs:=fun p hp=>(b p hp).mono hE
theorem mem_bput {fs:Fs} {n:List UInt8} {f:RF} {p:List UInt8 × RF} (h:p∈bput fs n f):p=(n,f)\/p∈fs:=by
 induction fs with
 | nil=>simp [bput] at h;exact .inl h
 | cons q l ih=>
  rw [bput_cons] at h;split at h
  ·rcases qK.1 h with h | h
   ·exact .inl h
   ·exact .inr (qQ _ h)
  ·rcases qK.1 h with h | h
   ·exact .inr (by rw [h];exact qX)
   ·exact (ih h).imp id (qQ _)
theorem Bys.put (b:Bys h E fs) (hf:ByF h E f):Bys h E (bput fs n f):=fun p hp=>by
 rcases mem_bput hp with rfl | hp
 ·exact hf
 ·exact b p hp
structure DUp (h h':Heap) (d:Nat) (r r':RD) (E E':Nat->Prop):Prop where
 hp:Hp h (dskI d r).F [dskI d r'] [bysI E' r'.fs] h'
 new:∀j,E' j->E j\/h.size<=j
theorem Hp.loc1 {a b:Itm} (ok:Hp h0 D (a::M) (b::R) h):Hp h a.F [a] [b] h:=
 ⟨Chg.refl _ _,fun i hi=>by
  rw [qS.1 hi];exact ⟨ok.m0,fun j hj=>⟨((ok.m a qX).2 j hj).1,.inl hj⟩⟩,fun i hi=>by
  rw [qS.1 hi];exact ok.r b qX,List.pairwise_singleton _ _,fun x hx y hy=>by
  rw [qS.1 hx,qS.1 hy];exact ok.mr a qX b qX⟩
theorem Hp.dsk (ok:Hp h0 D (dskI d r::M) (bysI E r.fs::R) h) (q:DUp h h' d r r' E E'):Hp h0 D (dskI d r'::M) (bysI E' r'.fs::R) h':=by
 have o:=ok.upd q.hp.chg (fun _ x=>x) (dskI d r') q.hp.m0 fun j hj=>by
  have h1:=(q.hp.m _ qX).2 j hj;exact h1.2.imp id fun h=>⟨h,h1.1⟩
 refine ⟨o.chg,o.m,fun i hi=>?_,o.mm,fun x hx y hy j hj hj2=>?_⟩
 ·rcases qK.1 hi with rfl | hi
  ·exact q.hp.r _ qX
  ·exact o.r i (qQ _ hi)
 ·rcases qK.1 hy with rfl | hy
  ·rcases qK.1 hx with rfl | hx
   ·exact q.hp.mr _ qX _ qX j hj hj2
   ·rcases q.new j hj2 with h1 | h1
    ·exact ok.mr x (qQ _ hx) _ qX j hj h1
    ·have:=((ok.m x (qQ _ hx)).2 j hj).1;omega
  ·exact o.mr x hx y (qQ _ hy) j hj hj2
theorem Hp.up {R':List Itm} (q:Hp h (dskI d r).F [dskI d r'] (bysI E' r'.fs::R') h') (hE:∀j,E' j->E j\/h.size<=j):DUp h h' d r r' E E':=⟨q.sub (by simp),hE⟩
theorem Hp.lift1 {a b:Itm} (ok:Hp h0 D (a::M) R h) (q:Hp h a.F [b] [] h'):Hp h0 D (b::M) R h':=
 ok.upd q.chg (fun _ x=>x) b q.m0 fun j hj=>by
  have h1:=(q.m _ qX).2 j hj;exact h1.2.imp id fun h=>⟨h,h1.1⟩
theorem Hp.loc0 {a:Itm} (ok:Hp h0 D (a::M) R h):Hp h a.F [a] [] h:=
 ⟨Chg.refl _ _,fun i hi=>by
  rw [qS.1 hi];exact ⟨ok.m0,fun j hj=>⟨((ok.m a qX).2 j hj).1,.inl hj⟩⟩,by simp,List.pairwise_singleton _ _,by simp⟩
end
end Go.HL
namespace Go.Proofs.YtfegfklipbnhjaaGreat
open Go Go.HL
section
variable {l bl:List UInt8} {pos c:Nat} {h:Heap} {a:Option Addr} {here:Bool}
theorem long_cut {h0:Heap} {D:Nat->Prop} {M R:List Itm} {e:TypeId} {n:Nat} (ok:Hp h0 D (capI 1 e (a,l.length,c) (l.map bv)::M) R h) (hn:n<=l.length):Hp h0 D (capI 1 e (a,(longN l n).length,n) ((longN l n).map bv)::M) R h:=by
 have h1:=Cap.clip (Cap.pre ok.m0 hn);rw [Nat.mul_one,<-List.map_take,<-longN_le hn] at h1;refine ok.re _ (by simp only [longN_len];exact h1) fun j hj=>?_;obtain ⟨o,n',c',hv⟩:=hj;injection hv with h1 h2 h3;exact ⟨o,_,_,by rw [<-h1]⟩
theorem long_any {n:Nat} (ok:Hp h (blkC (sv (a,l.length,c))) [capI 1 5 (a,l.length,c) (l.map bv)] [] h) (hN:l.length<=100000000) (hn:n<=100000000) :
  Hc 296 #[.slice a l.length c,.J (n:Int)] h (fun v h'=>∃a' c',v=.slice a' (longN l n).length c'/\Hp h (blkC (sv (a,l.length,c))) [capI 1 5 (a',(longN l n).length,c') ((longN l n).map bv)] [] h'):=by
 have hle:l.length<=c:=Cap.le ok.m0;refine HC.go Tryz.func296 19 ?_;refine .s<|.z .asS<|.nil<|.seq<|.s<|.z .mvI<|.z .mvS<|.z (.len T.el35)<|.z .leq<|.nil<|.cd (fun C0=>?_) (fun C0=>?_)
 ·
  refine .s<|.z .mvS<|.z .mvI<|.z .mvI<|.z (.slhm n n T.el35 T.sz5)<|.z .asS<|.nil<|.ret ⟨.slice a n n,Res.one rfl rfl,⟨a,n,by rw [longN_len],long_cut ok (by omega)⟩⟩
 refine .skip<|.s<|.z .mvS<|.z .mvI<|.z .mvS<|.z (.len T.el35)<|.z .sub<|.a' 18 (.apz (z:=((n:Int)-(l.length:Int))) (n-l.length) T.el35 T.in3 T.sz5 T.by5 T.zr5 ok (by omega) (by omega)) ?_;rintro _ U1 ⟨ya1,yc1,rfl,ok⟩;refine .z .asS<|.nil<|.ret ⟨.slice ya1 ((l++List.replicate (n-l.length) 0).length) yc1,Res.one rfl rfl,⟨_,_,by rw [longN_ge (by omega)],by rw [longN_ge (by omega)];exact ok⟩⟩
theorem done0 : doneN ⟨0,pos,bl⟩ l here=(patchN (longN l (max l.length (pos+bl.length))) pos bl,true):=by simp [doneN]
theorem done1 : doneN ⟨1,pos,bl⟩ l true=(longN l pos,true):=by simp [doneN]
theorem done2 {kind:Nat} (h1:kind≠0) (h2:kind=1->here=false):doneN ⟨kind,pos,bl⟩ l here=([],false):=by
 unfold doneN;rw [if_neg h1,if_neg];rintro ⟨h3,h4⟩;simp only at h3;rw [h2 h3] at h4;cases h4
theorem spl_patch {o b:List UInt8} {p:Nat} : spl (o.map bv) (p*1) (b.map bv)=(patchN o p b).map bv:=by simp [spl,patchN]
theorem done_any {F E F2 E2:Nat->Prop} {kind:Nat} {ba:Option Addr} {bc:Nat} (hb:RdL h F2 E2 (ba,bl.length,bc) bl) (hl:RdL h F E (a,l.length,c) l) (hp:pos+bl.length<=16777216) (hL:l.length<=16777216) :
  Hc 291 #[.agg #[.J (kind:Int),.J (pos:Int),.slice ba bl.length bc],.slice a l.length c,.bool here] h (fun v h'=>∃w,v=.tuple #[w,.bool (doneN ⟨kind,pos,bl⟩ l here).2]/\Own h h' 1 5 w ((doneN ⟨kind,pos,bl⟩ l here).1.map bv)):=by
 have ok:=((Hp.nil h none_).arg hb).arg hl;refine HC.go Tryz.func291 45 ?_;refine .s<|.a' 3 (.bxA (cs:=[.J (kind:Int),.J (pos:Int),.slice ba bl.length bc]) ok) ?_;rintro _ U1 ⟨pb1,rfl,ok,xe⟩;refine .z .asS<|.z .asB<|.nil<|.seq<|.block fun K0 hK0=>.s<|.z (.fa T.fd370_0)<|.z (.ldx T.ag3 ok.m0)<|.z .eql<|.z .asB<|.nil<|.cd (fun C0=>?_) (fun C0=>?_)
 ·
  refine .seq<|.a 13 (fun fl hh=>Hp h none_ [boxI pb1 370 [.J (kind:Int),.J (pos:Int),.slice ba bl.length bc]] [rdI (nS h F) (nS h E) (a,l.length,c) l,rdI (nS h F2) (nS h E2) (ba,bl.length,bc) bl] hh) mixed ?_;have hS:=ok;refine .g 0 false rfl 13 hS (fun _=>.mvS)<|.g 2 false rfl 15 hS (fun _=>.mvS)<|.g 3 false rfl 16 hS (fun _=>.len T.el35)<|.g 4 false rfl 17 hS (fun _=>.fa T.fd370_1)<|.lw 5 false rfl 18 hS (fun _ _ hS=>.ldx T.ag3 hS.m0)<|.g 6 false rfl 19 hS (fun _=>.fa T.fd370_2)<|.lw 7 false rfl 20 hS (fun _ _ hS=>.ldx T.ag35 hS.m0)<|.g 8 false rfl 21 hS (fun _=>.len T.el35)<|.g 9 false rfl 22 hS (fun _=>.addI)<|.g 10 false rfl 23 hS (fun _=>.maxn)<|.o1 1<|.c' false rfl 14 .func (bclone_any (a:=a) (c:=c) (l:=l) ok.r0 (by omega)) ?_;rintro _ U2 own;obtain ⟨ya1,yc1,rfl⟩:=own.formB;have ok:=ok.own own;refine ⟨ok.n1.k1,?_⟩;have hS:=ok.n1.k1;refine .o1 11<|.c' false rfl 24 .func (long_any (n:=(max l.length (pos+bl.length))) (ok).loc0 (by omega) (by omega)) ?_;rintro _ U3 ⟨ya2,yc2,rfl,q⟩;have ok:=(ok).lift1 q;refine ⟨ok.n1.k1,?_⟩;have hS:=ok.n1.k1;refine .g 12 false rfl 8 hS (fun _=>.asS)<|.e ?_;refine .seq<|.t 6 mixed ?_;simp only [kZ,kM,kH,kY];refine .z .mvS<|.z (.fa T.fd370_1)<|.z (.ldx T.ag3 ok.m1)<|.z (.sll pos T.el35 T.sz5 (hb:=by rw [longN_len];omega))<|.z (.fa T.fd370_2)<|.z (.ldx T.ag35 ok.m1)<|.nil ?_;refine .a' 31 (.cpyA (n:=(longN l (max l.length (pos+bl.length))).length) (ys:=bl.map bv) (m:=bl.length) pos T.el35 T.sz5 ok ok.r1.by bv_all rfl (him:=by rw [longN_len];omega)) ?_;rintro _ U4 ⟨rfl,ok,cg⟩;refine .nil ?_;refine .s<|.z .mvS<|.z .asS<|.z .asB<|.nil<|.ret ⟨.tuple #[.slice ya2 ((longN l (max l.length (pos+bl.length))).length) yc2,.bool true],Res.two rfl rfl rfl,⟨_,by rw [show kind=0 from by omega,done0],by rw [show kind=0 from by omega,done0];have ok:=(ok).cx spl_patch;exact ok.toOwn⟩⟩
 refine .s<|.z (.fa T.fd370_0)<|.z (.ldx T.ag3 ok.m0)<|.z .eql<|.z .mvB<|.sd (fun G37=>?_) (fun G37=>?_)
 ·
  refine .z .mvB<|.z .pkt<|.z .asB<|.nil<|.cond (fun C1=>?_) (fun C1=>?_)
  ·
   refine .seq<|.a 4 (fun fl hh=>cond fl True (Hp h none_ [boxI pb1 370 [.J (kind:Int),.J (pos:Int),.slice ba bl.length bc]] [rdI (nS h F) (nS h E) (a,l.length,c) l,rdI (nS h F2) (nS h E2) (ba,bl.length,bc) bl] hh)) mixed ?_;have hS:=ok;refine .g 0 false rfl 40 hS (fun _=>.mvS)<|.g 2 false rfl 42 hS (fun _=>.fa T.fd370_1)<|.l 3 false rfl 43 hS (fun _ hS=>.ldx T.ag3 hS.m0)<|.o1 1<|.c' false rfl 41 .func (bclone_any (a:=a) (c:=c) (l:=l) ok.r0 (by omega)) ?_;rintro _ U5 own;obtain ⟨ya3,yc3,rfl⟩:=own.formB;have ok:=ok.own own;refine ⟨ok.n1.k1,?_⟩;have hS:=ok.n1.k1;refine .o1 4<|.c' true rfl 44 .func (long_any (n:=pos) (ok).loc0 (by omega) (by omega)) ?_;rintro _ U6 ⟨ya4,yc4,rfl,q⟩;have ok:=(ok).lift1 q;refine ⟨trivial,?_⟩;refine .g 5 true rfl 6 trivial (fun _=>.asS)<|.g 6 true rfl 7 trivial (fun _=>.asB)<|.e ?_;refine .ret ⟨.tuple #[.slice ya4 ((longN l pos).length) yc4,.bool true],Res.two rfl rfl rfl,⟨_,by rw [show kind=1 from by omega,C1,done1],by rw [show kind=1 from by omega,C1,done1];exact (ok).toOwn⟩⟩
  refine .skip<|.end<|hK0 _ _<|.s<|.z .asS<|.z .asB<|.nil<|.ret ⟨.tuple #[.N,.bool false],Res.two rfl rfl rfl,⟨_,by rw [done2 (by omega) (by intro h1;first | exact absurd h1 (by omega) | simpa using C1)],by rw [done2 (by omega) (by intro h1;first | exact absurd h1 (by omega) | simpa using C1)];exact ok.tM.nilC.toOwn⟩⟩
 refine .y<|.z .pkf<|.z .asB<|.nil<|.cf<|.skip<|.end<|hK0 _ _<|.s<|.z .asS<|.z .asB<|.nil<|.ret ⟨.tuple #[.N,.bool false],Res.two rfl rfl rfl,⟨_,by rw [done2 (by omega) (by intro h1;first | exact absurd h1 (by omega) | simpa using C1)],by rw [done2 (by omega) (by intro h1;first | exact absurd h1 (by omega) | simpa using C1)];exact ok.tM.nilC.toOwn⟩⟩
end
open Go Go.HL
section
variable {n:List UInt8} {h:Heap} {d:Dk} {zs l:List Int} {F E:Nat->Prop} {a:Option Addr} {c:Nat}
theorem wrong1 (h:n.length<1\/32<n.length\/∃z∈zs,z<0):wrongN d n zs=1:=by unfold wrongN;rw [if_pos h]
theorem wrong13 (h:¬(n.length<1\/32<n.length\/∃z∈zs,z<0)) (hd:d.dark=true):wrongN d n zs=13:=by unfold wrongN;rw [if_neg h,if_pos hd]
theorem wrong0 (h:¬(n.length<1\/32<n.length\/∃z∈zs,z<0)) (hd:¬d.dark=true):wrongN d n zs=0:=by unfold wrongN;rw [if_neg h,if_neg hd]
theorem neg_any {z:Int} :
  Hc 270 #[.J z] h (fun v h'=>v=.bool (decide (z<0))/\h'=h):=by
 refine HC.go Tryz.func270 5 ?_;refine .s<|.z .asB<|.nil<|.s<|.z .mvI<|.z .lss<|.z .asB<|.nil<|.ret ⟨.bool (decide (z<0)),Res.one rfl rfl,⟨rfl,rfl⟩⟩
theorem ixf_any (hl:RdL h F E (a,l.length,c) l) :
  Hc 292 #[.slice a l.length c,.func (.func 270) #[] #[]] h (fun v h'=>∃i:Int,v=.J i/\((0<=i/\∃z∈l,z<0)\/(i<0/\¬ ∃z∈l,z<0))/\h'=h):=by
 have hc2:=hl.m;have hc1:l.length<=c:=hl.c;simp only at hc2;refine HC.go Tryz.func292 19 ?_;refine .s<|.z .asI<|.nil<|.seq<|.s<|.z .mvS<|.z (.len T.el93)<|.z .mvI<|.nil<|.block fun K0 hK0=>.loop (fun m s hh=>∃(i:Nat),Has s [(0,.slice a l.length c),(1,.func (.func 270) #[] #[]),(7,.J (l.length:Int)),(8,.J (i:Int))]/\h=hh/\i<=l.length/\(∀j (hj:j<l.length),j<i->¬l[j]<0)/\m=l.length-i) ?_ ?_
 ·exact ⟨_,0,⟨rfl,rfl,rfl,rfl,trivial⟩,rfl,qL _,fun _ _ h=>absurd h (by omega),rfl⟩
 rintro _ _ _ ⟨i,hs,rfl,hi,hz,rfl⟩ J0 hJ0;refine .frame hs fun τ=>?_;refine .s<|.z .lss<|.nil<|.seq<|.cdr (fun C0=>?_) (fun C0=>?_)
 ·
  have hil:i=l.length:=by omega
  refine .exit<|hK0 _ _<|.s<|.z .asI<|.nil<|.ret ⟨.J (-1),Res.one rfl rfl,⟨_,rfl,.inr ⟨by decide,fun ⟨z,hzm,hz0⟩=>(by obtain ⟨j,hj,rfl⟩:=qO.1 hzm;exact hz j hj (by omega) hz0)⟩,rfl⟩⟩
 have hil:i<l.length:=by omega
 refine .skip<|.seq<|.block fun K1 hK1=>.s<|.z .mvI<|.z .asI<|.nil<|.s<|.z .mvF<|.z .mvS<|.z .mvI<|?_;obtain ⟨bb1,oo1,rfl,fb1⟩:=hl.pos (by omega);refine .z (.ix1 i T.el93 T.sz3)<|.z (.ld T.ag3 (hl.i64 (i:=i) (by omega)))<|.k 16 .dyn (neg_any (z:=l[i]))<|.nil<|.cd (fun C1=>?_) (fun C1=>?_)
 ·
  refine .s<|.z .mvI<|.z .asI<|.nil<|.ret ⟨.J (i:Int),Res.one rfl rfl,⟨_,rfl,.inl ⟨by omega,_,qP hil,C1⟩,rfl⟩⟩
 refine .skip<|.end<|hK1 _ _<|.r<|.z (.addI (b:=1))<|.z .mvI<|.nil<|.end<|hJ0 _ _ _ ⟨i+1,⟨rfl,rfl,rfl,rfl,trivial⟩,rfl,by omega,fun j hj h=>(by by_cases hji:j=i;(subst hji;exact C1);exact hz j hj (by omega)),rfl⟩ (by omega)
theorem anyneg_any (hl:RdL h F E (a,l.length,c) l) :
  Hc 269 #[.slice a l.length c,.func (.func 270) #[] #[]] h (fun v h'=>v=.bool (decide (∃z∈l,z<0))/\h'=h):=by
 have hc2:=hl.m;have hc1:l.length<=c:=hl.c;simp only at hc2;refine HC.go Tryz.func269 9 ?_;refine .s<|.z .asB<|.nil<|.s<|.z .mvS<|.z .mvF<|.c' 7 .func (ixf_any (a:=a) (c:=c) (l:=l) hl) ?_;rintro _ _ ⟨ix1,rfl,hix1,heq⟩;obtain rfl:=heq.symm;refine .z .geq<|.z .asB<|.nil<|.ret ⟨.bool (decide (0<=ix1)),Res.one rfl rfl,⟨congrArg Value.bool (decide_eq_decide.2 ⟨fun h1=>hix1.elim (·.2) fun h2=>absurd h1 (by omega),fun h1=>hix1.elim (·.1) fun h2=>absurd h1 h2.2⟩),rfl⟩⟩
theorem wrong_any {d:Nat} {r:RD} (hd:(dboxI d r).p h) (hl:RdL h F E (a,l.length,c) l) :
  Hc 237 #[.P d,.string (BA n),.slice a l.length c] h (fun v h'=>v=.J (wrongN r.abs n l:Int)/\h'=h):=by
 have hc2:=hl.m;have hc1:l.length<=c:=hl.c;simp only at hc2;refine HC.go Tryz.func237 28 ?_;refine .s<|.z .asI<|.nil<|.seq<|.block fun K0 hK0=>.s<|.z .mvP<|.z (.pEqS T.pt102)<|.z .asB<|.nil<|.cf<|.s<|.z .mvT<|.z (.lenT T.st9)<|.z .lss<|.z .mvB<|.sd (fun G14=>?_) (fun G14=>?_)
 ·
  refine .y<|.y<|.y<|.z .pkt<|.z .mvB<|.y<|.y<|.z .pkt<|.z .asB<|.nil<|.ct<|.s<|.z .asI<|.nil<|.ret ⟨.J 1,Res.one rfl rfl,⟨by rw [wrong1 (by first | exact .inl (by omega) | exact .inr (.inl (by omega)) | exact .inr (.inr C1))];rfl,rfl⟩⟩
 refine .z .mvT<|.z (.lenT T.st9)<|.z .gtr<|.z .pkf<|.z .mvB<|.sd (fun G19=>?_) (fun G19=>?_)
 ·
  refine .y<|.y<|.z .pkt<|.z .asB<|.nil<|.ct<|.s<|.z .asI<|.nil<|.ret ⟨.J 1,Res.one rfl rfl,⟨by rw [wrong1 (by first | exact .inl (by omega) | exact .inr (.inl (by omega)) | exact .inr (.inr C1))];rfl,rfl⟩⟩
 refine .z .mvS<|.k 21 .func (anyneg_any (a:=a) (c:=c) (l:=l) hl)<|.z .pkf<|.z .asB<|.nil<|.cd (fun C1=>?_) (fun C1=>?_)
 ·
  refine .s<|.z .asI<|.nil<|.ret ⟨.J 1,Res.one rfl rfl,⟨by rw [wrong1 (by first | exact .inl (by omega) | exact .inr (.inl (by omega)) | exact .inr (.inr C1))];rfl,rfl⟩⟩
 refine .s<|.z .mvP<|.z .nil<|.z (.fa T.fd175_1)<|.z (.ldx T.ag4 hd)<|.z .asB<|.nil<|.cond (fun C2=>?_) (fun C2=>?_)
 ·
  refine .s<|.z .asI<|.nil<|.ret ⟨.J 13,Res.one rfl rfl,⟨by rw [wrong13 (by rintro (h1 | h1 | h1);(omega);(omega);exact absurd h1 C1) (by show r.dark=true;exact C2)];rfl,rfl⟩⟩
 refine .skip<|.end<|hK0 _ _<|.s<|.z .asI<|.nil<|.ret ⟨.J 0,Res.one rfl rfl,⟨by rw [wrong0 (by rintro (h1 | h1 | h1);(omega);(omega);exact absurd h1 C1) (by show ¬r.dark=true;rw [C2];decide)];rfl,rfl⟩⟩
end
open Go Go.HL
section
variable {r:RD} {n:List UInt8} {h:Heap} {d:Nat} {f:RF} {E:Nat->Prop}
def lfR (r:RD):Int:=if 0<r.left then r.left-1 else r.left
def powerR (r:RD):RD × Nat:=if r.left=0 then (⟨r.m,r.fs,true,r.left,r.chg⟩,13) else (⟨r.m,r.fs,r.dark,lfR r,r.chg+1⟩,0)
theorem powerR_0 (h:r.left=0):powerR r=(⟨r.m,r.fs,true,r.left,r.chg⟩,13):=by unfold powerR;rw [if_pos h]
theorem powerR_1 (h:¬r.left=0):powerR r=(⟨r.m,r.fs,r.dark,lfR r,r.chg+1⟩,0):=by unfold powerR;rw [if_neg h]
theorem powerR_abs (r:RD):(powerR r).1.abs=(powerN r.abs).1/\(powerR r).2=(powerN r.abs).2:=by
 by_cases h:r.left=0
 ·rw [powerR_0 h];unfold powerN;rw [if_pos (by exact h)];exact ⟨rfl,rfl⟩
 ·rw [powerR_1 h];unfold powerN;rw [if_neg (by exact h)];exact ⟨rfl,rfl⟩
theorem powerR_fs (r:RD):(powerR r).1.fs=r.fs:=by unfold powerR;split<;>rfl
theorem lfR_1 (h:0<r.left):lfR r=r.left-1:=by unfold lfR;rw [if_pos h]
theorem lfR_0 (h:¬0<r.left):lfR r=r.left:=by unfold lfR;rw [if_neg h]
theorem power_any (ok:Hp h (dskI d r).F [dskI d r] [] h) (hk:DkOk r.abs) (hcg:r.chg<1000000000) :
  Hc 267 #[.P d] h (fun v h'=>v=.J ((powerR r).2:Int)/\Hp h (dskI d r).F [dskI d (powerR r).1] [] h'):=by
 have hl:r.left<=9223372036854775807:=hk.left;have hc0:0<=r.chg:=hk.chg;have ok:=ok.dopn;refine HC.go Tryz.func267 30 ?_;refine .s<|.z .asI<|.nil<|.seq<|.s<|.z .mvP<|.z .nil<|.z (.fa T.fd175_2)<|.z (.ldx T.ag3 ok.m0)<|.z .eql<|.nil<|.cd (fun C0=>?_) (fun C0=>?_)
 ·
  refine .s<|.z .mvP<|.z .nil<|.z (.fa T.fd175_1)<|.ur' (.stB T.sz4 ok) ?_;rintro U1 ⟨ok,cg⟩;refine .nil ?_;refine .s<|.z .asI<|.nil<|.ret ⟨.J 13,Res.one rfl rfl,(by rw [powerR_0 C0];exact ⟨rfl,Hp.dcls (r:=⟨r.m,r.fs,true,r.left,r.chg⟩) ok⟩)⟩
 refine .skip<|.seq<|.s<|.z .mvP<|.z .nil<|.z (.fa T.fd175_2)<|.z (.ldx T.ag3 ok.m0)<|.z .gtr<|.nil<|.cd (fun C1=>?_) (fun C1=>?_)
 ·
  refine .r<|.z .mvP<|.z .nil<|.z (.fa T.fd175_2)<|.z (.ldx T.ag3 ok.m0)<|.z .sub<|.z .nil<|.z (.fa T.fd175_2)<|.ur' (.stI T.sz3 ok) ?_;rintro U2 ⟨ok,cg⟩;refine .nil ?_;refine .s<|.z .mvP<|.z .nil<|.z (.fa T.fd175_3)<|.z (.ldx T.ag3 ok.m0)<|.z .add<|.z .nil<|.z (.fa T.fd175_3)<|.ur' (.stI T.sz3 ok) ?_;rintro U3 ⟨ok,cg⟩;refine .nil ?_;refine .s<|.z .asI<|.nil<|.ret ⟨.J 0,Res.one rfl rfl,(by rw [powerR_1 C0];refine ⟨rfl,Hp.dcls (r:=⟨r.m,r.fs,r.dark,lfR r,r.chg+1⟩) ?_⟩;show Hp _ _ (boxI d _ [_,_,.J (lfR r),_]::_) _ _;rw [lfR_1 C1];exact ok)⟩
 refine .skip<|.s<|.z .mvP<|.z .nil<|.z (.fa T.fd175_3)<|.z (.ldx T.ag3 ok.m0)<|.z .add<|.z .nil<|.z (.fa T.fd175_3)<|.ur' (.stI T.sz3 ok) ?_;rintro U4 ⟨ok,cg⟩;refine .nil ?_;refine .s<|.z .asI<|.nil<|.ret ⟨.J 0,Res.one rfl rfl,(by rw [powerR_1 C0];refine ⟨rfl,Hp.dcls (r:=⟨r.m,r.fs,r.dark,lfR r,r.chg+1⟩) ?_⟩;show Hp _ _ (boxI d _ [_,_,.J (lfR r),_]::_) _ _;rw [lfR_0 C1];exact ok)⟩
theorem dsk_parts (hd:(dskI d r).p h):(dboxI d r).p h/\MapT kvB h r.m (ents r.fs)/\(r.fs.map (·.1)).Nodup/\∀n f,bget r.fs n=some f->(fboxI f).p h:=by
 have h1:=hd.1 _ qX;have h2:MapT kvB h r.m (ents r.fs):=hd.1 _ (qQ _ qX);refine ⟨h1,h2,by have:=h2.nodup;rwa [ents_keys] at this,fun n f hg=>hd.1 _ (qQ _ (qQ _ (List.mem_flatMap.2 ⟨_,bget_mem hg,?_⟩)))⟩;simp [fileI]
def ptrN (f:Option RF):Option Addr:=f.map fun f=>⟨f.blk,0,none⟩
theorem ents_getD {fs:Fs} : (aget (ents fs) n).getD (.pointer none)=.pointer (ptrN (bget fs n)):=by
 rw [ents_get];cases bget fs n<;>rfl
theorem there_no (h:bget r.fs n=none):thereN r.abs n=false:=by simp [thereN,RD.abs,h]
theorem there_f (h:bget r.fs n=some f):thereN r.abs n=f.here:=by simp [thereN,RD.abs,h,RF.abs]
theorem there_any (hd:(dskI d r).p h) :
  Hc 181 #[.P d,.string (BA n)] h (fun v h'=>((thereN r.abs n=false/\v=.pointer none)\/∃f,bget r.fs n=some f/\f.here=true/\v=.pointer (some ⟨f.blk,0,none⟩))/\h'=h):=by
 obtain ⟨hd1,hd2,hd3,hd4⟩:=dsk_parts hd;refine HC.go Tryz.func181 21 ?_;refine .s<|.z .asP<|.nil<|.seq<|.s<|.z .mvP<|.z .nil<|.z (.fa T.fd175_0)<|.z (.ldx T.ag173 hd1)<|.z .mvT<|.z (.lk KV.ba n (v:=.pointer (ptrN (bget r.fs n))) T.mp173 (stB_iff T.st9) T.zr268 hd2 (by exact ents_getD))<|.z .asP<|.nil<|.s<|.z .mvP<|.z (.pNe T.pt268)<|.z .mvB<|.spl (fun G14=>?_) (fun G14=>?_)
 ·
  obtain ⟨f,hg⟩:∃f0,bget r.fs n=some f0:=by (cases hb:bget r.fs n with | none=>(rw [hb] at G14;simp [ptrN] at G14) | some x=>exact ⟨x,rfl⟩)
  rw [hg];simp only [ptrN,Option.map_some];have hfb:=hd4 n f hg;refine .z .mvP<|.z .nil<|.z (.fa T.fd272_2)<|.z (.ldx T.ag4 hfb)<|.z .pkt<|.nil<|.cond (fun C0=>?_) (fun C0=>?_)
  ·
   refine .s<|.z .mvP<|.z .asP<|.nil<|.ret ⟨.pointer (some ⟨f.blk,0,none⟩),Res.one rfl rfl,⟨.inr ⟨f,(by first | exact hg | rfl),C0,rfl⟩,rfl⟩⟩
  refine .skip<|.s<|.z .asP<|.nil<|.ret ⟨.pointer none,Res.one rfl rfl,⟨.inl ⟨by rw [there_f hg];exact C0,rfl⟩,rfl⟩⟩
 refine .y<|.y<|.y<|.y<|.z .pkf<|.nil<|.cf<|.skip<|.s<|.z .asP<|.nil<|.ret ⟨.pointer none,Res.one rfl rfl,⟨.inl ⟨there_no (by cases hb:bget r.fs n with | none=>rfl | some x=>(rw [hb] at G14;simp [ptrN] at G14)),rfl⟩,rfl⟩⟩
@[reducible] def byfI (E:Nat->Prop) (f:RF):Itm:=⟨fun h=>ByF h E f,E,fun _ _ _ c d b=>b.st c d⟩
def chgR (f:RF) (c:RC) (ya:Option Addr) (yc:Nat) (oa:Option Addr) (oc:Nat):RF:=⟨f.blk,ya,yc,(doneN c.abs f.nl f.here).1,f.sa,f.sc,f.sl,(doneN c.abs f.nl f.here).2,f.was,oa,oc,f.ol++[c]⟩
theorem chgR_abs {c:RC} {ya yc oa oc} : (chgR f c ya yc oa oc).abs=chgF f.abs c.abs:=by simp [chgR,RF.abs,chgF]
def newF (b:Nat):RF:=⟨b,none,0,[],none,0,[],false,false,none,0,[]⟩
def FileAt (r:RD) (n:List UInt8) (f:RF):Prop:=f.abs=((r.abs.fs n).getD noF)
theorem fileAt_some (h:bget r.fs n=some f):FileAt r n f:=by simp [FileAt,RD.abs,h]
theorem fileAt_new {b:Nat} (h:bget r.fs n=none):FileAt r n (newF b):=by simp [FileAt,RD.abs,h,newF,RF.abs,noF]
theorem ents_blk {fs:Fs} {g:RF} (h:f.blk=g.blk):ents (bput fs n f)=ents (bput fs n g):=by rw [<-ents_put,<-ents_put,ptrF,ptrF,h]
theorem do_end {h0:Heap} {D:Nat->Prop} {M R:List Itm} {c:RC} {ya oa:Option Addr} {yc oc:Nat} (hl:¬r.left=0) (hn:(r.fs.map (·.1)).Nodup) (hf:FileAt r n f)
  (ok:Hp h0 D (boxI f.blk 272 [.slice ya (doneN c.abs f.nl f.here).1.length yc,.slice f.sa f.sl.length f.sc,.bool (doneN c.abs f.nl f.here).2,.bool f.was,.slice oa (f.ol++[c]).length oc]::capI 3 370 (oa,(f.ol++[c]).length,oc) ((f.ol++[c]).flatMap RC.cells)::flsI (bdel r.fs n)::boxI d 175 [.map (some r.m),.bool r.dark,.J (lfR r),.J (r.chg+1)]::mapI kvB r.m (ents (bput r.fs n f))::capI 1 5 (ya,(doneN c.abs f.nl f.here).1.length,yc) ((doneN c.abs f.nl f.here).1.map bv)::M)
   (byfI E f::bysI E r.fs::rdI E E (c.ba,c.bl.length,c.bc) c.bl::R) h) :
  ∃(r':RD) (E':Nat->Prop),r'.abs=(doN r.abs n c.abs).1/\Hp h0 D (dskI d r'::M) (bysI E' r'.fs::R) h/\∀j,E' j->E j\/blkC (sv (ya,(doneN c.abs f.nl f.here).1.length,yc)) j:=by
 refine ⟨⟨r.m,bput r.fs n (chgR f c ya yc oa oc),r.dark,lfR r,r.chg+1⟩,fun j=>E j\/blkC (sv (ya,(doneN c.abs f.nl f.here).1.length,yc)) j,?_,?_,fun _ h=>h⟩
 ·unfold doN;rw [if_neg (by exact hl)];simp only [RD.abs];congr 1
  ·funext m;rw [bget_put];by_cases hm:m=n
   ·subst hm;have:=hf;unfold FileAt at this;simp only [RD.abs] at this;rw [if_pos rfl,Option.map_some,chgR_abs,this];simp [put1]
   ·simp [put1,hm]
 ·have o1:=Hp.frzB (l:=(doneN c.abs f.nl f.here).1) (Hp.n5 ok) rfl;have o2:=Hp.fcls (n:=n) (f:=chgR f c ya yc oa oc) hn o1;have o3:=Hp.dcls (r:=⟨r.m,bput r.fs n (chgR f c ya yc oa oc),r.dark,lfR r,r.chg+1⟩) (d:=d) (M:=M) (by
   have o4:=o2.n2.n2;simp only;rw [ents_blk (f:=chgR f c ya yc oa oc) (g:=f) rfl];exact o4)
  have hby:Bys h (fun j=>E j\/blkC (sv (ya,(doneN c.abs f.nl f.here).1.length,yc)) j) (bput r.fs n (chgR f c ya yc oa oc)):=by
   refine Bys.put (Bys.mono (fun _ h=>.inl h) o3.r2) ⟨?_,?_,fun x hx=>?_⟩
   ·exact RdL.mono (fun _ h=>.inr h) (fun _ f=>f.elim) o3.r0
   ·exact RdL.mono (fun _ h=>.inl h) (fun _ h=>.inl h) o3.r1.safe
   ·rcases qD.1 hx with hx | hx
    ·exact RdL.mono (fun _ h=>.inl h) (fun _ h=>.inl h) (o3.r1.opn x hx)
    ·rw [qS.1 hx];exact RdL.mono (fun _ h=>.inl h) (fun _ h=>.inl h) o3.r3
  exact ((o3.or (r:=rdI (blkC (sv (ya,(doneN c.abs f.nl f.here).1.length,yc))) none_ (ya,(doneN c.abs f.nl f.here).1.length,yc) (doneN c.abs f.nl f.here).1) (r':=byfI E f) (by simp) (by simp) (bysI _ _) hby (fun j hj=>hj.elim .inr fun h=>.inl (.inl h))).sub (by
   intro i hi;simp only [qK] at hi⊢;rcases hi with h | h
   ·exact .inl h
   ·exact .inr (.inr (.inr (.inr (.inr h))))))
theorem byfI_new {b:Nat} : ByF h E (newF b):=⟨RdL.nil _ _ _,RdL.nil _ _ _,fun _ h=>by cases h⟩
theorem do_any {kind pos:Nat} {ba:Option Addr} {bc:Nat} {bl:List UInt8} (ok:Hp h (dskI d r).F [dskI d r] [bysI E r.fs] h) (hk:DkOk r.abs) (hcg:r.chg<1000000000) (hb:RdL h E E (ba,bl.length,bc) bl) (hc:ChOk ⟨kind,pos,bl⟩) :
  Hc 266 #[.P d,.string (BA n),.agg #[.J (kind:Int),.J (pos:Int),.slice ba bl.length bc]] h (fun v h'=>∃r' E',v=.J ((doN r.abs n ⟨kind,pos,bl⟩).2:Int)/\r'.abs=(doN r.abs n ⟨kind,pos,bl⟩).1/\DUp h h' d r r' E E'):=by
 have ok:=ok.d0 (rdI E E (ba,bl.length,bc) bl) hb (fun _ h=>h.elim id id);have hc0:0<=r.chg:=hk.chg;have hfit:pos+bl.length<=16777216:=hc.fit;refine HC.go Tryz.func266 59 ?_;refine .s<|.a' 5 (.bxA (cs:=[.J (kind:Int),.J (pos:Int),.slice ba bl.length bc]) ok) ?_;rintro _ U1 ⟨pb1,rfl,ok,xe⟩;refine .z .asI<|.nil<|.seq<|.s<|.z .mvP<|.c' 10 .func (power_any (ok.n1).loc0 hk hcg) ?_;rintro _ U2 ⟨rfl,q⟩;have ok:=(ok.n1).lift1 q;refine .z .asI<|.nil<|.s<|.z .mvI<|.z .neq<|.nil<|.cd (fun C0=>?_) (fun C0=>?_)
 ·
  have hp0:r.left=0:=by by_cases h:r.left=0;exact h;exact absurd (by rw [powerR_1 h];rfl) C0
  refine .s<|.z .mvI<|.z .asI<|.nil<|.ret ⟨.J ((powerR r).2:Int),Res.one rfl rfl,⟨(powerR r).1,E,by unfold doN powerN;rw [if_pos (by exact hp0),if_pos (by exact hp0),powerR_0 hp0],by unfold doN;rw [if_pos (by exact hp0),(powerR_abs r).1],⟨by rw [powerR_fs];exact ok.k1.tR,fun _ h=>.inl h⟩⟩⟩
 have hpl:¬r.left=0:=fun h=>by rw [powerR_0 h] at C0;exact C0 (by simp)
 have hnd:(r.fs.map (·.1)).Nodup:=by have:=(dsk_parts (ok).m0).2.2.1;rwa [powerR_fs] at this
 have ok:=ok;rw [powerR_1 hpl] at ok;have ok:=ok.dopn;refine .skip<|.s<|.z .mvP<|.z .nil<|.z (.fa T.fd175_0)<|.z (.ldx T.ag173 ok.m0)<|.z .mvT<|.z (.lk KV.ba n (v:=.pointer (ptrN (bget r.fs n))) T.mp173 (stB_iff T.st9) T.zr268 ok.m1 (by exact ents_getD))<|.z .asP<|.nil<|.seq<|.s<|.z .mvP<|.z (.pEq T.pt268)<|.nil<|.join (fun s hh=>∃(f:RF),Has s [(5,.P pb1),(8,.pointer (some ⟨f.blk,0,none⟩))]/\Hp h (dskI d r).F [boxI f.blk 272 [.slice f.na f.nl.length f.nc,.slice f.sa f.sl.length f.sc,.bool f.here,.bool f.was,.slice f.oa f.ol.length f.oc],capI 3 370 (f.oa,f.ol.length,f.oc) (f.ol.flatMap RC.cells),flsI (bdel r.fs n),boxI d 175 [.map (some r.m),.bool r.dark,.J (lfR r),.J (r.chg+1)],mapI kvB r.m (ents (bput r.fs n f)),boxI pb1 370 [.J (kind:Int),.J (pos:Int),.slice ba bl.length bc]] [byfI E f,rdI E E (ba,bl.length,bc) bl,bysI E r.fs] hh/\FileAt r n f) ?_ ?_
 ·
  refine .cond (fun C1=>?_) (fun C1=>?_)
  ·
   have hg:bget r.fs n=none:=by (cases hb:bget r.fs n with | none=>rfl | some x=>(rw [hb] at C1;simp [ptrN] at C1))
   refine .s<|.z (.bd #[.N,.N,.bool false,.bool false,.N] T.zr272 T.pl272 rfl)<|.a' 23 (.bxA (cs:=[.N,.N,.bool false,.bool false,.N]) ok) ?_;rintro _ U3 ⟨pb2,rfl,ok,xe⟩;refine .z .asP<|.nil<|.r<|.z .mvP<|.z .nil<|.z (.fa T.fd175_0)<|.z (.ldx T.ag173 ok.m1)<|.z .mvT<|.z .mvP<|.ur' (.mpu KV.ba sbB n (v:=(ptrF (newF pb2))) T.mp173 (stB_iff T.st9) ok.n2) ?_;rintro U4 ok;refine .nil ?_;refine .end<|⟨(newF pb2),⟨rfl,rfl,trivial⟩,(by rw [show ents (bput r.fs n (newF pb2))=aput (ents r.fs) n (ptrF (newF pb2)) from ents_put.symm,bdel_none hg];exact (Hp.n1 (Hp.nilC (k:=3) (e:=370) (ok.n4.n1.n3.n4.n4))).d1 (byfI E (newF pb2)) byfI_new (fun _ h=>h)),fileAt_new hg⟩
  obtain ⟨f,hg⟩:∃f0,bget r.fs n=some f0:=by (cases hb:bget r.fs n with | none=>(rw [hb] at C1;simp [ptrN] at C1) | some x=>exact ⟨x,rfl⟩)
  rw [hg];simp only [ptrN,Option.map_some];have ok:=Hp.fopn hnd hg (ok.n2);have ok:=ok.d1 (byfI E f) (Bys.get ok.r1 hg) (fun _ h=>h);refine .skip<|.end<|⟨f,⟨rfl,rfl,trivial⟩,(by rw [show ents (bput r.fs n f)=ents r.fs from ents_same hg rfl];exact ok.n5.n5.n5.n5.n5.n5),fileAt_some hg⟩
 rintro s U5 ⟨f,hs,ok,hfa⟩;refine .frame hs fun τ=>?_;have hnl:f.nl.length<=16777216:=by have:=(hk.getD n).1.now;rw [<-hfa] at this;exact this
 have hol:(f.ol.flatMap RC.cells).length=f.ol.length*3:=flat_len RC.cells_len _;have hoc:(f.ol.length:Int)<=r.chg:=by have h9:=(hk.getD n).2;rw [<-hfa] at h9;simpa [RF.abs] using (show _<=r.chg from h9)
 refine .seq<|?_;have ok:=ok.d0 (rdI E E (f.na,f.nl.length,f.nc) f.nl) (ok.r0).now (fun _ h=>h.elim id id);refine .a 11 (fun fl hh=>cond fl True (Hp h (dskI d r).F [boxI f.blk 272 [.slice f.na f.nl.length f.nc,.slice f.sa f.sl.length f.sc,.bool f.here,.bool f.was,.slice f.oa f.ol.length f.oc],capI 3 370 (f.oa,f.ol.length,f.oc) (f.ol.flatMap RC.cells),flsI (bdel r.fs n),boxI d 175 [.map (some r.m),.bool r.dark,.J (lfR r),.J (r.chg+1)],mapI kvB r.m (ents (bput r.fs n f)),boxI pb1 370 [.J (kind:Int),.J (pos:Int),.slice ba bl.length bc]] [rdI E E (f.na,f.nl.length,f.nc) f.nl,byfI E f,rdI E E (ba,bl.length,bc) bl,bysI E r.fs] hh)) mixed ?_;have hS:=ok;refine .g 0 false rfl 31 hS (fun _=>.mvP)<|.g 1 false rfl 32 hS (fun _=>.mvP)<|.l 2 false rfl 33 hS (fun _ hS=>.ldb T.ag370 hS.m5 T.sz370)<|.g 3 false rfl 34 hS (fun _=>.mvP)<|.g 4 false rfl 35 hS (fun _=>.nil)<|.g 5 false rfl 36 hS (fun _=>.fa T.fd272_0)<|.l 6 false rfl 37 hS (fun _ hS=>.ldx T.ag35 hS.m0)<|.g 7 false rfl 38 hS (fun _=>.mvP)<|.g 8 false rfl 39 hS (fun _=>.nil)<|.g 9 false rfl 40 hS (fun _=>.fa T.fd272_2)<|.l 10 false rfl 41 hS (fun _ hS=>.ldx T.ag4 hS.m0)<|.o1 11<|.c' true rfl 42 .func (done_any (kind:=kind) (pos:=pos) (ba:=ba) (bc:=bc) (bl:=bl) (a:=f.na) (c:=f.nc) (l:=f.nl) (here:=f.here) ok.r2 ok.r0 (by omega) (by omega)) ?_;rintro _ U6 ⟨_,rfl,own⟩;obtain ⟨ya1,yc1,rfl⟩:=own.formB;have hyf:=fun j hj=>kN ok.chg.size (own.fresh j hj);have ok:=ok.own own;refine ⟨trivial,?_⟩;refine .g 12 true rfl 30 trivial (fun _=>.mvU)<|.g 13 true rfl 43 trivial (fun _=>.ex)<|.g 14 true rfl 44 trivial (fun _=>.ex)<|.g 15 true rfl 45 trivial (fun _=>.nil)<|.g 16 true rfl 46 trivial (fun _=>.fa T.fd272_0)<|.o1 17<|.ur' true rfl (.stS T.sz35 ok.n1) ?_;rintro U7 ⟨ok,cg⟩;refine ⟨trivial,?_⟩;refine .g 18 true rfl 47 trivial (fun _=>.nil)<|.g 19 true rfl 48 trivial (fun _=>.fa T.fd272_2)<|.o1 20<|.ur' true rfl (.stB T.sz4 ok) ?_;rintro U8 ⟨ok,cg⟩;refine ⟨trivial,?_⟩;refine .e ?_;refine .seq<|.a 10 (fun fl hh=>cond fl True (Hp h (dskI d r).F [boxI f.blk 272 [.slice ya1 ((doneN ⟨kind,pos,bl⟩ f.nl f.here).1.length) yc1,.slice f.sa f.sl.length f.sc,.bool ((doneN ⟨kind,pos,bl⟩ f.nl f.here).2),.bool f.was,.slice f.oa f.ol.length f.oc],capI 1 5 (ya1,(doneN ⟨kind,pos,bl⟩ f.nl f.here).1.length,yc1) ((doneN ⟨kind,pos,bl⟩ f.nl f.here).1.map bv),flsI (bdel r.fs n),boxI d 175 [.map (some r.m),.bool r.dark,.J (lfR r),.J (r.chg+1)],mapI kvB r.m (ents (bput r.fs n f)),boxI pb1 370 [.J (kind:Int),.J (pos:Int),.slice ba bl.length bc]] [rdI E E (f.na,f.nl.length,f.nc) f.nl,byfI E f,rdI E E (ba,bl.length,bc) bl,bysI E r.fs] hh)) mixed ?_;have hS:=ok.n6.n6.n6.n6.n5.n5.k6;refine .g 0 false rfl 49 hS (fun _=>.mvP)<|.g 1 false rfl 50 hS (fun _=>.mvP)<|.g 2 false rfl 51 hS (fun _=>.nil)<|.g 3 false rfl 52 hS (fun _=>.fa T.fd272_4)<|.l 4 false rfl 53 hS (fun _ hS=>.ldx T.ag270 hS.m0)<|.l 5 false rfl 54 hS (fun _ hS=>.ldb T.ag370 hS.m5 T.sz370)<|.o1 6<|.a' false rfl 55 (.lit [.tmp 54] (cs:=[.J (kind:Int),.J (pos:Int),.slice ba bl.length bc]) T.el270 T.sz370 T.zr370 ok ⟨rfl,trivial⟩) ?_;rintro _ U9 ⟨pb3,rfl,ok,xe⟩;refine ⟨ok.n7.n7.n7.n7.n6.n6.k6,?_⟩;have hS:=ok.n7.n7.n7.n7.n6.n6.k6;refine .o1 7<|.a' false rfl 56 (.app (news:=[.J (kind:Int),.J (pos:Int),.slice ba bl.length bc]) T.el270 T.sz370 T.by370 T.zr370 ok.n3 (ok.n3.m1).sl (oneL rfl) (by rw [hol];simp only [qV,qB];omega)) ?_;rintro _ U10 ⟨ya2,yn1,yc2,rfl,ok,ap⟩;refine ⟨ok.n7.n7.n7.n7.n7.n7.k6,?_⟩;have hS:=ok.n7.n7.n7.n7.n7.n7.k6;refine .g 8 false rfl 57 hS (fun _=>.nil)<|.g 9 false rfl 58 hS (fun _=>.fa T.fd272_4)<|.o1 10<|.ur' true rfl (.stS T.sz270 ok.n2) ?_;rintro U11 ⟨ok,cg⟩;refine ⟨trivial,?_⟩;refine .e ?_;refine .s<|.z .asI<|.nil ?_;have ok:=(ok.n1).cx (ys:=(f.ol++[(⟨kind,pos,ba,bc,bl⟩:RC)]).flatMap RC.cells) (by simp [RC.cells]);obtain rfl:yn1=(f.ol++[(⟨kind,pos,ba,bc,bl⟩:RC)]).length:=(Sl.sz (Cap.sl ok.m0) RC.cells_len (by decide)).1.symm;refine .ret ⟨.J 0,Res.one rfl rfl,(by obtain ⟨r2,E2,h1,h2,h3⟩:=do_end (n:=n) (f:=f) (c:=⟨kind,pos,ba,bc,bl⟩) hpl hnd hfa (ok.n3.n6.n6.n6.n4.n5.f2.f3.f3);exact ⟨r2,E2,by unfold doN;rw [if_neg (by exact hpl)];rfl,h1,h2.k1.up fun j hj=>(h3 j hj).imp id (fun h9=>hyf j h9)⟩)⟩
end
open Go Go.HL
section
variable {n:List UInt8} {d:Dk}
theorem rem_w (h:¬(wrongN d n []:Int)=0):removeN d n=(d,wrongN d n []):=by unfold removeN;rw [if_pos (by omega)]
theorem rem_n (h:wrongN d n []=0) (h1:thereN d n=false):removeN d n=(d,4):=by unfold removeN;rw [if_neg (by omega),if_pos h1]
theorem rem_d (h:wrongN d n []=0) (h1:thereN d n=true):removeN d n=doN d n ⟨2,0,[]⟩:=by unfold removeN;rw [if_neg (by omega),if_neg (by rw [h1];decide)]
theorem remove_any {h:Heap} {d:Nat} {r:RD} {E:Nat->Prop} (ok:Hp h (dskI d r).F [dskI d r] [bysI E r.fs] h) (hk:DkOk r.abs) (hcg:r.chg<1000000000) :
  Hc 236 #[.P d,.string (BA n)] h (fun v h'=>∃r' E',v=.J ((removeN r.abs n).2:Int)/\r'.abs=(removeN r.abs n).1/\DUp h h' d r r' E E'):=by
 refine HC.go Tryz.func236 20 ?_;refine .s<|.z .asI<|.nil<|.seq<|.s<|.z .mvP<|.z .mvT<|.k 8 .func (wrong_any (d:=d) (r:=r) (n:=n) (dsk_parts (ok.m0)).1 (a:=none) (c:=0) (l:=([]:List Int)) (RdL.nil _ none_ none_))<|.z .asI<|.nil<|.s<|.z .mvI<|.z .neq<|.nil<|.cd (fun C0=>?_) (fun C0=>?_)
 ·
  refine .s<|.z .mvI<|.z .asI<|.nil<|.ret ⟨.J (wrongN r.abs n ([]:List Int):Int),Res.one rfl rfl,⟨r,E,(by rw [rem_w C0]<;>rfl),(by rw [rem_w C0]<;>rfl),(ok).k1.up fun _ h=>.inl h⟩⟩
 have hw0:wrongN r.abs n []=0:=by omega
 refine .skip<|.seq<|.s<|.z .mvP<|.z .mvT<|.c' 14 .func (there_any (d:=d) (r:=r) (n:=n) (ok.m0)) ?_;rintro _ _ ⟨(⟨hnotf1,rfl⟩ | ⟨tf1,hgtf1,hhtf1,rfl⟩),heq⟩
 ·
  obtain rfl:=heq.symm;refine .z (.pEqN T.pt268)<|.nil<|.ct<|.s<|.z .asI<|.nil<|.ret ⟨.J 4,Res.one rfl rfl,⟨r,E,(by rw [rem_n hw0 hnotf1]<;>rfl),(by rw [rem_n hw0 hnotf1]<;>rfl),(ok).k1.up fun _ h=>.inl h⟩⟩
 obtain rfl:=heq.symm;refine .z (.pEqS T.pt268)<|.nil<|.cf<|.skip<|.s<|.z .mvP<|.z .mvT<|.z (.bd #[.J 2,.J 0,.N] T.zr370 T.pl370 rfl)<|.c' 19 .func (do_any (d:=d) (r:=r) (E:=E) (n:=n) (kind:=2) (pos:=0) (ba:=none) (bc:=0) (bl:=([]:List UInt8)) (ok).loc1 hk hcg (RdL.nil _ _ _) ⟨by simp,by simp⟩) ?_;rintro _ U1 ⟨rdk1,Edk1,rfl,hadk1,updk1⟩;have hszdk1:=ok.chg.size;have ok:=(ok).dsk (d:=d) (r:=r) updk1;refine .z .asI<|.nil<|.ret ⟨.J ((doN r.abs n ⟨2,0,([]:List UInt8)⟩).2:Int),Res.one rfl rfl,⟨rdk1,Edk1,(by rw [rem_d hw0 (by rw [there_f hgtf1];exact hhtf1)]<;>rfl),(by rw [rem_d hw0 (by rw [there_f hgtf1];exact hhtf1)];exact hadk1),(ok).k1.up fun j hj=>(updk1.new j hj).elim .inl fun h=>.inr (kN hszdk1 h)⟩⟩
end
open Go Go.HL
section
variable {r:RD} {h:Heap} {n:List UInt8}
theorem size_0 (h:r.dark=true\/thereN r.abs n=false):sizeN r.abs n=(0,false):=by unfold sizeN;rw [if_pos (by exact h)]
theorem size_1 {f:RF} (h:¬r.dark=true) (hg:bget r.fs n=some f) (hh:f.here=true):sizeN r.abs n=(f.nl.length,true):=by
 unfold sizeN;rw [if_neg]
 ·simp [RD.abs,hg,RF.abs]
 ·rintro (h1 | h1)
  ·exact h h1
  ·rw [there_f hg,hh] at h1;cases h1
theorem flsNil {h0:Heap} {D:Nat->Prop} {M R:List Itm} (ok:Hp h0 D M R h):Hp h0 D (flsI []::M) R h:=Hp.star (l:=[]) ok
theorem size_anyD {d:Nat} (hd:(dskI d r).p h) :
  Hc 140 #[.P d,.string (BA n)] h (fun v h'=>v=.tuple #[.J ((sizeN r.abs n).1:Int),.bool (sizeN r.abs n).2]/\h'=h):=by
 obtain ⟨hd1,hd2,hd3,hd4⟩:=dsk_parts hd;refine HC.go Tryz.func140 30 ?_;refine .s<|.z .asI<|.z .asB<|.nil<|.seq<|.s<|.z .mvP<|.z (.pEqS T.pt102)<|.z .mvB<|.z .mvP<|.z .nil<|.z (.fa T.fd175_1)<|.z (.ldx T.ag4 hd1)<|.z .pkf<|.z .mvB<|.spl (fun G14=>?_) (fun G14=>?_)
 ·
  refine .y<|.y<|.y<|.y<|.z .pkt<|.nil<|.ct<|.s<|.z .asI<|.z .asB<|.nil<|.ret ⟨.tuple #[.J 0,.bool false],Res.two rfl rfl rfl,⟨by first | rw [size_0 (.inl (by assumption))];rfl | rw [size_0 (.inr hnotf1)];rfl,rfl⟩⟩
 refine .z .mvP<|.z .mvT<|.c' 17 .func (there_any (d:=d) (r:=r) (n:=n) hd) ?_;rintro _ _ ⟨(⟨hnotf1,rfl⟩ | ⟨tf1,hgtf1,hhtf1,rfl⟩),heq⟩
 ·
  obtain rfl:=heq.symm;refine .z (.pEqN T.pt268)<|.z .pkf<|.nil<|.ct<|.s<|.z .asI<|.z .asB<|.nil<|.ret ⟨.tuple #[.J 0,.bool false],Res.two rfl rfl rfl,⟨by first | rw [size_0 (.inl (by assumption))];rfl | rw [size_0 (.inr hnotf1)];rfl,rfl⟩⟩
 obtain rfl:=heq.symm;refine .z (.pEqS T.pt268)<|.z .pkf<|.nil<|.cf<|.skip<|.seq<|?_;have hfb:=hd4 n tf1 hgtf1;refine .r<|.z .mvP<|.z .nil<|.z (.fa T.fd175_0)<|.z (.ldx T.ag173 hd1)<|.z .mvT<|.z (.lk KV.ba n (v:=.pointer (some ⟨tf1.blk,0,none⟩)) T.mp173 (stB_iff T.st9) T.zr268 hd2 (by rw [ents_get,hgtf1];rfl))<|.z .nil<|.z (.fa T.fd272_0)<|.z (.ldx T.ag35 hfb)<|.z (.len T.el35)<|.z .asI<|.z .asB<|.nil<|.ret ⟨.tuple #[.J (tf1.nl.length:Int),.bool true],Res.two rfl rfl rfl,⟨by rw [size_1 (by intro h9;simp [h9] at *) hgtf1 hhtf1],rfl⟩⟩
theorem dark_any {d:Nat} (hd:(dboxI d r).p h) :
  Hc 139 #[.P d] h (fun v h'=>v=.bool r.dark/\h'=h):=by
 have hd1:=hd;refine HC.go Tryz.func139 11 ?_;refine .s<|.z .asB<|.nil<|.s<|.z .mvP<|.z (.pNeS T.pt102)<|.z .mvB<|.z .mvP<|.z .nil<|.z (.fa T.fd175_1)<|.z (.ldx T.ag4 hd1)<|.z .pkt<|.z .asB<|.nil<|.ret ⟨.bool r.dark,Res.one rfl rfl,⟨rfl,rfl⟩⟩
theorem new_any :
  Hc 50 #[] h (fun v h'=>∃d r,v=.P d/\r.abs=newN/\Hp h none_ [dskI d r] [bysI none_ r.fs] h'):=by
 have ok:=Hp.nil h none_;refine HC.go Tryz.func50 4 ?_;refine .s<|.z .asP<|.nil<|.s<|.a' 1 (.mkm kvB ok) ?_;rintro _ U1 ⟨mb1,rfl,ok⟩;refine .z (.bd #[.map (some mb1),.bool false,.J (-1),.J 0] T.zr175 T.pl175 rfl)<|.a' 3 (.bxA (cs:=[.map (some mb1),.bool false,.J (-1),.J 0]) ok) ?_;rintro _ U2 ⟨pb1,rfl,ok,xe⟩;refine .z .asP<|.nil<|.ret ⟨.P pb1,Res.one rfl rfl,⟨pb1,⟨mb1,[],false,-1,0⟩,rfl,rfl,((Hp.dcls (r:=⟨mb1,[],false,-1,0⟩) (flsNil ok).n2.n2).dE (bysI none_ []) (fun _ h=>by cases h) (fun _ f=>f))⟩⟩
end
open Go Go.HL
def ixOf (v:Int):List Int->Int
 | []=>-1
 | x::l=>if x=v then 0 else (if ixOf v l<0 then -1 else ixOf v l+1)
theorem ixOf_none {v:Int} : ∀ {l:List Int},v∉l->ixOf v l = -1
 | [],_=>rfl
 | x::l,h=>by
  simp only [qK,not_or] at h;unfold ixOf;rw [if_neg (fun e=>h.1 e.symm),ixOf_none h.2];rfl
theorem ixOf_some {v:Int} : ∀ {l:List Int} {k:Nat} (hk:k<l.length),v∉l.take k->l[k]=v->ixOf v l=k
 | x::l,0,_,_,h=>by simp at h;simp [ixOf,h]
 | x::l,k+1,hk,ha,h=>by
  simp only [kZ,qK,not_or] at ha;have:=ixOf_some (l:=l) (k:=k) (by simpa using hk) ha.2 (by simpa using h);unfold ixOf;rw [if_neg (fun e=>ha.1 e.symm),this,if_neg (by omega)];omega
theorem index_any {h:Heap} {a:Option Addr} {n c:Nat} {v:Int} {l:List Int} (hl:Sl h 1 (.slice a n c) (l.map iv)) :
  Hc 206 #[.slice a n c,.J v] h (fun r h'=>r=.J (ixOf v l)/\h'=h):=by
 have hra:=hl.cells;have hcm:=hl.bd;have hla:l.length=n:=by simpa using hra.len
 refine HC.body Tryz.func206 rfl (by kernel_rfl) 19 rfl rfl ?_;refine HW.seq fun K1 hK1=>?_;refine HW.region ?_;refine HO.v (V.asI rfl) rfl 4 rfl rfl ?_;refine HO.nil ?_;refine hK1 _ _ ?_;refine HW.seq fun K2 hK2=>?_;refine HW.seq fun K3 hK3=>?_;refine HW.region ?_;refine HO.v (V.mvS rfl) rfl 6 rfl rfl ?_;refine HO.v (V.len rfl T.el93) rfl 7 rfl rfl ?_;refine HO.v (V.mvI rfl) rfl 8 rfl rfl ?_;refine HO.nil ?_;refine hK3 _ _ ?_;refine HW.block ?_;refine HW.loopm (fun m s hh=>∃k:Nat,Has s [(0,.slice a n c),(1,.J v),(7,.J n),(8,.J k)]/\hh=h/\k<=n/\m=n-k/\v∉l.take k) ?_ ?_
 ·exact ⟨_,0,⟨rfl,rfl,rfl,rfl,trivial⟩,rfl,qL _,rfl,by simp⟩
 rintro m s hh ⟨k,hs,rfl,hk,rfl,hp⟩ J4 hJ4;refine HW.frame hs fun τ=>?_;refine HW.seq fun K5 hK5=>?_;refine HW.region ?_;refine HO.v (V.lss rfl rfl rfl) rfl 9 rfl rfl ?_;refine HO.nil ?_;refine hK5 _ _ ?_;refine HW.seq fun K6 hK6=>?_;refine HW.condr rfl (fun hc=>?_) (fun hc=>?_)
 ·
  have hkn:=of_decide_eq_false hc;refine HW.exit ?_;have hkn:=of_decide_eq_false hc;refine hK2 _ _ ?_;refine HW.seq fun K7 hK7=>?_;refine HW.region ?_;refine HO.v (V.asI rfl) rfl 4 rfl rfl ?_;refine HO.nil ?_;refine hK7 _ _ ?_;refine HW.ret ?_;refine ⟨.J (-1),Res.one rfl rfl,(by have h1:k=n:=(by omega);rw [h1,qY (by omega)] at hp;rw [ixOf_none hp]),rfl⟩
 refine HW.skip ?_;refine hK6 _ _ ?_;refine HW.seq fun K8 hK8=>?_;have hkn:=of_decide_eq_true hc;have hkl:k<l.length:=by omega
 obtain ⟨b,o,rfl,hcell⟩:=hra.pos (by omega);refine HW.block ?_;refine HW.seq fun K9 hK9=>?_;refine HW.region ?_;refine HO.v (V.mvI rfl) rfl 10 rfl rfl ?_;refine HO.v (V.asI rfl) rfl 5 rfl rfl ?_;refine HO.nil ?_;refine hK9 _ _ ?_;refine HW.seq fun K10 hK10=>?_;refine HW.region ?_;refine HO.v (V.mvI rfl) rfl 11 rfl rfl ?_;refine HO.v (V.mvS rfl) rfl 12 rfl rfl ?_;refine HO.v (V.mvI rfl) rfl 13 rfl rfl ?_;refine HO.v (V.indexAddr1 rfl rfl T.el93 T.sz3 (by omega)) rfl 14 rfl rfl ?_;refine HO.v (V.load rfl (load_one T.ag3 (v:=iv l[k]) (hcell _ _ (map_at (by omega))))) rfl 15 rfl rfl ?_;refine HO.v (V.eql rfl rfl rfl) rfl 16 rfl rfl ?_;refine HO.nil ?_;refine hK10 _ _ ?_;refine HW.cond rfl (fun hc=>?_) (fun hc=>?_)
 ·
  refine HW.seq fun K11 hK11=>?_;refine HW.region ?_;refine HO.v (V.mvI rfl) rfl 17 rfl rfl ?_;refine HO.v (V.asI rfl) rfl 4 rfl rfl ?_;refine HO.nil ?_;refine hK11 _ _ ?_;refine HW.ret ?_;refine ⟨.J k,Res.one rfl rfl,(by rw [ixOf_some (k:=k) (by omega) hp (of_decide_eq_true hc).symm]),rfl⟩
 refine HW.skip ?_;refine hK8 _ _ ?_;refine HW.region ?_;refine HO.v (V.add rfl rfl (by omega)) rfl 18 rfl rfl ?_;refine HO.v (V.mvI rfl) rfl 8 rfl rfl ?_;refine HO.nil ?_;refine hJ4 _ _ _ ⟨k+1,⟨rfl,rfl,rfl,rfl,trivial⟩,rfl,by omega,rfl,(by rw [take_next (by omega)];have:=of_decide_eq_false hc;simp only [qD,qS,not_or];exact ⟨hp,this⟩)⟩ (by omega)
theorem ixOf_lt {v:Int} {l:List Int} (h:ixOf v l<0):v∉l:=by
 intro hm;obtain ⟨k,hk,hl⟩:=qO.1 hm;have:∃k,∃(hk:k<l.length),l[k]=v/\v∉l.take k:=by
  obtain ⟨m,hm1,hm2⟩:=exists_least (p:=fun k=>∃(hk:k<l.length),l[k]=v) ⟨k,hk,hl⟩;obtain ⟨h1,h2⟩:=hm1;refine ⟨m,h1,h2,fun hx=>?_⟩;obtain ⟨j,hj,hj2⟩:=qO.1 hx;simp at hj hj2;exact absurd (hm2 j ⟨by omega,hj2⟩) (by omega)
 obtain ⟨k,hk,h1,h2⟩:=this;rw [ixOf_some hk h2 h1] at h;omega
structure Ordr (h:Heap) (p:Nat) (rm mp:Value) (ov:SV) (xs:List Int):Prop where
 hp:h[p]? = some (.cells #[sv ov,rm,mp] 267 (0,0))
 ord:Cap h 1 3 (sv ov) (xs.map iv)
structure AP where
 no:Int
 b:List UInt8
 d:Bool
 deriving DecidableEq
def nos (L:List AP):List Int:=L.map fun x=>x.no
def isT (h:Heap) (b:Nat) (t:TypeId):Prop:=∃cs fz,h[b]? = some (.cells cs t fz)
theorem isT.eq {h:Heap} {b:Nat} {t u:TypeId} (x:isT h b t) (y:isT h b u):t=u:=by
 obtain ⟨_,_,x⟩:=x;obtain ⟨_,_,y⟩:=y;rw [x] at y;injection y with y;injection y
structure PgAt (h:Heap) (F:Nat->Prop) (q:Nat) (x:AP):Prop where
 cells:∃b:SV,h[q]? = some (.cells #[sv b,.bool x.d] 418 (0,0))/\Cap h 1 5 (sv b) (x.b.map bv)/\∀j,blkC (sv b) j->F j
 own:F q
theorem PgAt.chg {h h':Heap} {F F' G:Nat->Prop} {q:Nat} {x:AP} (r:PgAt h F q x) (c:Chg G h h') (hg:∀b,G b->F b->isT h b 418\/isT h b 5->False) (hF:∀b,F b->F' b):PgAt h' F' q x:=by
 obtain ⟨⟨b,hq,hb,hf⟩,ho⟩:=r;refine ⟨⟨b,c.block hq fun g=>hg _ g ho (.inl ⟨_,_,hq⟩),hb.chg c fun j hj g=>?_,fun j hj=>hF _ (hf j hj)⟩,hF _ ho⟩;obtain ⟨cs,fz,h1⟩:=hb.blk hj;exact hg j g (hf j hj) (.inr ⟨cs,fz,h1⟩)
structure CMap (h:Heap) (F:Nat->Prop) (m:Nat) (L:List AP) (ks:List Int) (q:Int->Nat):Prop where
 map:MapT (Value.int .i64) h m (ks.map fun k=>(k,ptr (q k)))
 mem:∀k,k∈ks↔k∈nos L
 nd:(nos L).Nodup
 pg:∀x∈L,PgAt h F (q x.no) x
 inj:∀x∈L,∀y∈L,q x.no=q y.no->x.no=y.no
 own:F m
theorem CMap.chg {h h':Heap} {F F' G:Nat->Prop} {m:Nat} {L:List AP} {ks:List Int} {q:Int->Nat} (r:CMap h F m L ks q) (c:Chg G h h') (hg:∀b,G b->F b->isT h b 267\/isT h b 3) (hF:∀b,F b->F' b):CMap h' F' m L ks q:=by
 refine ⟨r.map.chg c fun g=>?_,r.mem,r.nd,fun x hx=>(r.pg x hx).chg c (fun b g f t=>?_) hF,r.inj,hF _ r.own⟩
 ·obtain ⟨es,cl,hb,_⟩:=r.map;rcases hg _ g r.own with ⟨cs,fz,h1⟩ | ⟨cs,fz,h1⟩<;>(rw [hb] at h1;injection h1 with h1;cases h1)
 ·rcases hg _ g f with h1 | h1<;>rcases t with h2 | h2<;>exact absurd (h1.eq h2) (by decide)
theorem Ordr.chg {h h':Heap} {G:Nat->Prop} {p:Nat} {rm mp:Value} {ov:SV} {xs:List Int} (r:Ordr h p rm mp ov xs) (c:Chg G h h') (hp:¬G p) (hb:∀b,blkC (sv ov) b->¬G b):Ordr h' p rm mp ov xs:=
 ⟨c.block r.hp hp,r.ord.chg c hb⟩
structure CIn (h:Heap) (F:Nat->Prop) (p m:Nat) (ov:SV) (room:Int) (L:List AP) (ks:List Int) (q:Int->Nat):Prop where
 mp:CMap h F m L ks q
 od:Ordr h p (.J room) (.map (some m)) ov (nos L).reverse
 fp:F p
 fo:∀b,blkC (sv ov) b->F b
 lt:∀b,F b->b<h.size
 len:L.length<=100000001
 sm:∀x∈L,x.b.length<=1000000
def CRep (h:Heap) (F:Nat->Prop) (p:Nat) (room:Int) (L:List AP):Prop:=∃m ov ks q,CIn h F p m ov room L ks q
theorem CIn.chg {h h':Heap} {F G:Nat->Prop} {p m:Nat} {ov:SV} {room:Int} {L:List AP} {ks:List Int} {q:Int->Nat} (r:CIn h F p m ov room L ks q) (c:Chg G h h') (hg:∀b,F b->¬G b):CIn h' F p m ov room L ks q:=
 ⟨r.mp.chg c (fun b g f=>absurd g (hg b f)) (fun _ f=>f),r.od.chg c (hg _ r.fp) (fun b hb=>hg _ (r.fo b hb)),r.fp,r.fo,fun b hb=>kP (r.lt b hb) c.size,r.len,r.sm⟩
theorem CRep.chg {h h':Heap} {F G:Nat->Prop} {p:Nat} {room:Int} {L:List AP} (r:CRep h F p room L) (c:Chg G h h') (hg:∀b,F b->¬G b):CRep h' F p room L:=
 let ⟨m,ov,ks,q,r⟩:=r;⟨m,ov,ks,q,r.chg c hg⟩
theorem CRep.lt {h:Heap} {F:Nat->Prop} {p:Nat} {room:Int} {L:List AP} (r:CRep h F p room L):∀b,F b->b<h.size:=let ⟨_,_,_,_,r⟩:=r;r.lt
theorem cnew_any {h:Heap} {room:Int} :
  Hc 137 #[.J room] h (fun v h'=>(¬(1<=room/\room<=1048576)/\v=.tuple #[.pointer none,.J 1]/\h'=h)\/
   ((1<=room/\room<=1048576)/\∃p F,v=.tuple #[ptr p,.J 0]/\CRep h' F p room []/\Ext h h'/\∀b,F b->h.size<=b)):=by
 refine HC.body Tryz.func137 rfl (by kernel_rfl) 14 rfl rfl ?_;refine HW.seq fun K1 hK1=>?_;refine HW.region ?_;refine HO.v (V.asP rfl) rfl 2 rfl rfl ?_;refine HO.v (V.asI rfl) rfl 3 rfl rfl ?_;refine HO.nil ?_;refine hK1 _ _ ?_;refine HW.seq fun K2 hK2=>?_;refine HW.seq fun K3 hK3=>?_;refine HW.region ?_;refine HO.v (V.mvI rfl) rfl 4 rfl rfl ?_;refine HO.v (V.lss rfl rfl rfl) rfl 5 rfl rfl ?_;refine HO.v (V.mvB rfl) rfl 6 rfl rfl ?_;refine HO.spl (fun hb2=>?_) (fun hb2=>?_)
 ·
  refine HO.no rfl 7 rfl rfl ?_;refine HO.no rfl 8 rfl rfl ?_;refine HO.v (V.pick_t rfl rfl) rfl 9 rfl rfl ?_;refine HO.nil ?_;refine hK3 _ _ ?_;refine HW.cond_t rfl ?_;refine HW.seq fun K4 hK4=>?_;refine HW.region ?_;refine HO.v (V.asP rfl) rfl 2 rfl rfl ?_;refine HO.v (V.asI rfl) rfl 3 rfl rfl ?_;refine HO.nil ?_;refine hK4 _ _ ?_;refine HW.ret ?_;refine ⟨.tuple #[.pointer none,.J 1],Res.two rfl rfl rfl,.inl ⟨(by have:=of_decide_eq_true hb2;omega),rfl,rfl⟩⟩
 ·
  refine HO.v (V.mvI rfl) rfl 7 rfl rfl ?_;refine HO.v (V.gtr rfl rfl rfl) rfl 8 rfl rfl ?_;refine HO.v (V.pick_f rfl rfl) rfl 9 rfl rfl ?_;refine HO.nil ?_;refine hK3 _ _ ?_;refine HW.cond rfl (fun hc=>?_) (fun hc=>?_)
  ·
   refine HW.seq fun K5 hK5=>?_;refine HW.region ?_;refine HO.v (V.asP rfl) rfl 2 rfl rfl ?_;refine HO.v (V.asI rfl) rfl 3 rfl rfl ?_;refine HO.nil ?_;refine hK5 _ _ ?_;refine HW.ret ?_;refine ⟨.tuple #[.pointer none,.J 1],Res.two rfl rfl rfl,.inl ⟨(by have:=of_decide_eq_true hc;omega),rfl,rfl⟩⟩
  refine HW.skip ?_;refine hK2 _ _ ?_;refine HW.seq fun K6 hK6=>?_;refine HW.region ?_;refine HO.v (V.mvI rfl) rfl 10 rfl rfl ?_;refine HO.e (V.makeMap) rfl 11 rfl rfl ?_;refine HO.v (V.build (cs:=#[.N,.J room,.map (some h.size)]) T.zr267 T.pl267 rfl) rfl 12 rfl rfl ?_;refine HO.e (V.boxA rfl) rfl 13 rfl rfl ?_;refine HO.v (V.asP rfl) rfl 2 rfl rfl ?_;refine HO.v (V.asI rfl) rfl 3 rfl rfl ?_;refine HO.nil ?_;refine hK6 _ _ ?_;refine HW.ret ?_;refine ⟨.tuple #[ptr (h.push (.map #[] 0)).size,.J 0],Res.two rfl rfl rfl,.inr ⟨(by have:=of_decide_eq_false hc;have:=of_decide_eq_false hb2;omega),_,(fun b=>b=h.size\/b=(h.push (.map #[] 0)).size),rfl,⟨h.size,(none,0,0),[],fun _=>0,?_⟩,(Ext.push _ _).trans (Ext.push _ _),?_⟩⟩
  ·refine ⟨⟨MapT.new (push_other (push_same _ _)),fun k=>by simp [nos],by simp [nos],fun x hx=>by simp at hx,fun x hx=>by simp at hx,.inl rfl⟩,⟨push_same _ _,Cap.nil _ _ _⟩,.inr rfl,fun b hb=>?_,?_,by simp,fun x hx=>by simp at hx⟩
   ·obtain ⟨o,n,c,hv⟩:=hb;cases hv
   ·rintro b (rfl | rfl)<;>simp<;>omega
  ·rintro b (rfl | rfl)<;>simp
def cl (s:List Int) (L:List AP):List AP:=L.map fun x=>if x.no∈s then ⟨x.no,x.b,false⟩ else x
def COk (S:Nat->Option (List UInt8)) (x:AP):Prop:=1<=x.no/\S (x.no-1).toNat=some x.b
structure CSt (h:Heap) (c:Nat) (F:Nat->Prop) (S:Nat->Option (List UInt8)) (room:Int) (L:List AP):Prop where
 rep:CRep h F c room L
 r1:1<=room
 r2:room<=1048576
 len:(L.length:Int)<=room
 ok:∀x∈L,COk S x
@[reducible] def cacI (c:Nat) (F:Nat->Prop) (S:Nat->Option (List UInt8)):Itm:=⟨fun h=>∃room L,CSt h c F S room L,F,fun _ _ _ cg d ⟨room,L,q⟩=>⟨room,L,⟨q.rep.chg cg d,q.r1,q.r2,q.len,q.ok⟩⟩⟩
theorem cnewA_any {h:Heap} {room:Int} (S:Nat->Option (List UInt8)) :
  Hc 137 #[.J room] h (fun v h'=>(¬(1<=room/\room<=1048576)/\v=.tuple #[.pointer none,.J 1]/\Ext h h')\/
   ((1<=room/\room<=1048576)/\∃c F,v=.tuple #[.P c,.J 0]/\Ext h h'/\(cacI c F S).p h'/\∀j,F j->Nw h h' j)):=by
 refine (cnew_any (h:=h) (room:=room)).mono fun v h' q=>?_;rcases q with ⟨h1,h2,h3⟩ | ⟨h1,p,F,hv,hr,hx,hn⟩
 ·exact .inl ⟨h1,h2,by rw [h3];exact Ext.refl _⟩
 ·exact .inr ⟨h1,p,F,hv,hx,⟨room,[],hr,h1.1,h1.2,by simp;omega,by simp⟩,fun j hj=>⟨hn j hj,hr.lt j hj⟩⟩
structure RB where
 a:Option Addr
 c:Nat
 l:List UInt8
structure RA where
 fr:Nat
 nd:Nat
 link:Nat
 am:Nat
 at_:List (Int × Nat)
 in_:Bool
 many:Nat
 bm:Option Nat
 bs:List (Int × RB)
 d:Nat
 rd:RD
 size:Nat
 sure:Nat
 c:Nat
 cF:Nat->Prop
 S:Nat->Option (List UInt8)
 dark:Bool
def iv' (n:Nat):Value:=.J (n:Int)
def atE (l:List (Int × Nat)):List (Int × Value):=l.map fun p=>(p.1,iv' p.2)
def bsV (x:RB):Value:=.slice x.a x.l.length x.c
def bsE (l:List (Int × RB)):List (Int × Value):=l.map fun p=>(p.1,bsV p.2)
@[reducible] def aboxI (p:Nat) (r:RA):Itm:=boxI p 220 [.J (r.fr:Int),.J (r.nd:Int),.int .u64 (r.link:Int),.map (some r.am),.bool r.in_,.J (r.many:Int),.map r.bm,.pointer (some ⟨r.d,0,none⟩),.J (r.size:Int),.J (r.sure:Int),.pointer (some ⟨r.c,0,none⟩),.bool r.dark]
def nowI (bm:Option Nat) (bs:List (Int × RB)):Itm:=match bm with
 | none=>anyI none_ (fun _=>True) (fun _ _ _ _ _ _=>trivial)
 | some m=>mapI (Value.int .i64) m (bsE bs)
def Pbs (h:Heap) (E:Nat->Prop) (bs:List (Int × RB)):Prop:=∀x∈bs,RdL h E E (x.2.a,x.2.l.length,x.2.c) x.2.l
@[reducible] def pbsI (E:Nat->Prop) (bs:List (Int × RB)):Itm:=⟨fun h=>Pbs h E bs,E,fun _ _ _ c d b x hx=>(b x hx).st c d d⟩
section
variable {h h':Heap} {E E':Nat->Prop} {bs:List (Int × RB)} {k:Int} {x:RB}
theorem Pbs.get (b:Pbs h E bs) (hg:mget bs k=some x):RdL h E E (x.a,x.l.length,x.c) x.l:=b _ (mget_mem hg)
theorem Pbs.mono (hE:∀j,E j->E' j) (b:Pbs h E bs):Pbs h E' bs:=fun x hx=>(b x hx).mono hE hE
theorem Pbs.nil:Pbs h E []:=fun x hx=>by cases hx
theorem Pbs.put (b:Pbs h E bs) (hx:RdL h E E (x.a,x.l.length,x.c) x.l):Pbs h E (mput bs k x):=fun y hy=>by
 rcases mem_mput hy with rfl | hy
 ·exact hx
 ·exact b y hy
end
end Go.Proofs.YtfegfklipbnhjaaGreat
namespace Go.HL
open Go Go.Proofs.YtfegfklipbnhjaaGreat
section
variable {h0 h h':Heap} {D G:Nat->Prop} {M R:List Itm} {p:Nat} {r r':RA} {E E':Nat->Prop}
theorem Hp.nowNil {bs:List (Int × RB)} (ok:Hp h0 D M R h):Hp h0 D (nowI none bs::M) R h:=ok.newM (Ext.refl _) _ trivial (fun _ f=>f.elim)
theorem Hp.pbsPut {Q:Nat->Prop} {bs:List (Int × RB)} {k:Int} {a:Option Addr} {c:Nat} {l:List UInt8} (ok:Hp h0 D (capI 1 5 (a,l.length,c) (l.map bv)::M) (pbsI Q bs::R) h):Hp h0 D M (pbsI (fun j=>Q j\/blkC (sv (a,l.length,c)) j) (mput bs k ⟨a,c,l⟩)::R) h:=by
 have o:Hp h0 D M (rdI (blkC (sv (a,l.length,c))) none_ (a,l.length,c) l::pbsI Q bs::R) h:=ok.frzB rfl;have o2:=o.or (r:=pbsI Q bs) (r':=rdI (blkC (sv (a,l.length,c))) none_ (a,l.length,c) l) (by simp) (by simp) (pbsI (fun j=>Q j\/blkC (sv (a,l.length,c)) j) (mput bs k ⟨a,c,l⟩))
  (Pbs.put (Pbs.mono (fun j h=>.inl h) o.r1) ((show RdL h (blkC (sv (a,l.length,c))) none_ (a,l.length,c) l from o.r0).mono (fun j h=>.inr h) (fun j f=>f.elim))) (fun j h=>h.imp id .inl)
 exact o2.sub (by simp;intro a h;exact .inr (.inr (.inr h)))
theorem Hp.pbsNil {Q:Nat->Prop} {bs:List (Int × RB)} (ok:Hp h0 D M (pbsI Q bs::R) h):Hp h0 D M (pbsI Q []::R) h:=(ok.d0 (pbsI Q []) Pbs.nil).sub (by simp;intro a h;exact .inr (.inr h))
theorem Hp.nowSome {m:Nat} {bs:List (Int × RB)} (ok:Hp h0 D (nowI (some m) bs::M) R h):Hp h0 D (mapI (Value.int .i64) m (bsE bs)::M) R h:=ok
theorem Hp.liftN {a:Itm} {l:List Itm} (ok:Hp h0 D (a::M) R h) (q:Hp h a.F l [] h'):Hp h0 D (l++M) R h':=
 Hp.unstar (ok.lift1 (b:=starI l) (Hp.star (M:=[]) (by simpa using q)))
theorem Hp.lift2 {a b c:Itm} (ok:Hp h0 D (a::M) R h) (q:Hp h a.F [b,c] [] h'):Hp h0 D (b::c::M) R h':=ok.liftN q
end
open Go
theorem OpC.inv {P:Program} {s:Slots} {h:Heap} {d:Option Tmp} {ty t:TypeId} {pos name:String} {af:Array Edge} {g:Option (Nat × Bool)} {x:Operand} {xs:Array Operand} {ts:Array TypeId} {f:FuncId} {v rv:Value} {args:List Value} (hm:∀w:World,(method (P.types.size+Made.depth) t v name).run P w=.ok (f,rv) w) (hx:ev s x=.iface t v:=by exact rfl) (ha:rv::xs.toList.map (ev s)=args:=by exact rfl) :
  OpC P ⟨d,.call ⟨.invoke x name,xs,ts⟩,ty,pos,af,g⟩ s h f args.toArray:=fun w _ hc=>by
 subst ha;obtain ⟨fn,h1,h2,h3⟩:=hc;have h2' : ¬ fn.name = "runtime.NumGoroutine" := by simpa using h2
 have h3':¬fn.body=none:=by intro e;simp [e] at h3
 have hm':=hm w;have h0:((#[Value.iface t v]:Array Value)++xs.map (ev s))[0]? = some (.iface t v):=by simp [Array.getElem?_append]
 have e0:(xs.map (ev s)).extract 0 xs.size=xs.map (ev s):=by simp
 have ea:(#[rv]:Array Value)++xs.map (ev s)=(rv::xs.toList.map (ev s)).toArray:=by apply Array.ext';simp
 simp [execOp,resolve,invoke,callMethod,hx,h0,e0,hm',callFunc,h1,h2',h3',ea]
def ifB (P:Program) (t:TypeId):Option Bool:=(P.underlying t).map fun | .interface _=>true | _=>false
theorem OpV.mkI {P:Program} {s:Slots} {h:Heap} {d:Option Tmp} {ty t:TypeId} {pos:String} {af:Array Edge} {g:Option (Nat × Bool)} {x:Operand} {v:Value} (ht:ifB P t=some false) (hx:ev s x=v:=by exact rfl):OpV P ⟨d,.makeInterface t x,ty,pos,af,g⟩ s h (.iface t v):=fun w _=>by
 unfold ifB at ht;cases hu:P.underlying t with
 | none=>rw [hu] at ht;cases ht
 | some u=>
  rw [hu] at ht;cases u<;>first | (simp at ht;done) | simp [execOp,Instr.makeInterface,run_underlying hu,hx]
open Go.Proofs.YtfegfklipbnhjaaGreat
section
variable {l':List Itm}
section
variable {h0 h h':Heap} {D:Nat->Prop} {M R:List Itm}
theorem Hp.locL (l:List Itm) (ok:Hp h0 D (l++M) R h):Hp h (starI l).F l R h:=by
 have o:=Hp.star ok;refine ⟨Chg.refl _ _,fun i hi=>⟨(ok.m i (qU _ hi)).1,fun j hj=>⟨((ok.m i (qU _ hi)).2 j hj).1,.inl ⟨i,hi,hj⟩⟩⟩,ok.r,(List.pairwise_append.1 ok.mm).1,fun a ha b hb=>ok.mr a (qU _ ha) b hb⟩
theorem Hp.liftL (l:List Itm) (ok:Hp h0 D (l++M) R h) (q:Hp h (starI l).F l' [] h'):Hp h0 D (l'++M) R h':=
 Hp.unstar ((Hp.star ok).lift1 (b:=starI l') (Hp.star (M:=[]) (by simpa using q)))
variable {i0 i1 i2 i3 i4 i5 i6:Itm}
theorem Hp.lc1 (ok:Hp h0 D (i0::M) R h):Hp h (starI [i0]).F [i0] R h:=Hp.locL [i0] ok
theorem Hp.lf1 (ok:Hp h0 D (i0::M) R h) (q:Hp h (starI [i0]).F l' [] h'):Hp h0 D (l'++M) R h':=Hp.liftL [i0] ok q
theorem Hp.lc2 (ok:Hp h0 D (i0::i1::M) R h):Hp h (starI [i0,i1]).F [i0,i1] R h:=Hp.locL [i0,i1] ok
theorem Hp.lf2 (ok:Hp h0 D (i0::i1::M) R h) (q:Hp h (starI [i0,i1]).F l' [] h'):Hp h0 D (l'++M) R h':=Hp.liftL [i0,i1] ok q
theorem Hp.lc3 (ok:Hp h0 D (i0::i1::i2::M) R h):Hp h (starI [i0,i1,i2]).F [i0,i1,i2] R h:=Hp.locL [i0,i1,i2] ok
theorem Hp.lf3 (ok:Hp h0 D (i0::i1::i2::M) R h) (q:Hp h (starI [i0,i1,i2]).F l' [] h'):Hp h0 D (l'++M) R h':=Hp.liftL [i0,i1,i2] ok q
theorem Hp.lc4 (ok:Hp h0 D (i0::i1::i2::i3::M) R h):Hp h (starI [i0,i1,i2,i3]).F [i0,i1,i2,i3] R h:=Hp.locL [i0,i1,i2,i3] ok
theorem Hp.lf4 (ok:Hp h0 D (i0::i1::i2::i3::M) R h) (q:Hp h (starI [i0,i1,i2,i3]).F l' [] h'):Hp h0 D (l'++M) R h':=Hp.liftL [i0,i1,i2,i3] ok q
theorem Hp.lc5 (ok:Hp h0 D (i0::i1::i2::i3::i4::M) R h):Hp h (starI [i0,i1,i2,i3,i4]).F [i0,i1,i2,i3,i4] R h:=Hp.locL [i0,i1,i2,i3,i4] ok
theorem Hp.lf5 (ok:Hp h0 D (i0::i1::i2::i3::i4::M) R h) (q:Hp h (starI [i0,i1,i2,i3,i4]).F l' [] h'):Hp h0 D (l'++M) R h':=Hp.liftL [i0,i1,i2,i3,i4] ok q
theorem Hp.lc6 (ok:Hp h0 D (i0::i1::i2::i3::i4::i5::M) R h):Hp h (starI [i0,i1,i2,i3,i4,i5]).F [i0,i1,i2,i3,i4,i5] R h:=Hp.locL [i0,i1,i2,i3,i4,i5] ok
theorem Hp.lf6 (ok:Hp h0 D (i0::i1::i2::i3::i4::i5::M) R h) (q:Hp h (starI [i0,i1,i2,i3,i4,i5]).F l' [] h'):Hp h0 D (l'++M) R h':=Hp.liftL [i0,i1,i2,i3,i4,i5] ok q
end
end
end Go.HL
namespace Go.Proofs.YtfegfklipbnhjaaGreat
open Go Go.HL
@[reducible] def pv (p:Nat):Value:=.P p
structure Pgr where
 α:Type
 it:Nat->(Nat->Prop)->α->Itm
 sure:α->List (List UInt8)
 tid:TypeId
 fPages:FuncId
 fRead:FuncId
 mPages : ∀ (p : Nat) (w : World), (method (Tryz.prog.types.size + Made.depth) tid (pv p) "Pages").run Tryz.prog w = .ok (fPages, pv p) w
 mRead : ∀ (p : Nat) (w : World), (method (Tryz.prog.types.size + Made.depth) tid (pv p) "Read").run Tryz.prog w = .ok (fRead, pv p) w
 cPages:∀ {h:Heap} {p:Nat} {F:Nat->Prop} {a:α},(it p F a).p h->Hc fPages #[pv p] h (fun v h'=>v=.J ((sure a).length:Int)/\h'=h)
 cRead:∀ {h:Heap} {p:Nat} {F:Nat->Prop} {a:α} {no:Int} {b:List UInt8},Hp h (it p F a).F [it p F a] [] h->1<=no->(sure a)[(no-1).toNat]? = some b->
  Hc fRead #[pv p,.J no] h (fun v h'=>∃F' a' x c,v=.tuple #[.slice x b.length c,.J 0]/\sure a'=sure a/\Hp h (it p F a).F [capI 1 5 (x,b.length,c) (b.map bv),it p F' a'] [] h')
structure RSv where
 many:Nat
 m:Nat
 ov:List (Int × RB)
def RSv.cells (x:RSv):List Value:=[.J (x.many:Int),.map (some x.m)]
structure RS (α:Type) where
 p:Nat
 lg:Option Addr
 z:Nat
 in_:Bool
 many:Nat
 om:Option Nat
 ov:List (Int × RB)
 sa:Option Addr
 sc:Nat
 sv:List RSv
 pF:Nat->Prop
 a:α
@[reducible] def sboxI (G:Pgr) (s:Nat) (r:RS G.α):Itm:=boxI s 136 [.iface G.tid (pv r.p),.pointer r.lg,.J (r.z:Int),.bool r.in_,.J (r.many:Int),.map r.om,.slice r.sa r.sv.length r.sc,.bool false]
@[reducible] def scapI {α:Type} (r:RS α):Itm:=capI 2 130 (r.sa,r.sv.length,r.sc) (r.sv.flatMap RSv.cells)
def Svs (h:Heap) (E:Nat->Prop) (sv:List RSv):Prop:=∀x∈sv,MapT (Value.int .i64) h x.m (bsE x.ov)/\E x.m/\Pbs h E x.ov
@[reducible] def svsI (E:Nat->Prop) (sv:List RSv):Itm:=⟨fun h=>Svs h E sv,E,fun _ _ _ c d b x hx=>⟨(b x hx).1.chg c (d _ (b x hx).2.1),(b x hx).2.1,fun y hy=>((b x hx).2.2 y hy).st c d d⟩⟩
def stL (G:Pgr) (s:Nat) (r:RS G.α):List Itm:=[sboxI G s r,nowI r.om r.ov,scapI r,G.it r.p r.pF r.a]
def stF (G:Pgr) (s:Nat) (r:RS G.α):Nat->Prop:=(starI (stL G s r)).F
structure SVw (G:Pgr) (r:RS G.α) (w:St):Prop where
 z:r.z=w.z
 in_:r.in_=w.in_
 sure:G.sure r.a=w.sure
 now:w.in_=true->(∃m,r.om=some m)/\VW RB.l r.ov r.many w.sure w.now
 out:w.in_=false->r.om=none/\r.many=0/\r.ov=[]/\r.sv=[]
 sv:All2 (fun (x:RSv) S=>VW RB.l x.ov x.many w.sure S) r.sv w.saves
 ok:StOk w
structure DsP (G:Pgr) (h:Heap) (s:Nat) (F:Nat->Prop) (w:St) (r:RS G.α) (E:Nat->Prop):Prop where
 co:(starI (stL G s r)).p h
 b:Pbs h E r.ov
 v:Svs h E r.sv
 f:∀j,stF G s r j->F j
 e:∀j,E j->F j
 ne:∀j,stF G s r j->¬E j
 V:SVw G r w
@[reducible] def dsI (G:Pgr) (s:Nat) (F:Nat->Prop) (w:St):Itm:=⟨fun h=>∃r E,DsP G h s F w r E,F,fun _ _ _ c g ⟨r,E,q⟩=>⟨r,E,(starI (stL G s r)).st _ _ _ c (fun j hj=>g j (q.f j hj)) q.co,(pbsI E r.ov).st _ _ _ c (fun j hj=>g j (q.e j hj)) q.b,(svsI E r.sv).st _ _ _ c (fun j hj=>g j (q.e j hj)) q.v,q.f,q.e,q.ne,q.V⟩⟩
section
variable {G:Pgr} {h h' h0:Heap} {s:Nat} {F D E E':Nat->Prop} {w w':St} {r r':RS G.α} {M R:List Itm}
theorem ds_ok (ok:(dsI G s F w).p h):StOk w:=let ⟨_,_,q⟩:=ok;q.V.ok
theorem ds_box (ok:(dsI G s F w).p h):∃r:RS G.α,SVw G r w/\(sboxI G s r).p h/\(G.it r.p r.pF r.a).p h:=by
 obtain ⟨r,E,q⟩:=ok;exact ⟨r,q.V,q.co.1 (sboxI G s r) (by simp [stL]),q.co.1 (G.it r.p r.pF r.a) (by simp [stL])⟩
theorem ds_open (ok:Hp h F [dsI G s F w] R h):∃r E,SVw G r w/\Hp h (stF G s r) [sboxI G s r,nowI r.om r.ov,scapI r,G.it r.p r.pF r.a] (pbsI E r.ov::svsI E r.sv::R) h/\(∀j,stF G s r j->F j)/\∀j,E j->F j:=by
 obtain ⟨r,E,q⟩:=ok.m0;have hl:=(ok.m (dsI G s F w) (by simp)).2;have o:Hp h (stF G s r) [starI (stL G s r)] (pbsI E r.ov::svsI E r.sv::R) h:=by
  refine ⟨Chg.refl _ _,fun i hi=>by rw [qS.1 hi];exact ⟨q.co,fun j hj=>⟨(hl j (q.f j hj)).1,.inl hj⟩⟩,fun i hi=>?_,List.pairwise_singleton _ _,fun a ha b hb=>?_⟩
  ·rcases qK.1 hi with rfl | hi
   ·exact ⟨q.b,fun j hj=>(hl j (q.e j hj)).1⟩
   rcases qK.1 hi with rfl | hi
   ·exact ⟨q.v,fun j hj=>(hl j (q.e j hj)).1⟩
   ·exact ok.r i hi
  ·rw [qS.1 ha];rcases qK.1 hb with rfl | hb
   ·exact q.ne
   rcases qK.1 hb with rfl | hb
   ·exact q.ne
   ·exact fun j hj=>ok.mr (dsI G s F w) (by simp) b hb j (q.f j hj)
 exact ⟨r,E,q.V,Hp.unstar o,q.f,q.e⟩
theorem ds_close (q:Hp h D (sboxI G s r'::nowI r'.om r'.ov::scapI r'::G.it r'.p r'.pF r'.a::M) (pbsI E' r'.ov::svsI E' r'.sv::R) h') (hD:∀j,D j->F j) (hE:∀j,E' j->F j\/h.size<=j) (V:SVw G r' w'):Hp h F (dsI G s (fun j=>stF G s r' j\/E' j) w'::M) [] h':=by
 have q:Hp h D (starI (stL G s r')::M) (pbsI E' r'.ov::svsI E' r'.sv::R) h':=Hp.star (l:=stL G s r') q;have hm:=kK.1 q.mm;refine ⟨q.chg.mono fun j _=>hD j,fun i hi=>?_,by simp,kK.2 ⟨fun b hb j hj hb2=>?_,hm.2⟩,by simp⟩
 ·rcases qK.1 hi with rfl | hi
  ·refine ⟨⟨r',E',q.m0,(q.r (pbsI E' r'.ov) (by simp)).1,(q.r (svsI E' r'.sv) (by simp)).1,fun j hj=>.inl hj,fun j hj=>.inr hj,q.mr (starI (stL G s r')) (by simp) (pbsI E' r'.ov) (by simp),V⟩,fun j hj=>?_⟩;rcases hj with hj | hj
   ·have:=(q.m _ qX).2 j hj;exact ⟨this.1,this.2.imp (hD j) id⟩
   ·exact ⟨(q.r _ qX).2 j hj,hE j hj⟩
  ·have:=q.m i (qQ _ hi);exact ⟨this.1,fun j hj=>⟨(this.2 j hj).1,(this.2 j hj).2.imp (hD j) id⟩⟩
 ·rcases hj with hj | hj
  ·exact hm.1 b hb j hj hb2
  ·exact q.mr b (qQ _ hb) _ qX j hb2 hj
end
end Go.Proofs.YtfegfklipbnhjaaGreat
namespace Go.HL
open Go
theorem OpA.cpz {P:Program} {s:Slots} {h:Heap} {d:Option Tmp} {ty:TypeId} {pos:String} {af:Array Edge} {g:Option (Nat × Bool)} {x y:Operand} {t t' e:TypeId} {a a':Option Addr} {n c c':Nat}
  (ht:elB P t=some e) (hk:szB P e=some 1) (hx:ev s x=.slice a n c:=by exact rfl) (hy:ev s y=.slice a' 0 c':=by exact rfl) :
  OpA P ⟨d,.call ⟨.builtin .copy,#[x,y],#[t,t']⟩,ty,pos,af,g⟩ s h (fun v h'=>v=.J 0/\h'=h):=fun E w at'=>by
 refine ⟨_,h,w,⟨rfl,rfl⟩,at',?_⟩;have hf:(Builtin.firstCells 1 0 (.slice a' 0 c')).run P w=.ok #[] w:=by cases a'<;>simp [Builtin.firstCells,loadCells,loadCellsFrom]
 cases a<;>simp [execOp,resolve,invoke,builtin,hx,hy,Builtin.copy_,run_und (elB_iff ht),Builtin.lenOf,run_szB hk,goInt,hf,storeCells]
end Go.HL
namespace Go.Proofs.YtfegfklipbnhjaaGreat
open Go Go.HL
section
variable {p n:Nat} {l b:List UInt8}
def put2 (l:List UInt8) (p n:Nat):List UInt8:=l.take p++fixedN n 2++l.drop (p+2)
theorem put2_spl : spl (l.map bv) (p*1) ((fixedN n 2).map bv)=(put2 l p n).map bv:=by
 unfold spl put2;rw [Nat.mul_one,kJ,kJ,List.map_take,List.map_drop,qM,fixedN_len]
theorem put2_len (h:p+2<=l.length):(put2 l p n).length=l.length:=by unfold put2;simp [fixedN_len];omega
def sputB (l:List UInt8) (p:Nat) (b:List UInt8):List UInt8:=l.take p++b++l.drop (p+b.length)
theorem putB_spl : spl (l.map bv) (p*1) (b.map bv)=(sputB l p b).map bv:=by
 unfold spl sputB;rw [Nat.mul_one,kJ,kJ,List.map_take,List.map_drop,qM]
theorem putB_app {x y w:List UInt8} (hp:p=x.length) (h:y.length=b.length):sputB (x++(y++w)) p b=x++(b++w):=by
 subst hp;unfold sputB;rw [List.take_left,<-List.drop_drop,List.drop_left,List.drop_left' h,qZ]
theorem put2_app {x y w:List UInt8} (hp:p=x.length) (h:y.length=2):put2 (x++(y++w)) p n=x++(fixedN n 2++w):=by
 subst hp;unfold put2;rw [List.take_left,<-List.drop_drop,List.drop_left,List.drop_left' h,qZ]
theorem putB_len (h:p+b.length<=l.length):(sputB l p b).length=l.length:=by unfold sputB;simp;omega
theorem sset_any {h:Heap} {D:Nat->Prop} {pb m c hd:Nat} {a:Option Addr} (ok:Hp h D [boxI pb 306 [.slice a m c,.J (hd:Int)],capI 1 5 (a,m,c) (l.map bv)] [] h) (hp:p+2<=l.length) (hn:n<65536) (hN:l.length<=1000000) :
  Hc 221 #[.P pb,.J (p:Int),.J (n:Int)] h (fun v h'=>v=.tuple #[]/\Hp h D [boxI pb 306 [.slice a m c,.J (hd:Int)],capI 1 5 (a,m,c) ((put2 l p n).map bv)] [] h'):=by
 have hm:=ok.n1.lenB;refine HC.go Tryz.func221 16 ?_;refine .a 10 (fun fl hh=>Hp h D [boxI pb 306 [.slice a m c,.J (hd:Int)]] [] hh) mixed ?_;have hS:=ok.k1;refine .g 0 false rfl 6 hS (fun _=>.mvP)<|.g 1 false rfl 7 hS (fun _=>.nil)<|.g 2 false rfl 8 hS (fun _=>.fa T.fd306_0)<|.lw 3 false rfl 9 hS (fun _ _ hS=>.ldx T.ag35 hS.m0)<|.g 4 false rfl 10 hS (fun _=>.mvI)<|.g 5 false rfl 11 hS (fun _=>.sll p T.el35 T.sz5)<|.g 6 false rfl 12 hS (fun _=>.mvI)<|.g 7 false rfl 13 hS (fun _=>.cvs T.in207 T.in3 (M:=18446744073709551616) rfl rfl)<|.o1 8<|.c' false rfl 14 .func (fixed_any (n:=n) (size:=2) (by omega) (by omega) (by omega)) ?_;rintro _ U1 own;obtain ⟨ya1,yc1,rfl⟩:=own.formB;have ok:=ok.own own;refine ⟨ok.n1.k1,?_⟩;have hS:=ok.n1.k1;refine .o1 9<|.a' false rfl 15 (.cpyA (n:=m) (ys:=(fixedN n 2).map bv) (m:=(fixedN n 2).length) p T.el35 T.sz5 ok.n2 ok.n2.m1.sl bv_all rfl (him:=by rw [fixedN_len];omega)) ?_;rintro _ U2 ⟨rfl,ok,cg⟩;refine ⟨ok.n2.k1,?_⟩;have hS:=ok.n2.k1;refine .e ?_;refine .end<|⟨.tuple #[],Res.none rfl,⟨rfl,((ok.n2.n1).k2.cx put2_spl).n1⟩⟩
theorem slay_any {h:Heap} {F E D:Nat->Prop} {pb m c hd t bc:Nat} {a ba:Option Addr} (ok:Hp h D [boxI pb 306 [.slice a m c,.J (hd:Int)],capI 1 5 (a,m,c) (l.map bv)] [rdI F E (ba,b.length,bc) b] h) (hp:b.length+2<=t) (ht:t<=l.length) (hn:b.length<65536) (hN:l.length<=1000000) :
  Hc 220 #[.P pb,.J (t:Int),.slice ba b.length bc] h (fun v h'=>v=.J ((t-2-b.length:Nat):Int)/\Hp h D [boxI pb 306 [.slice a m c,.J (hd:Int)],capI 1 5 (a,m,c) ((sputB (put2 l (t-2-b.length) b.length) (t-2-b.length+2) b).map bv)] [] h'):=by
 have hm:=ok.n1.lenB;have hbm:=ok.r0.m;have hbc:=ok.r0.c;simp only at hbm hbc;have hpl:=put2_len (l:=l) (p:=t-2-b.length) (n:=b.length) (by omega);refine HC.go Tryz.func220 28 ?_;refine .s<|.z .asI<|.nil ?_;refine .s<|.z .mvI<|.z .sub<|.z .mvS<|.z (.len T.el35)<|.z .sub<|?_;rw [show (((t:Int)-2)-(b.length:Int))=(((t-2-b.length):Nat):Int) from by omega];refine .z .asI<|.nil ?_;refine .s<|.z .mvP<|.z .mvI<|.z .mvS<|.z (.len T.el35)<|.c' 17 .func (sset_any (p:=(t-2-b.length)) (n:=b.length) (l:=l) (Hp.lc2 (ok).e0) (by omega) (by omega) (by omega)) ?_;rintro _ U1 ⟨rfl,q⟩;have ok:=Hp.lf2 (ok) q;refine .nil ?_;refine .s<|.z .mvP<|.z .nil<|.z (.fa T.fd306_0)<|.z (.ldx T.ag35 ok.m0)<|.z .mvI<|.z (.addI (b:=2))<|.z (.sll (t-2-b.length+2) T.el35 T.sz5)<|.z .mvS<|.a' 26 (.cpyA (n:=m) (ys:=b.map bv) (m:=b.length) (t-2-b.length+2) T.el35 T.sz5 ok.n1 ok.n1.r0.by bv_all rfl (him:=by omega)) ?_;rintro _ U2 ⟨rfl,ok,cg⟩;refine .nil ?_;refine .s<|.z .mvI<|.z .asI<|.nil ?_;refine .ret ⟨.J (((t-2-b.length):Nat):Int),Res.one rfl rfl,⟨rfl,((ok).k2.cx putB_spl).n1.e0⟩⟩
end
open Go Go.HL
theorem ins_canS {z:Nat} {fr b:List UInt8} {cs:List (List UInt8)} (hf:fr.length+2+2*(cs.length+1)+(tS cs+(2+b.length))<=z):put2 (put2 (sputB (put2 (canS z fr cs) (z-tS cs-2-b.length) b.length) (z-tS cs-2-b.length+2) b) (fr.length+2+2*cs.length) (z-tS cs-2-b.length)) fr.length (cs.length+1)=canS z fr (cs++[b]):=by
 obtain ⟨K,hK⟩:∃K,z-fr.length-2-2*cs.length-tS cs=2+(K+(2+b.length)):=⟨z-fr.length-2-2*cs.length-tS cs-2-(2+b.length),by omega⟩;have hp:=plS_len (z:=z) (cs:=cs) (t:=0);have e0:canS z fr cs=(fr++(fixedN cs.length 2++(plS z 0 cs++(List.replicate 2 0++List.replicate K 0))))++(List.replicate 2 0++(List.replicate b.length 0++tlS cs)):=by
  unfold canS;rw [hK,<-List.replicate_append_replicate (n:=2),<-List.replicate_append_replicate (n:=K),<-List.replicate_append_replicate (n:=2) (m:=b.length)];simp only [qZ]
 rw [e0,put2_app (by simp only [qA,kW,fixedN_len,hp];omega) (by simp)];rw [<-qZ,putB_app (by simp only [qA,kW,fixedN_len,hp];omega) (by simp)];have e1:(fr++(fixedN cs.length 2++(plS z 0 cs++(List.replicate 2 0++List.replicate K 0)))++fixedN b.length 2)++(b++tlS cs)=(fr++(fixedN cs.length 2++plS z 0 cs))++(List.replicate 2 (0:UInt8)++(List.replicate K 0++(fixedN b.length 2++(b++tlS cs)))):=by simp only [qZ]
 rw [e1,put2_app (by simp only [qA,fixedN_len,hp];omega) (by simp),qZ,qZ,put2_app rfl (fixedN_len _ _)];unfold canS;rw [plS_snoc,tlS_app,tS_app,tS_cons,tS_nil,qA,show z-fr.length-2-2*(cs.length+[b].length)-(tS cs+(2+b.length+0))=K by simp only [qV,qB];omega,show z-(0+tS cs+(2+b.length))=z-tS cs-2-b.length by omega];show _=fr++(fixedN (cs.length+1) 2++((plS z 0 cs++_)++(List.replicate K 0++(([]++(fixedN b.length 2++b))++tlS cs))));simp only [qZ,kI]
theorem smay_any {h:Heap} {size head:Int} :
  Hc 212 #[.J size,.J head] h (fun v h'=>v=.bool (decide (256<=size/\size<=4096/\0<=head/\head<=64))/\h'=h):=by
 refine HC.go Tryz.func212 19 ?_;refine .s<|.z .asB<|.nil<|.s<|.z .mvI<|.z .geq<|.z .mvB<|.sd (fun G7=>?_) (fun G7=>?_)
 ·
  refine .z .mvI<|.z .leq<|.z .pkt<|.z .mvB<|.sd (fun G11=>?_) (fun G11=>?_)
  ·
   refine .z .mvI<|.z .geq<|.z .pkt<|.z .mvB<|.sd (fun G15=>?_) (fun G15=>?_)
   ·
    refine .z .mvI<|.z .leq<|.z .pkt<|.z .asB<|.nil<|.ret ⟨.bool (decide (head<=64)),Res.one rfl rfl,⟨congrArg _ (by first | (rw [decide_eq_decide];omega) | exact (decide_eq_false (by omega)).symm),rfl⟩⟩
   refine .y<|.y<|.z .pkf<|.z .asB<|.nil<|.ret ⟨.bool false,Res.one rfl rfl,⟨congrArg _ (by first | (rw [decide_eq_decide];omega) | exact (decide_eq_false (by omega)).symm),rfl⟩⟩
  refine .y<|.y<|.z .pkf<|.z .mvB<|.y<|.y<|.z .pkf<|.z .asB<|.nil<|.ret ⟨.bool false,Res.one rfl rfl,⟨congrArg _ (by first | (rw [decide_eq_decide];omega) | exact (decide_eq_false (by omega)).symm),rfl⟩⟩
 refine .y<|.y<|.z .pkf<|.z .mvB<|.y<|.y<|.z .pkf<|.z .mvB<|.y<|.y<|.z .pkf<|.z .asB<|.nil<|.ret ⟨.bool false,Res.one rfl rfl,⟨congrArg _ (by first | (rw [decide_eq_decide];omega) | exact (decide_eq_false (by omega)).symm),rfl⟩⟩
theorem snew_any {h:Heap} {z hd:Nat} (hz:256<=z/\z<=4096) (hh:hd<=64) :
  Hc 164 #[.J (z:Int),.J (hd:Int)] h (fun v h'=>∃pb a,v=.tuple #[.P pb,.J 0]/\Hp h none_ [boxI pb 306 [.slice a z z,.J (hd:Int)],capI 1 5 (a,z,z) ((List.replicate z (0:UInt8)).map bv)] [] h'):=by
 have ok:=Hp.nil h none_;refine HC.go Tryz.func164 15 ?_;refine .s<|.z .asP<|.z .asI<|.nil<|.seq<|.s<|.z .mvI<|.z .mvI<|.k 8 .func (smay_any (size:=(z:Int)) (head:=(hd:Int)))<|.z .notd<|.nil<|.cd (fun C0=>?_) (fun C0=>?_)
 ·
  exact absurd C0 (by omega)
 refine .skip<|.s<|.z .mvI<|.a' 11 (.mks z z T.el35 T.sz5 T.by5 T.zr5 ok) ?_;rintro _ U1 ⟨pb1,rfl,ok,xe⟩;have ok:=ok.cx (ys:=(List.replicate z (0:UInt8)).map bv) (zeros8 _);refine .z .mvI<|.z (.bd #[.slice (some ⟨pb1,0,none⟩) z z,.J (hd:Int)] T.zr306 T.pl306 rfl)<|.a' 14 (.bxA (cs:=[.slice (some ⟨pb1,0,none⟩) z z,.J (hd:Int)]) ok) ?_;rintro _ U2 ⟨pb2,rfl,ok,xe⟩;refine .z .asP<|.z .asI<|.nil<|.ret ⟨.tuple #[.P pb2,.J 0],Res.two rfl rfl rfl,⟨pb2,some ⟨pb1,0,none⟩,rfl,(ok).k2⟩⟩
theorem sins_any {h:Heap} {F E D:Nat->Prop} {pb m c hd z bc:Nat} {a ba:Option Addr} {fr b:List UInt8} {cs:List (List UInt8)} (ok:Hp h D [boxI pb 306 [.slice a m c,.J (hd:Int)],capI 1 5 (a,m,c) ((canS z fr cs).map bv)] [rdI F E (ba,b.length,bc) b] h) (hfr:fr.length=hd) (hz:z<=4096) (hroom:hd+2+2*(cs.length+1)+(tS cs+(2+b.length))<=z) :
  Hc 166 #[.P pb,.J (cs.length:Int),.slice ba b.length bc] h (fun v h'=>v=.J 0/\Hp h D [boxI pb 306 [.slice a m c,.J (hd:Int)],capI 1 5 (a,m,c) ((canS z fr (cs++[b])).map bv)] [] h'):=by
 have hcr:fr.length+2+2*cs.length+tS cs<=z:=by omega
 have hcl:=canS_len hcr;obtain rfl:m=(canS z fr cs).length:=ok.n1.lenB;have hcc:(canS z fr cs).length<=c:=Cap.le ok.n1.m0;have hbm:=ok.r0.m;have hbc:=ok.r0.c;simp only at hbm hbc;have hmn:mnS (canS z fr cs) hd=cs.length:=by rw [<-hfr];exact canS_mn hz hcr
 have hat:∀i,i<cs.length->atS (canS z fr cs) hd i=z-tS (cs.take (i+1)):=fun i hi=>by rw [<-hfr];exact canS_at hz hcr hi
 have hln:∀i (hi:i<cs.length),lnS (canS z fr cs) hd i=cs[i].length:=fun i hi=>by rw [<-hfr];exact canS_ln hz hcr hi
 have hpl1:=put2_len (l:=canS z fr cs) (p:=z-tS cs-2-b.length) (n:=b.length) (by omega);have hpl2:=putB_len (l:=put2 (canS z fr cs) (z-tS cs-2-b.length) b.length) (b:=b) (p:=z-tS cs-2-b.length+2) (by omega);have hpl3:=put2_len (l:=sputB (put2 (canS z fr cs) (z-tS cs-2-b.length) b.length) (z-tS cs-2-b.length+2) b) (p:=hd+2+2*cs.length) (n:=z-tS cs-2-b.length) (by omega);refine HC.go Tryz.func166 87 ?_;refine .s<|.z .asI<|.nil<|.seq<|.block fun K0 hK0=>.s<|.z .mvP<|.z (.pEqS T.pt246)<|.z .asB<|.nil<|.cf<|.s<|.z .mvI<|.z .lss<|.z .mvB<|.sd (fun G15=>?_) (fun G15=>?_)
 ·
  omega
 refine .z .mvI<|.z .mvP<|.k 18 .func (smany_any (pb:=pb) (hd:=hd) (a:=a) (c:=c) (l:=(canS z fr cs)) (RdL.ofCapB (v:=(a,(canS z fr cs).length,c)) (l:=(canS z fr cs)) ok.m1) ok.m0 (by omega) (by omega))<|?_;rw [show (mnS (canS z fr cs) hd)=cs.length from hmn];refine .z .gtr<|.z .pkf<|.z .asB<|.nil<|.cd (fun C1=>?_) (fun C1=>?_)
 ·
  omega
 refine .s<|.z .mvP<|.k 23 .func (sleft_any (pb:=pb) (hd:=hd) (a:=a) (c:=c) (l:=(canS z fr cs)) (RdL.ofCapB (v:=(a,(canS z fr cs).length,c)) (l:=(canS z fr cs)) ok.m1) ok.m0 (by omega) (z:=z) (cs:=cs) hcl hmn (by omega) hat hln)<|.z .mvS<|.z (.len T.el35)<|.z (.addI (a:=4))<|.z .lss<|.z .asB<|.nil<|.cd (fun C2=>?_) (fun C2=>?_)
 ·
  omega
 refine .skip<|.end<|hK0 _ _<|.s<|.z .mvP<|.k 29 .func (smany_any (pb:=pb) (hd:=hd) (a:=a) (c:=c) (l:=(canS z fr cs)) (RdL.ofCapB (v:=(a,(canS z fr cs).length,c)) (l:=(canS z fr cs)) ok.m1) ok.m0 (by omega) (by omega))<|?_;rw [show (mnS (canS z fr cs) hd)=cs.length from hmn];refine .z .asI<|.nil<|.seq<|.s<|.z .mvP<|.k 31 .func (stop_any (pb:=pb) (hd:=hd) (a:=a) (c:=c) (l:=(canS z fr cs)) (RdL.ofCapB (v:=(a,(canS z fr cs).length,c)) (l:=(canS z fr cs)) ok.m1) ok.m0 (by omega) (z:=z) (cs:=cs) hcl hmn (by omega) hat hln)<|.z .sub<|.z .mvS<|.z (.len T.el35)<|.z .sub<|.z .mvP<|.z .mvI<|.z (.addI (b:=1))<|.k 39 .func (sslot_any (pb:=pb) (hd:=hd) (i:=(cs.length+1)) ok.m0 (by omega))<|.z .lss<|.nil<|.cd (fun C3=>?_) (fun C3=>?_)
 ·
  omega
 refine .skip<|.s<|.z .mvP<|.z .mvP<|.k 45 .func (stop_any (pb:=pb) (hd:=hd) (a:=a) (c:=c) (l:=(canS z fr cs)) (RdL.ofCapB (v:=(a,(canS z fr cs).length,c)) (l:=(canS z fr cs)) ok.m1) ok.m0 (by omega) (z:=z) (cs:=cs) hcl hmn (by omega) hat hln)<|.z .mvS<|.c' 47 .func (slay_any (t:=(z-tS cs)) (l:=(canS z fr cs)) (b:=b) (Hp.lc2 (ok)) (by omega) (by omega) (by omega) (by omega)) ?_;rintro _ U1 ⟨rfl,q⟩;have ok:=Hp.lf2 (ok) q;refine .z .asI<|.nil<|.seq<|.a 25 (fun fl hh=>Hp h D [boxI pb 306 [.slice a ((canS z fr cs).length) c,.J (hd:Int)],capI 1 5 (a,(canS z fr cs).length,c) ((sputB (put2 (canS z fr cs) ((z-tS cs)-2-b.length) b.length) ((z-tS cs)-2-b.length+2) b).map bv)] [rdI F E (ba,b.length,bc) b] hh) mixed ?_;have hS:=ok;refine .g 0 false rfl 48 hS (fun _=>.mvP)<|.g 1 false rfl 49 hS (fun _=>.nil)<|.g 2 false rfl 50 hS (fun _=>.fa T.fd306_0)<|.lw 3 false rfl 51 hS (fun _ _ hS=>.ldx T.ag35 hS.m0)<|.g 4 false rfl 52 hS (fun _=>.mvP)<|.g 5 false rfl 53 hS (fun _=>.mvI)<|.g 6 false rfl 54 hS (fun _=>.addI (b:=1))<|.g 8 false rfl 56 hS (fun _=>.mvP)<|.g 9 false rfl 57 hS (fun _=>.mvI)<|.g 10 false rfl 58 hS (fun _=>.addI (b:=1))<|.g 13 false rfl 61 hS (fun _=>.mvP)<|.g 14 false rfl 62 hS (fun _=>.nil)<|.g 15 false rfl 63 hS (fun _=>.fa T.fd306_0)<|.lw 16 false rfl 64 hS (fun _ _ hS=>.ldx T.ag35 hS.m0)<|.g 17 false rfl 65 hS (fun _=>.mvP)<|.g 18 false rfl 66 hS (fun _=>.mvI)<|.g 20 false rfl 68 hS (fun _=>.mvP)<|.g 21 false rfl 69 hS (fun _=>.mvI)<|.o1 7<|.k false rfl 55 .func (sslot_any (pb:=pb) (hd:=hd) (i:=(cs.length+1)) ok.m0 (by omega)) hS<|.o1 11<|.k false rfl 59 .func (sslot_any (pb:=pb) (hd:=hd) (i:=(cs.length+1)) ok.m0 (by omega)) hS<|.g 12 false rfl 60 hS (fun _=>.slh (hd+2+2*(cs.length+1)) (hd+2+2*(cs.length+1)) T.el35 T.sz5)<|.o1 19<|.k false rfl 67 .func (sslot_any (pb:=pb) (hd:=hd) (i:=cs.length) ok.m0 (by omega)) hS<|.o1 22<|.k false rfl 70 .func (sslot_any (pb:=pb) (hd:=hd) (i:=cs.length) ok.m0 (by omega)) hS<|.g 23 false rfl 71 hS (fun _=>.slh (hd+2+2*cs.length) (hd+2+2*cs.length) T.el35 T.sz5)<|?_;simp only [Nat.sub_self];refine .o1 24<|.a' false rfl 72 (.cpz T.el35 T.sz5) ?_;rintro _ _ ⟨rfl,rfl⟩;refine ⟨ok,?_⟩;have hS:=ok;refine .e ?_;refine .s<|.z .mvP<|.z .mvP<|.z .mvI<|.k 76 .func (sslot_any (pb:=pb) (hd:=hd) (i:=cs.length) ok.m0 (by omega))<|.z .mvI<|.c' 78 .func (sset_any (p:=(hd+2+2*cs.length)) (n:=((z-tS cs)-2-b.length)) (l:=(sputB (put2 (canS z fr cs) ((z-tS cs)-2-b.length) b.length) ((z-tS cs)-2-b.length+2) b)) (Hp.lc2 (ok).e0) (by omega) (by omega) (by omega)) ?_;rintro _ U2 ⟨rfl,q⟩;have ok:=Hp.lf2 (ok) q;refine .nil ?_;refine .s<|.z .mvP<|.z .mvP<|.z .nil<|.z (.fa T.fd306_1)<|.z (.ldx T.ag3 ok.m0)<|.z .mvI<|.z (.addI (b:=1))<|.c' 86 .func (sset_any (p:=hd) (n:=(cs.length+1)) (l:=(put2 (sputB (put2 (canS z fr cs) ((z-tS cs)-2-b.length) b.length) ((z-tS cs)-2-b.length+2) b) (hd+2+2*cs.length) ((z-tS cs)-2-b.length))) (Hp.lc2 (ok).e0) (by omega) (by omega) (by omega)) ?_;rintro _ U3 ⟨rfl,q⟩;have ok:=Hp.lf2 (ok) q;refine .nil ?_;refine .s<|.z .asI<|.nil<|.ret ⟨.J 0,Res.one rfl rfl,⟨rfl,by have e:=ins_canS (z:=z) (fr:=fr) (cs:=cs) (b:=b) (by omega);rw [hfr] at e;have o:=(ok.n1).k2.cx (congrArg (List.map bv) e);exact o.n1.e0⟩⟩
theorem _root_.Go.HL.Cap.i64s {h:Heap} {e:TypeId} {l:List Int} {b o n c:Nat} (r:Cap h 1 e (.slice (some ⟨b,o,none⟩) n c) (l.map iv)) {i:Nat} (hi:i<l.length):cell h b (o+i)=some (.J l[i]):=by
 obtain ⟨b',o',he,hc⟩:=r.sl.cells.pos (by have:=r.sl.cells.1;simp at this;omega);injection he with he;injection he with e1 e2;subst e1 e2;exact hc i _ (by simp [iv,hi])
def ownN (l:List UInt8) (h i:Nat):List Int:=(List.range l.length).map fun q=>((cntS l h i q:Nat):Int)
def ownM (l:List UInt8) (h i a k:Nat):List Int:=(List.range l.length).map fun q=>((cntS l h i q+(if a<=q/\q<k then 1 else 0):Nat):Int)
theorem cntS_le {l:List UInt8} {h q:Nat} : ∀ {i:Nat},cntS l h i q<=i
 | 0=>qR _
 | i+1=>by unfold cntS;have:=cntS_le (l:=l) (h:=h) (q:=q) (i:=i);split<;>omega
section
variable {l:List UInt8} {h i a k:Nat}
theorem ownN_len:(ownN l h i).length=l.length:=by simp [ownN]
theorem ownM_len:(ownM l h i a k).length=l.length:=by simp [ownM]
theorem ownN_0:ownN l h 0=List.replicate l.length 0:=by
 apply List.ext_getElem (by simp [ownN]);intro i h1 h2;simp [ownN,cntS]
theorem ownM_0:ownM l h i a a=ownN l h i:=by
 unfold ownM ownN;refine List.map_congr_left fun q _=>?_;rw [if_neg (by omega),Nat.add_zero]
theorem ownM_at {q:Nat} (hq:q<(ownM l h i a k).length):(ownM l h i a k)[q]=((cntS l h i q+(if a<=q/\q<k then 1 else 0):Nat):Int):=by simp [ownM]
theorem ownN_at {q:Nat} (hq:q<(ownN l h i).length):(ownN l h i)[q]=((cntS l h i q:Nat):Int):=by simp [ownN]
theorem ownM_s (ha:a<=k):(ownM l h i a k).set k ((cntS l h i k+1:Nat):Int)=ownM l h i a (k+1):=by
 apply List.ext_getElem (by simp [ownM]);intro q h1 h2;rw [List.getElem_set,ownM_at,ownM_at];by_cases e:k=q
 ·subst e;rw [if_pos rfl,if_pos (by omega)]
 ·rw [if_neg e];congr 2;by_cases h3:a<=q/\q<k
  ·rw [if_pos h3,if_pos (by omega)]
  ·rw [if_neg h3,if_neg (by omega)]
theorem ownM_e (hb:k=a) (ha:a=atS l h i):ownM l h i a (atS l h i+2+lnS l h i)=ownN l h (i+1):=by subst ha;rfl
end
theorem zerosI (n:Nat):(List.range (n*1)).map ((Value.J 0).cells[· % (Value.J 0).cells.size]!)=(List.replicate n (0:Int)).map iv:=by
 rw [Nat.mul_one];apply List.ext_getElem (by simp);intro i h1 h2;simp only [List.getElem_map,List.getElem_replicate,List.getElem_range];show (#[Value.J 0])[i%1]! = _;rw [Nat.mod_one];rfl
theorem ssound_any {h:Heap} {D:Nat->Prop} {pb c hd:Nat} {a:Option Addr} {l:List UInt8} (ok:Hp h D [boxI pb 306 [.slice a l.length c,.J (hd:Int)],capI 1 5 (a,l.length,c) (l.map bv)] [] h) (hN:66<=l.length/\l.length<=4096) (hh:hd<=64) :
  Hc 250 #[.P pb] h (fun v h'=>v=.bool (decide (SndS l hd))/\Hp h D [boxI pb 306 [.slice a l.length c,.J (hd:Int)],capI 1 5 (a,l.length,c) (l.map bv)] [] h'):=by
 have hmb:=mnS_lt l hd;refine HC.go Tryz.func250 109 ?_;refine .s<|.z .asB<|.nil<|.s<|.z .mvP<|.z .mvP<|.k 13 .func (smany_any (pb:=pb) (hd:=hd) (a:=a) (c:=c) (l:=l) (RdL.ofCapB (v:=(a,l.length,c)) (l:=l) ok.m1) ok.m0 (by omega) (by omega))<|.k 14 .func (sslot_any (pb:=pb) (hd:=hd) (i:=(mnS l hd)) ok.m0 (by omega))<|.z .asI<|.nil<|.seq<|.s<|.z .mvI<|.z .mvP<|.z .nil<|.z (.fa T.fd306_0)<|.z (.ldx T.ag35 ok.m0)<|.z (.len T.el35)<|.z .gtr<|.nil<|.cd (fun C0=>?_) (fun C0=>?_)
 ·
  refine .s<|.z .asB<|.nil<|.ret ⟨.bool false,Res.one rfl rfl,⟨congrArg _ (decide_eq_false (fun S=>by have:=S.e;omega)).symm,(ok).k2⟩⟩
 refine .skip<|.s<|.z .mvP<|.z .nil<|.z (.fa T.fd306_0)<|.z (.ldx T.ag35 ok.m0)<|.z (.len T.el35)<|.a' 27 (.mks l.length l.length T.el93 T.sz3 T.by3 T.zr3 ok) ?_;rintro _ U1 ⟨pb1,rfl,ok,xe⟩;have ok:=ok.cx (ys:=(ownN l hd 0).map iv) (by rw [ownN_0];exact zerosI _);refine .z .asS<|.nil<|.seq<|.s<|.z .mvP<|.k 29 .func (smany_any (pb:=pb) (hd:=hd) (a:=a) (c:=c) (l:=l) (RdL.ofCapB (v:=(a,l.length,c)) (l:=l) ok.m2) ok.m1 (by omega) (by omega))<|.z .mvI<|.nil<|.block fun K0 hK0=>.loop (fun m s hh=>∃(i:Nat),Has s [(0,.P pb),(3,.J (((hd+2+2*(mnS l hd)):Nat):Int)),(4,.slice (some ⟨pb1,0,none⟩) l.length l.length),(29,.J (((mnS l hd):Nat):Int)),(30,.J (i:Int))]/\Hp h D [capI 1 3 (some ⟨pb1,0,none⟩,l.length,l.length) ((ownN l hd i).map iv),boxI pb 306 [.slice a l.length c,.J (hd:Int)],capI 1 5 (a,l.length,c) (l.map bv)] [] hh/\i<=mnS l hd/\(∀j,j<i->hd+2+2*mnS l hd<=atS l hd j/\atS l hd j+2<=l.length/\atS l hd j+2+lnS l hd j<=l.length)/\m=mnS l hd-i) ?_ ?_
 ·exact ⟨_,0,⟨rfl,rfl,rfl,rfl,rfl,trivial⟩,(ok).k3,qL _,fun j h=>absurd h (Nat.not_lt_zero _),rfl⟩
 rintro _ _ U2 ⟨i,hs,ok,hi,hci,rfl⟩ J0 hJ0;refine .frame hs fun τ=>?_;refine .s<|.z .lss<|.nil<|.seq<|.cdr (fun C1=>?_) (fun C1=>?_)
 ·
  refine .exit<|hK0 _ _<|.seq<|.seq<|?_;obtain rfl:i=mnS l hd:=by omega
  refine .r<|.z .mvI<|.z .asI<|.nil<|.block fun K4 hK4=>.loop (fun m s hh=>∃(q:Nat),Has s [(0,.P pb),(4,.slice (some ⟨pb1,0,none⟩) l.length l.length),(10,.J (q:Int))]/\Hp h D [capI 1 3 (some ⟨pb1,0,none⟩,l.length,l.length) ((ownN l hd (mnS l hd)).map iv),boxI pb 306 [.slice a l.length c,.J (hd:Int)],capI 1 5 (a,l.length,c) (l.map bv)] [] hh/\hd+2+2*mnS l hd<=q/\q<=l.length/\(∀j,hd+2+2*mnS l hd<=j->j<q->cntS l hd (mnS l hd) j<=1/\(cntS l hd (mnS l hd) j=0->l.getD j 0=0))/\m=l.length-q) ?_ ?_
  ·exact ⟨_,(hd+2+2*mnS l hd),⟨rfl,rfl,rfl,trivial⟩,(ok).k3,qR _,by omega,fun j h1 h2=>absurd h1 (by omega),rfl⟩
  rintro _ _ U3 ⟨q,hs,ok,hq1,hq2,hqo,rfl⟩ J2 hJ2;refine .frame hs fun τ=>?_;refine .seq<|.s<|.z .mvI<|.z .mvP<|.z .nil<|.z (.fa T.fd306_0)<|.z (.ldx T.ag35 ok.m1)<|.z (.len T.el35)<|.z .lss<|.nil<|.cdr (fun C5=>?_) (fun C5=>?_)
  ·
   refine .exit<|hK4 _ _<|.s<|.z .asB<|.nil<|.ret ⟨.bool true,Res.one rfl rfl,⟨congrArg _ (decide_eq_true (⟨by omega,hci,fun j h1 h2=>hqo j h1 (by omega)⟩:SndS l hd)).symm,(ok.n2.n2).k2⟩⟩
  refine .skip<|.seq<|.block fun K5 hK5=>.seq<|?_;have hql:q<l.length:=by omega
  have hol:=ownN_len (l:=l) (h:=hd) (i:=mnS l hd);have hov:(ownN l hd (mnS l hd))[q]=((cntS l hd (mnS l hd) q:Nat):Int):=ownN_at _;have hcle:=cntS_le (l:=l) (h:=hd) (q:=q) (i:=mnS l hd);have hg:l.getD q 0=l[q]:=by simp [hql]
  refine .r<|.z .mvS<|.z .mvI<|.z (.ix1 q T.el93 T.sz3)<|.z (.ld T.ag3 (Cap.i64s (l:=(ownN l hd (mnS l hd))) ok.m0 (i:=q) (by omega)))<|?_;rw [hov];refine .z .gtr<|.z .mvB<|.sd (fun G92=>?_) (fun G92=>?_)
  ·
   refine .y<|.y<|.y<|.y<|.y<|.y<|.y<|.y<|.y<|.y<|.y<|.y<|.y<|.y<|.y<|.z .pkt<|.nil<|.ct<|.s<|.z .asB<|.nil<|.ret ⟨.bool false,Res.one rfl rfl,⟨congrArg _ (decide_eq_false (fun S=>by have h9:=S.o q hq1 hql;rw [hg] at h9;have h10:cntS l hd (mnS l hd) q=0->l[q].toNat=0:=(fun h=>by rw [h9.2 h];rfl);omega)).symm,(ok.n2.n2).k2⟩⟩
  refine .z .mvS<|.z .mvI<|.z (.ix1 q T.el93 T.sz3)<|.z (.ld T.ag3 (Cap.i64s (l:=(ownN l hd (mnS l hd))) ok.m0 (i:=q) (by omega)))<|?_;rw [hov];refine .z .eql<|.z .mvB<|.sd (fun G98=>?_) (fun G98=>?_)
  ·
   refine .z .mvP<|.z .nil<|.z (.fa T.fd306_0)<|.z (.ldx T.ag35 ok.m1)<|.z .mvI<|?_;obtain ⟨bb1,oo1,rfl,fb1⟩:=ok.m2.pos (n:=l.length) (by omega);refine .z (.ix1 q T.el35 T.sz5)<|.z (.ld T.ag5 (Cap.u8 ok.m2 (i:=q) (by omega)))<|.z .neq<|.z .pkt<|.z .pkf<|.nil<|.cd (fun C6=>?_) (fun C6=>?_)
   ·
    refine .s<|.z .asB<|.nil<|.ret ⟨.bool false,Res.one rfl rfl,⟨congrArg _ (decide_eq_false (fun S=>by have h9:=S.o q hq1 hql;rw [hg] at h9;have h10:cntS l hd (mnS l hd) q=0->l[q].toNat=0:=(fun h=>by rw [h9.2 h];rfl);omega)).symm,(ok.n2.n2).k2⟩⟩
   have hqn:∀j,hd+2+2*mnS l hd<=j->j<q+1->cntS l hd (mnS l hd) j<=1/\(cntS l hd (mnS l hd) j=0->l.getD j 0=0):=fun j h1 h2=>by
    rcases Nat.lt_or_eq_of_le (Nat.le_of_lt_succ h2) with h | h
    ·exact hqo j h1 h
    ·rw [h];exact ⟨by omega,fun h0=>by rw [hg];exact UInt8.toNat_inj.1 (by show l[q].toNat=0;omega)⟩
   refine .skip<|.end<|hK5 _ _<|.r<|.z .mvI<|.z (.addI (b:=1))<|.z .asI<|.nil<|.end<|hJ2 _ _ _ ⟨q+1,⟨rfl,rfl,rfl,trivial⟩,(ok).k3,by omega,by omega,hqn,rfl⟩ (by omega)
  have hqn:∀j,hd+2+2*mnS l hd<=j->j<q+1->cntS l hd (mnS l hd) j<=1/\(cntS l hd (mnS l hd) j=0->l.getD j 0=0):=fun j h1 h2=>by
   rcases Nat.lt_or_eq_of_le (Nat.le_of_lt_succ h2) with h | h
   ·exact hqo j h1 h
   ·rw [h];exact ⟨by omega,fun h0=>by rw [hg];exact UInt8.toNat_inj.1 (by show l[q].toNat=0;omega)⟩
  refine .y<|.y<|.y<|.y<|.y<|.y<|.y<|.y<|.z .pkf<|.z .pkf<|.nil<|.cf<|.skip<|.end<|hK5 _ _<|.r<|.z .mvI<|.z (.addI (b:=1))<|.z .asI<|.nil<|.end<|hJ2 _ _ _ ⟨q+1,⟨rfl,rfl,rfl,trivial⟩,(ok).k3,by omega,by omega,hqn,rfl⟩ (by omega)
 have hil:i<mnS l hd:=by omega
 have hab:=atS_lt l hd i;have hlb:=lnS_lt l hd i;refine .skip<|.seq<|.block fun K1 hK1=>.s<|.z .mvI<|.z .asI<|.nil<|.s<|.z .mvP<|.z .mvP<|.z .mvI<|.k 36 .func (sslot_any (pb:=pb) (hd:=hd) (i:=i) ok.m1 (by omega))<|.k 37 .func (snum_any (pb:=pb) (hd:=hd) (a:=a) (c:=c) (l:=l) (RdL.ofCapB (v:=(a,l.length,c)) (l:=l) ok.m2) ok.m1 (by omega) (p:=(hd+2+2*i)) (by omega))<|?_;rw [show (rdN l (hd+2+2*i) 2)=(atS l hd i) from rfl];refine .z .asI<|.nil<|.seq<|.s<|.z .mvI<|.z .mvI<|.z .lss<|.z .mvB<|.sd (fun G41=>?_) (fun G41=>?_)
 ·
  refine .y<|.y<|.y<|.y<|.y<|.y<|.y<|.y<|.z .pkt<|.nil<|.ct<|.s<|.z .asB<|.nil<|.ret ⟨.bool false,Res.one rfl rfl,⟨congrArg _ (decide_eq_false (fun S=>by have:=S.c i hil;omega)).symm,(ok.n2.n2).k2⟩⟩
 refine .z .mvI<|.z (.addI (b:=2))<|.z .mvP<|.z .nil<|.z (.fa T.fd306_0)<|.z (.ldx T.ag35 ok.m1)<|.z (.len T.el35)<|.z .gtr<|.z .pkf<|.nil<|.cd (fun C2=>?_) (fun C2=>?_)
 ·
  refine .s<|.z .asB<|.nil<|.ret ⟨.bool false,Res.one rfl rfl,⟨congrArg _ (decide_eq_false (fun S=>by have:=S.c i hil;omega)).symm,(ok.n2.n2).k2⟩⟩
 refine .skip<|.s<|.z .mvP<|.z .mvI<|.k 54 .func (sspan_any (pb:=pb) (hd:=hd) (a:=a) (c:=c) (l:=l) (RdL.ofCapB (v:=(a,l.length,c)) (l:=l) ok.m2) ok.m1 (by omega) (i:=i) (by omega) (by omega))<|.z .mvU<|.z .ex<|.z .ex<|.z .asI<|.z .asI<|.nil<|.seq<|.s<|.z .mvI<|.z .mvP<|.z .nil<|.z (.fa T.fd306_0)<|.z (.ldx T.ag35 ok.m1)<|.z (.len T.el35)<|.z .gtr<|.nil<|.cd (fun C3=>?_) (fun C3=>?_)
 ·
  refine .s<|.z .asB<|.nil<|.ret ⟨.bool false,Res.one rfl rfl,⟨congrArg _ (decide_eq_false (fun S=>by have:=S.c i hil;omega)).symm,(ok.n2.n2).k2⟩⟩
 refine .skip<|.s<|.z .mvI<|.z .asI<|.nil<|.block fun K2 hK2=>.loop (fun m s hh=>∃(k:Nat),Has s [(0,.P pb),(3,.J (((hd+2+2*(mnS l hd)):Nat):Int)),(4,.slice (some ⟨pb1,0,none⟩) l.length l.length),(8,.J (((atS l hd i+2+lnS l hd i):Nat):Int)),(9,.J (k:Int)),(29,.J (((mnS l hd):Nat):Int)),(30,.J (i:Int))]/\Hp h D [capI 1 3 (some ⟨pb1,0,none⟩,l.length,l.length) ((ownM l hd i (atS l hd i) k).map iv),boxI pb 306 [.slice a l.length c,.J (hd:Int)],capI 1 5 (a,l.length,c) (l.map bv)] [] hh/\atS l hd i<=k/\k<=atS l hd i+2+lnS l hd i/\m=atS l hd i+2+lnS l hd i-k) ?_ ?_
 ·exact ⟨_,atS l hd i,⟨rfl,rfl,rfl,rfl,rfl,rfl,rfl,trivial⟩,((ok).cx (ys:=(ownM l hd i (atS l hd i) (atS l hd i)).map iv) (by rw [ownM_0])).k3,qR _,by omega,rfl⟩
 rintro _ _ U4 ⟨k,hs,ok,hk1,hk2,rfl⟩ J1 hJ1;refine .frame hs fun τ=>?_;refine .seq<|.s<|.z .mvI<|.z .mvI<|.z .lss<|.nil<|.cdr (fun C4=>?_) (fun C4=>?_)
 ·
  refine .exit<|hK2 _ _<|.end<|hK1 _ _<|?_;obtain rfl:k=atS l hd i+2+lnS l hd i:=by omega
  have ok:=(ok).cx (ys:=(ownN l hd (i+1)).map iv) (by rw [<-ownM_e rfl rfl]);refine .r<|.z (.addI (b:=1))<|.z .mvI<|.nil<|.end<|hJ0 _ _ _ ⟨i+1,⟨rfl,rfl,rfl,rfl,rfl,trivial⟩,(ok).k3,by omega,fun j hj=>by
   rcases Nat.lt_or_eq_of_le (Nat.le_of_lt_succ hj) with h | rfl
   ·exact hci j h
   ·exact ⟨by omega,by omega,by omega⟩,rfl⟩ (by omega)
 refine .skip<|.seq<|.block fun K3 hK3=>?_;have hkl:k<l.length:=by omega
 have hol:=ownM_len (l:=l) (h:=hd) (i:=i) (a:=atS l hd i) (k:=k);have hcle:=cntS_le (l:=l) (h:=hd) (q:=k) (i:=i);have hov:(ownM l hd i (atS l hd i) k)[k]=((cntS l hd i k:Nat):Int):=by rw [ownM_at,if_neg (by omega),Nat.add_zero]
 refine .r<|.z .mvS<|.z .mvI<|.z (.ix1 k T.el93 T.sz3)<|.z (.ld T.ag3 (Cap.i64s (l:=(ownM l hd i (atS l hd i) k)) ok.m0 (i:=k) (by omega)))<|?_;rw [hov];refine .z (.addI (b:=1))<|.z (.ix1 k T.el93 T.sz3)<|.ur' (.sxI (q:=k) T.sz3 ok) ?_;rintro U5 ⟨ok,cg⟩;refine .nil ?_;refine .end<|hK3 _ _<|?_;have ok:=(ok).cx (ys:=(ownM l hd i (atS l hd i) (k+1)).map iv) (by rw [<-ownM_s hk1];simp [iv]);refine .r<|.z .mvI<|.z (.addI (b:=1))<|.z .asI<|.nil<|.end<|hJ1 _ _ _ ⟨k+1,⟨rfl,rfl,rfl,rfl,rfl,rfl,rfl,trivial⟩,(ok).k3,by omega,by omega,rfl⟩ (by omega)
end Go.Proofs.YtfegfklipbnhjaaGreat
namespace Go.HL
open Go
theorem Hp.locMB {h0 h:Heap} {D:Nat->Prop} {M R:List Itm} {a:Itm} {e:TypeId} {x:SV} {l:List UInt8} (ok:Hp h0 D (a::capI 1 e x (l.map bv)::M) R h):Hp h a.F [a] [rdI (blkC (sv x)) none_ x l] h:=
 ⟨Chg.refl _ _,fun i hi=>by
  rw [qS.1 hi];exact ⟨ok.m0,fun j hj=>⟨((ok.m a qX).2 j hj).1,.inl hj⟩⟩,fun i hi=>by
  rw [qS.1 hi];exact ⟨ok.n1.frzB rfl |>.r0,fun j hj=>((ok.m _ (qQ _ qX)).2 j (hj.elim id False.elim)).1⟩,List.pairwise_singleton _ _,fun y hy z hz j hj hj2=>by
  rw [qS.1 hy] at hj;rw [qS.1 hz] at hj2;exact (kK.1 ok.mm).1 _ qX j hj (hj2.elim id False.elim)⟩
theorem RdL.cut3 {α:Type} [Rep α] {h:Heap} {F E:Nat->Prop} {a:Option Addr} {n c:Nat} {l:List α} (r:RdL h F E (a,n,c) l) {i j:Nat} (hij:i<=j) (hj:j<=n):RdL h F E (cutA a i j (Rep.k α),j-i,j-i) ((l.drop i).take (j-i)):=by
 have hc:n<=c:=r.c;have hm:c<=9223372036854775807:=r.m;rcases Nat.lt_or_eq_of_le hij with h | h
 ·have h1:=(r.cut hij hj).clip;have e:cutA a i j (Rep.k α)=cutA a i c (Rep.k α):=by unfold cutA;rw [if_neg (by omega),if_neg (by omega)]
  rw [e];exact h1
 ·subst h;exact ⟨by simp,qR _,by show i-i<=_;omega,fun hp=>absurd hp (by simp)⟩
end Go.HL
namespace Go.Proofs.YtfegfklipbnhjaaGreat
open Go Go.HL
section
variable {h:Heap} {F E:Nat->Prop} {a:Option Addr} {c hd:Nat} {l:List UInt8}
theorem cell_rd {i:Nat} (r:RdL h F E (a,l.length,c) l) (h1:atS l hd i+2+lnS l hd i<=l.length):RdL h F E (cutA a (atS l hd i+2) (atS l hd i+2+lnS l hd i) 1,(cllS l hd i).length,atS l hd i+2+lnS l hd i-(atS l hd i+2)) (cllS l hd i):=by
 have q:=r.cut3 (i:=atS l hd i+2) (j:=atS l hd i+2+lnS l hd i) (by omega) h1;have e2:atS l hd i+2+lnS l hd i-(atS l hd i+2)=lnS l hd i:=by omega
 have e3:(cllS l hd i).length=lnS l hd i:=by unfold cllS;simp;omega
 rw [e2] at q⊢;rw [e3];exact q
theorem sbytes_any {D:Nat->Prop} {pb:Nat} (ok:Hp h D [boxI pb 306 [.slice a l.length c,.J (hd:Int)]] [rdI F E (a,l.length,c) l] h) (hN:l.length<=1000000) :
  Hc 167 #[.P pb] h (fun v h'=>∃x n c',v=.slice x n c'/\Hp h D [capI 1 5 (x,n,c') (l.map bv),boxI pb 306 [.slice a l.length c,.J (hd:Int)]] [] h'):=by
 refine HC.go Tryz.func167 10 ?_;refine .s<|.z .asS<|.nil<|.seq<|.s<|.z .mvP<|.z (.pEqS T.pt246)<|.nil<|.cf<|.skip<|.s<|.z .mvP<|.z .nil<|.z (.fa T.fd306_0)<|.z (.ldx T.ag35 ok.m0)<|.c' 9 .func (sclone_any (a:=a) (c:=c) (l:=l) ok.r0 (by omega)) ?_;rintro _ U1 own;obtain ⟨ya1,yc1,rfl⟩:=own.formB;have ok:=ok.own own;refine .z .asS<|.nil<|.ret ⟨.slice ya1 ((l).length) yc1,Res.one rfl rfl,⟨ya1,(l).length,yc1,rfl,(ok).k2.e0⟩⟩
theorem scell_any {D:Nat->Prop} {pb i:Nat} (ok:Hp h D [boxI pb 306 [.slice a l.length c,.J (hd:Int)]] [rdI F E (a,l.length,c) l] h) (hN:l.length<=4096) (S:SndS l hd) (hi:i<mnS l hd) :
  Hc 203 #[.P pb,.J (i:Int)] h (fun v h'=>∃x n c',v=.tuple #[.slice x n c',.J 0]/\Hp h D [capI 1 5 (x,n,c') ((cllS l hd i).map bv),boxI pb 306 [.slice a l.length c,.J (hd:Int)]] [] h'):=by
 have hsp:=S.c i hi;have hse:=S.e;have hlm:=ok.r0.m;have hlc:=ok.r0.c;simp only at hlm hlc;refine HC.go Tryz.func203 35 ?_;refine .s<|.z .asS<|.z .asI<|.nil<|.seq<|.block fun K0 hK0=>.s<|.z .mvP<|.z (.pEqS T.pt246)<|.z .asB<|.nil<|.cf<|.s<|.z .mvI<|.z .lss<|.z .mvB<|.sd (fun G14=>?_) (fun G14=>?_)
 ·
  omega
 refine .z .mvI<|.z .mvP<|.k 17 .func (smany_any (pb:=pb) (hd:=hd) (a:=a) (c:=c) (l:=l) ok.r0 ok.m0 (by omega) (by omega))<|.z .geq<|.z .pkf<|.z .asB<|.nil<|.cd (fun C1=>?_) (fun C1=>?_)
 ·
  omega
 refine .skip<|.end<|hK0 _ _<|.s<|.z .mvP<|.z .mvI<|.k 23 .func (sspan_any (pb:=pb) (hd:=hd) (a:=a) (c:=c) (l:=l) ok.r0 ok.m0 (by omega) (i:=i) (by omega) (by omega))<|.z .mvU<|.z .ex<|.z .ex<|.z .asI<|.z .asI<|.nil<|.s<|.z .mvP<|.z .nil<|.z (.fa T.fd306_0)<|.z (.ldx T.ag35 ok.m0)<|.z .mvI<|.z .mvI<|.z .mvI<|.z (.sllhm (atS l hd i+2) (atS l hd i+2+lnS l hd i) (atS l hd i+2+lnS l hd i) T.el35 T.sz5)<|?_;have hcl3:=cell_rd ok.r0 (i:=i) (hd:=hd) hsp.2.2;generalize hc1:cutA a (atS l hd i+2) (atS l hd i+2+lnS l hd i) 1=ca1 at hcl3⊢;rw [show Value.slice ca1 ((atS l hd i+2+lnS l hd i)-(atS l hd i+2)) ((atS l hd i+2+lnS l hd i)-(atS l hd i+2))=.slice ca1 (cllS l hd i).length ((atS l hd i+2+lnS l hd i)-(atS l hd i+2)) from by congr 1;unfold cllS;simp;omega];have ok:=ok.d0 (rdI F E (ca1,(cllS l hd i).length,(atS l hd i+2+lnS l hd i)-(atS l hd i+2)) (cllS l hd i)) hcl3 (fun _ h=>h);refine .c' 34 .func (sclone_any (a:=ca1) (c:=(atS l hd i+2+lnS l hd i)-(atS l hd i+2)) (l:=(cllS l hd i)) ok.r0 (by unfold cllS;simp;omega)) ?_;rintro _ U1 own;obtain ⟨ya1,yc1,rfl⟩:=own.formB;have ok:=ok.own own;refine .z .asS<|.z .asI<|.nil<|.ret ⟨.tuple #[.slice ya1 ((cllS l hd i).length) yc1,.J 0],Res.two rfl rfl rfl,⟨ya1,(cllS l hd i).length,yc1,rfl,(ok).k2.e0⟩⟩
end
open Go Go.HL
theorem sof_any {h:Heap} {F E:Nat->Prop} {hd bc:Nat} {ba:Option Addr} {l:List UInt8} (hl:RdL h F E (ba,l.length,bc) l) (hN:256<=l.length/\l.length<=4096) (hh:hd<=64) :
  Hc 201 #[.slice ba l.length bc,.J (hd:Int)] h (fun v h'=>(SndS l hd/\∃pb a c,v=.tuple #[.P pb,.J 0]/\Hp h none_ [boxI pb 306 [.slice a l.length c,.J (hd:Int)],capI 1 5 (a,l.length,c) (l.map bv)] [] h')\/(¬SndS l hd/\v=.tuple #[.pointer none,.J 14]/\Ext h h')):=by
 have ok:=(Hp.nil h none_).arg hl;have hlm:=hl.m;have hlc:=hl.c;simp only at hlm hlc;refine HC.go Tryz.func201 21 ?_;refine .s<|.z .asP<|.z .asI<|.nil<|.seq<|.s<|.z .mvS<|.z (.len T.el35)<|.z .mvI<|.k 10 .func (smay_any (size:=(l.length:Int)) (head:=(hd:Int)))<|.z .notd<|.nil<|.cd (fun C0=>?_) (fun C0=>?_)
 ·
  exact absurd C0 (by omega)
 refine .skip<|.s<|.z .mvS<|.c' 13 .func (sclone_any (a:=ba) (c:=bc) (l:=l) ok.r0 (by omega)) ?_;rintro _ U1 own;obtain ⟨ya1,yc1,rfl⟩:=own.formB;have ok:=ok.own own;refine .z .mvI<|.z (.bd #[.slice ya1 ((l).length) yc1,.J (hd:Int)] T.zr306 T.pl306 rfl)<|.a' 16 (.bxA (cs:=[.slice ya1 ((l).length) yc1,.J (hd:Int)]) ok) ?_;rintro _ U2 ⟨pb1,rfl,ok,xe⟩;refine .z .asP<|.nil<|.seq<|.s<|.z .mvP<|.c' 18 .func (ssound_any (l:=l) (hd:=hd) (Hp.lc2 (ok).e0) (by omega) (by omega)) ?_;rintro _ U3 ⟨rfl,q⟩;have ok:=Hp.lf2 (ok) q;refine .z .notd<|.nil<|.cd (fun C1=>?_) (fun C1=>?_)
 ·
  refine .s<|.z .asP<|.z .asI<|.nil<|.ret ⟨.tuple #[.pointer none,.J 14],Res.two rfl rfl rfl,.inr ⟨C1,rfl,ok.chg⟩⟩
 refine .skip<|.s<|.z .mvP<|.z .asP<|.z .asI<|.nil<|.ret ⟨.tuple #[.P pb1,.J 0],Res.two rfl rfl rfl,.inl ⟨Classical.not_not.1 C1,pb1,ya1,yc1,rfl,(ok).k2.e0⟩⟩
end Go.Proofs.YtfegfklipbnhjaaGreat
namespace Go.HL
open Go
section
variable {P:Program} {s:Slots} {h:Heap} {d:Option Tmp} {t u ty:TypeId} {x y:Operand} {pos:String} {af:Array Edge} {g:Option (Nat × Bool)}
theorem OpV.sar {ky:IntKind} {a:Int} (hb : -9223372036854775808<=a/\a<=9223372036854775807) (hx:ev s x=.J a:=by exact rfl) (hy:ev s y=.int ky 63:=by exact rfl):OpV P ⟨d,.binOp .shr t x y u,ty,pos,af,g⟩ s h (.J (if 0<=a then 0 else -1)):=fun w _=>by
 have h1:a.fdiv (2 ^ min 63 IntKind.i64.bits)=if 0<=a then 0 else -1:=by
  show a.fdiv 9223372036854775808=_;rw [Int.fdiv_eq_ediv_of_nonneg _ (by decide)];split<;>omega
 simp [execOp,hx,hy,V.eqG,binOp,Op.shift,h1]
theorem OpV.andN {a:Nat} (ha:a<256:=by first | omega | exact UInt8.toNat_lt _) (hx:ev s x=.int .u8 (a:Nat):=by exact rfl) (hy:ev s y=.int .u8 128:=by exact rfl):OpV P ⟨d,.binOp .andNot t x y u,ty,pos,af,g⟩ s h (.int .u8 ((a%128:Nat):Int)):=fun w _=>by
 have h1:∀n:Fin 256,IntKind.u8.wrap ((BitVec.ofInt IntKind.u8.bits (n.val:Int) &&& ~~~ BitVec.ofInt IntKind.u8.bits 128).toNat:Int)=((n.val%128:Nat):Int):=by decide +kernel
 have h2:=h1 ⟨a,ha⟩;simp only at h2;simp only [execOp,hx,hy,binOp,Op.intBits];rw [h2];rfl
theorem OpV.negI {a:Nat} (ha:a<=1:=by omega) (hx:ev s x=.J (a:Nat):=by exact rfl):OpV P ⟨d,.unOp .neg t x,ty,pos,af,g⟩ s h (.J (-(a:Int))):=fun w _=>by
 have h3:IntKind.i64.wrap (-(a:Int)) = -(a:Int):=IntWalk.i64_in _ (by omega);simp [execOp,hx,Op.unary,Op.intArith,h3]
theorem OpV.xorM {a b:Nat} (ha:a<9223372036854775808:=by omega) (hb:b<=1:=by omega) (hx:ev s x=.J (a:Nat):=by exact rfl) (hy:ev s y=.J (-(b:Int)):=by exact rfl):OpV P ⟨d,.binOp .xor t x y u,ty,pos,af,g⟩ s h (.J (if b=0 then (a:Int) else -(a:Int)-1)):=fun w _=>by
 have h1:IntKind.i64.wrap ((BitVec.ofInt IntKind.i64.bits (a:Int) ^^^ BitVec.ofInt IntKind.i64.bits (-(b:Int))).toNat:Int)=if b=0 then (a:Int) else -(a:Int)-1:=by
  by_cases h0:b=0
  ·subst h0;have e:BitVec.ofInt IntKind.i64.bits (-((0:Nat):Int))=0#IntKind.i64.bits:=rfl;rw [e,BitVec.xor_zero,bv_nat];have e2:(BitVec.ofNat IntKind.i64.bits a).toNat=a:=by
    show a%18446744073709551616=a;omega
   rw [e2,if_pos rfl];exact IntWalk.i64_in _ (by omega)
  ·have h1:b=1:=by omega
   subst h1;have e:BitVec.ofInt IntKind.i64.bits (-((1:Nat):Int))=BitVec.allOnes IntKind.i64.bits:=rfl;rw [e,BitVec.xor_allOnes,bv_nat,BitVec.toNat_not];have e2:(BitVec.ofNat IntKind.i64.bits a).toNat=a:=by
    show a%18446744073709551616=a;omega
   rw [e2,if_neg h0];show IntKind.i64.wrap (((18446744073709551616-1-a:Nat)):Int)=_;unfold IntKind.wrap;simp [IntKind.signed,IntKind.bits,IntKind.max,IntKind.min]<;>omega
 simp only [execOp,hx,hy,binOp,Op.intBits];rw [h1];rfl
end
end Go.HL
namespace Go.Proofs.YtfegfklipbnhjaaGreat
open Go Go.HL
section
variable {i z x f p:Nat} {l:List UInt8}
theorem zz_bits {n:Int} (h1 : -9223372036854775808<=n) (h2:n<=9223372036854775807):((n%18446744073709551616).toNat*2 ^ 1%18446744073709551616 ^^^ ((if 0<=n then (0:Int) else -1)%18446744073709551616).toNat)=zzN n:=by
 unfold zzN;by_cases h:0<=n
 ·rw [if_pos h,if_pos h];show _ ^^^ 0=_;rw [Nat.xor_zero];omega
 ·rw [if_neg h,if_neg h];have e:((-1:Int)%18446744073709551616).toNat=18446744073709551615:=by decide
  rw [e];have hA:(n%18446744073709551616).toNat*2 ^ 1%18446744073709551616=(18446744073709551616+2*n).toNat:=by omega
  rw [hA];have hx:∀a:Nat,a<18446744073709551616->a ^^^ 18446744073709551615=18446744073709551615-a:=fun a ha=>by
   have:=BitVec.toNat_not (x:=BitVec.ofNat 64 a);rw [<-BitVec.xor_allOnes,BitVec.toNat_xor,BitVec.toNat_allOnes,BitVec.toNat_ofNat,kD (by simpa using ha)] at this;simpa using this
  rw [hx _ (by omega)];omega
theorem or_128 (z:Nat):z%256 ||| 128=z%128+128:=by
 have h:∀n:Fin 256,n.val ||| 128=n.val%128+128:=by decide +kernel
 have:=h ⟨z%256,by omega⟩;simp only at this;rw [this];omega
theorem and_128 (h:x<256):x &&& 128=if 128<=x then 128 else 0:=by
 have h2:∀n:Fin 256,n.val &&& 128=if 128<=n.val then 128 else 0:=by decide +kernel
 exact h2 ⟨x,h⟩
theorem pow7 : 2 ^ (7*i)=128 ^ i:=by rw [Nat.pow_mul]
theorem or_grp (h:z<128 ^ i) (hx:x*128 ^ i<18446744073709551616):z ||| x*2 ^ (7*i)%18446744073709551616=z+x*128 ^ i:=by
 rw [pow7,kD hx,Nat.or_comm,<-pow7];have:=Nat.shiftLeft_add_eq_or_of_lt (b:=z) (i:=7*i) (by rw [pow7];exact h) x;rw [Nat.shiftLeft_eq] at this;rw [<-this,Nat.add_comm]
theorem vg_go (h:z*128 ^ (10-f)<18446744073709551616) (hf:1<=f) (hf2:f<=10) (hz:128<=z):2<=f/\z / 128*128 ^ (10-(f-1))<18446744073709551616/\vgF f z=UInt8.ofNat (z%128+128)::vgF (f-1) (z / 128):=by
 have h2:2<=f:=by
  refine Nat.le_of_not_lt fun h3=>?_;have h4:f=1:=by omega
  subst h4;have:z*9223372036854775808<18446744073709551616:=h;omega
 refine ⟨h2,?_,?_⟩
 ·rw [show 10-(f-1)=10-f+1 by omega,Nat.pow_succ,Nat.mul_comm (128 ^ (10-f)) 128,<-Nat.mul_assoc];exact Nat.lt_of_le_of_lt (qE _ (by omega)) h
 ·obtain ⟨f,rfl⟩:∃g,f=g+1:=⟨f-1,by omega⟩;exact vgF_s (by omega)
theorem uvG_go (hi:p+i<l.length) (hx:l[p+i].toNat=x) (h9:¬(i=9/\1<x)):uvG l p (f+1) i z=if 128<=x then uvG l p f (i+1) (z+x%128*128 ^ i) else if 0<i/\x=0 then (0,0,8) else (unzz (z+x%128*128 ^ i),p+i+1,0):=by
 have hg:(l.getD (p+i) 0).toNat=x:=by rw [List.getD_eq_getElem?_getD,List.getElem?_eq_getElem hi];exact hx
 conv=>lhs;unfold uvG
 rw [if_neg (by omega),hg,if_neg h9]
theorem uvG_sh (hi:l.length<=p+i):uvG l p (f+1) i z=(0,0,6):=by unfold uvG;rw [if_pos hi]
theorem uvG_ov (hi:p+9<l.length) (hx:1<l[p+9].toNat):uvG l p (f+1) 9 z=(0,0,9):=by
 have hg:l.getD (p+9) 0=l[p+9]:=by rw [List.getD_eq_getElem?_getD,List.getElem?_eq_getElem hi];rfl
 unfold uvG;rw [if_neg (by omega),hg,if_pos ⟨rfl,hx⟩]
theorem grp_lt (hi:i<=9) (hx:x<256) (h9:¬(i=9/\1<x)):x%128*128 ^ i<18446744073709551616/\x%128*128 ^ i+128 ^ i<=128 ^ (i+1):=by
 refine ⟨?_,by rw [Nat.pow_succ,Nat.mul_comm (128 ^ i) 128,<-Nat.succ_mul];exact qE _ (by omega)⟩;by_cases h:i=9
 ·subst h;show x%128*9223372036854775808<_;omega
 ·have h1:128 ^ i<=128 ^ 8:=Nat.pow_le_pow_right (by decide) (by omega);have h2:(128:Nat) ^ 8=72057594037927936:=by decide
  have h3:x%128*128 ^ i<=127*72057594037927936:=Nat.mul_le_mul (by omega) (by omega);omega
theorem grp_lt2 (hi:i<=9) (hz:z<128 ^ i) (hx:x<256) (h9:¬(i=9/\1<x)):z+x%128*128 ^ i<18446744073709551616:=by
 by_cases h:i=9
 ·subst h;have h1:z<9223372036854775808:=hz;show z+x%128*9223372036854775808<_;omega
 ·have h0:=(grp_lt hi hx h9).2;have h1:128 ^ (i+1)<=128 ^ 9:=Nat.pow_le_pow_right (by decide) (by omega);have h2:(128:Nat) ^ 9=9223372036854775808:=by decide
  omega
theorem varint_any {h:Heap} {n:Int} (hn1 : -9223372036854775808<=n) (hn2:n<=9223372036854775807) :
  Hc 214 #[.J n] h (fun v h'=>Own h h' 1 5 v ((vint n).map bv)):=by
 have ok:=Hp.nil h none_;have hzz:=zzN_lt hn1 hn2;refine HC.go Tryz.func214 27 ?_;refine .s<|.z .asS<|.nil ?_;refine .s<|.z .mvI<|.z (.cvz T.in207 T.in2)<|.z (.shln (M:=18446744073709551616) rfl rfl (b:=1))<|.z .mvI<|.z (.sar ⟨hn1,hn2⟩)<|.z (.cvz T.in207 T.in2)<|.z (.bxor (M:=18446744073709551616) rfl rfl (ha:=by omega) (hb:=by split<;>omega))<|?_;rw [show (((n%18446744073709551616).toNat*2 ^ 1%18446744073709551616) ^^^ ((if 0<=n then (0:Int) else -1)%18446744073709551616).toNat)=(zzN n) from zz_bits hn1 hn2];refine .z .asI<|.nil ?_;refine .s<|.z .asS<|?_;have ok:=ok.nilC (k:=1) (e:=5);refine .nil ?_;refine .seq<|.block fun K0 hK0=>.loop (fun m s hh=>∃(z f:Nat) (o:List UInt8) (a4:Option Addr) (c4:Nat),Has s [(3,.int .u64 (z:Int)),(4,.slice a4 o.length c4)]/\Hp h none_ [capI 1 5 (a4,o.length,c4) (o.map bv)] [] hh/\z*128 ^ (10-f)<18446744073709551616/\1<=f/\f<=10/\z<18446744073709551616/\o++vgF f z=vint n/\o.length+f=10/\m=f+1) ?_ ?_
 ·exact ⟨_,zzN n,10,[],none,0,⟨rfl,rfl,trivial⟩,(ok).k1,by simpa using zzN_lt hn1 hn2,by omega,by omega,zzN_lt hn1 hn2,rfl,rfl,rfl⟩
 rintro _ _ U1 ⟨z,f,o,a4,c4,hs,ok,hzl,hf1,hf2,hz64,hov,hol,rfl⟩ J0 hJ0;refine .frame hs fun τ=>?_;refine .seq<|.s<|.z .mvI<|.z .geq<|.nil ?_;refine .cdr (fun C0=>?_) (fun C0=>?_)
 ·
  refine .exit<|hK0 _ _<|.s<|.z .mvS<|.z .mvI<|.z (.cvm T.in5 T.in207 (M:=256) rfl rfl)<|.a' 25 (.lit [.tmp 24] (cs:=[.int .u8 (((z%256):Nat):Int)]) T.el35 T.sz5 T.zr5 ok ⟨rfl,trivial⟩) ?_;rintro _ U2 ⟨pb1,rfl,ok,xe⟩;refine .a' 26 (.app (news:=[.int .u8 (((z%256):Nat):Int)]) T.el35 T.sz5 T.by5 T.zr5 ok.n1 (ok.n1.m1).sl (oneL rfl) (by simp only [qM,qV,qB];omega)) ?_;rintro _ U3 ⟨ya1,yn1,yc1,rfl,ok,ap⟩;have ok:=ok.cx (ys:=(o++[UInt8.ofNat z]).map bv) (by rw [kJ];simp [bv]<;>omega);obtain rfl:yn1=(o++[UInt8.ofNat z]).length:=ok.lenB;refine .z .asS<|.nil ?_;refine .ret ⟨.slice ya1 ((o++[UInt8.ofNat z]).length) yc1,Res.one rfl rfl,(by rw [<-hov,show vgF f z=[UInt8.ofNat z] from (by obtain ⟨f,rfl⟩:∃g,f=g+1:=⟨f-1,by omega⟩;exact vgF_0 (by omega))];exact (ok).toOwn)⟩
 refine .skip<|.block fun K1 hK1=>.seq<|?_;obtain ⟨hg1,hg2,hg3⟩:=vg_go hzl hf1 hf2 (by omega);refine .r<|.z .mvS<|.z .mvI<|.z (.cvm T.in5 T.in207 (M:=256) rfl rfl)<|.z (.bor (M:=256) rfl rfl (b:=128))<|?_;rw [show ((z%256) ||| 128)=(z%128+128) from or_128 z];refine .a' 18 (.lit [.tmp 17] (cs:=[.int .u8 (((z%128+128):Nat):Int)]) T.el35 T.sz5 T.zr5 ok ⟨rfl,trivial⟩) ?_;rintro _ U4 ⟨pb2,rfl,ok,xe⟩;refine .a' 19 (.app (news:=[.int .u8 (((z%128+128):Nat):Int)]) T.el35 T.sz5 T.by5 T.zr5 ok.n1 (ok.n1.m1).sl (oneL rfl) (by simp only [qM,qV,qB];omega)) ?_;rintro _ U5 ⟨ya2,yn2,yc2,rfl,ok,ap⟩;have ok:=ok.cx (ys:=(o++[UInt8.ofNat (z%128+128)]).map bv) (by rw [kJ];simp [bv]<;>omega);obtain rfl:yn2=(o++[UInt8.ofNat (z%128+128)]).length:=ok.lenB;refine .z .asS<|.nil ?_;refine .r<|.z .mvI<|.z (.shrn (M:=18446744073709551616) rfl (b:=7))<|?_;rw [show (z / 2 ^ 7)=(z / 128) from rfl];refine .z .asI<|.nil ?_;refine .end<|hK1 _ _<|.end<|hJ0 _ _ _ ⟨z / 128,f-1,(o++[UInt8.ofNat (z%128+128)]),ya2,yc2,⟨rfl,rfl,trivial⟩,(ok).k1,hg2,by omega,by omega,by omega,by rw [<-hov,hg3,qZ];rfl,by simp;omega,rfl⟩ (by omega)
theorem unvarint_any {h:Heap} {F E:Nat->Prop} {a:Option Addr} {c:Nat} (hl:RdL h F E (a,l.length,c) l) (hp:p<=1000000000) (hN:l.length<=1000000000) :
  Hc 285 #[.slice a l.length c,.J (p:Int)] h (fun v h'=>v=.tuple #[.J (uvN l p).1,.J ((uvN l p).2.1:Int),.J ((uvN l p).2.2:Int)]/\h'=h):=by
 refine HC.go Tryz.func285 76 ?_;refine .s<|.z .asI<|.z .asI<|.z .asI<|.nil ?_;refine .seq<|.s<|.z .mvI<|.z .lss<|.nil ?_;refine .cd (fun C0=>?_) (fun C0=>?_)
 ·
  omega
 refine .skip<|.s<|.z .asI<|.nil ?_;refine .seq<|.s<|.z .mvI<|.nil ?_;refine .block fun K0 hK0=>.loop (fun m s hh=>∃(i z:Nat),Has s [(0,.slice a l.length c),(1,.J (p:Int)),(7,.int .u64 (z:Int)),(12,.J (i:Int))]/\h=hh/\uvG l p (10-i) i z=uvN l p/\z<128 ^ i/\i<=10/\z<18446744073709551616/\m=10-i) ?_ ?_
 ·exact ⟨_,0,0,⟨rfl,rfl,rfl,rfl,trivial⟩,rfl,rfl,by simp,by omega,by omega,rfl⟩
 rintro _ _ _ ⟨i,z,hs,rfl,hg,hz,hi,hz2,rfl⟩ J0 hJ0;refine .frame hs fun τ=>?_;refine .s<|.z .lss<|.nil ?_;refine .seq<|.cdr (fun C1=>?_) (fun C1=>?_)
 ·
  refine .exit<|hK0 _ _<|.s<|.z .asI<|.z .asI<|.z .asI<|.nil ?_;refine .ret ⟨.tuple #[.J 0,.J 0,.J 9],Res.three rfl rfl rfl rfl,⟨by rw [show uvN l p=(0,0,9) from by rw [<-hg,show 10-i=0 by omega];rfl]<;>rfl,rfl⟩⟩
 refine .skip<|.seq<|.block fun K1 hK1=>.s<|.z .mvI<|.z .asI<|.nil ?_;refine .seq<|.join (fun s hh=>Has s [(0,.slice a l.length c),(1,.J (p:Int)),(7,.int .u64 (z:Int)),(8,.J (i:Int)),(12,.J (i:Int))]/\h=hh/\∃hq:p+i<l.length,¬(i=9/\1<l[p+i].toNat)) ?_ ?_
 ·
  refine .block fun K2 hK2=>.s<|.z .mvI<|.z .mvS<|.z (.len T.el35)<|.z .geq<|.z .mvB<|.sd (fun G20=>?_) (fun G20=>?_)
  ·
   refine .y<|.y<|.y<|.y<|.y<|.y<|.z .pkt<|.z .asB<|.nil ?_;refine .ct<|.s<|.z .asI<|.z .asI<|.z .asI<|.nil ?_;refine .ret ⟨.tuple #[.J 0,.J 0,.J 6],Res.three rfl rfl rfl rfl,⟨by rw [show uvN l p=(0,0,6) from by rw [<-hg,show 10-i=9-i+1 by omega];exact uvG_sh (by omega)]<;>rfl,rfl⟩⟩
  refine .z .mvI<|.z .mvS<|.z (.len T.el35)<|.z .mvI<|.z .sub<|.z .geq<|.z .pkf<|.z .asB<|.nil ?_;refine .cd (fun C2=>?_) (fun C2=>?_)
  ·
   refine .s<|.z .asI<|.z .asI<|.z .asI<|.nil ?_;refine .ret ⟨.tuple #[.J 0,.J 0,.J 6],Res.three rfl rfl rfl rfl,⟨by rw [show uvN l p=(0,0,6) from by rw [<-hg,show 10-i=9-i+1 by omega];exact uvG_sh (by omega)]<;>rfl,rfl⟩⟩
  refine .s<|.z .mvI<|.z .eql<|.z .mvB<|.sd (fun G31=>?_) (fun G31=>?_)
  ·
   refine .z .mvS<|.z .mvI<|.z .mvI<|.z .addI<|?_;obtain ⟨bb1,oo1,rfl,fb1⟩:=hl.pos (by omega);refine .z (.ix1 (p+i) T.el35 T.sz5 (hi:=by omega))<|.z (.ld T.ag5 (hl.u8 (i:=(p+i)) (by omega)))<|.z .gtr<|.z .pkt<|.z .asB<|.nil ?_;refine .cd (fun C3=>?_) (fun C3=>?_)
   ·
    refine .s<|.z .asI<|.z .asI<|.z .asI<|.nil ?_;refine .ret ⟨.tuple #[.J 0,.J 0,.J 9],Res.three rfl rfl rfl rfl,⟨by rw [show uvN l p=(0,0,9) from by (obtain rfl:i=9:=(by omega));rw [<-hg];exact uvG_ov (f:=0) (by omega) (by omega)]<;>rfl,rfl⟩⟩
   refine .skip<|.end<|hK2 _ _<|.end<|⟨⟨rfl,rfl,rfl,rfl,rfl,trivial⟩,rfl,⟨by omega,by rintro ⟨g1,g2⟩;omega⟩⟩
  refine .y<|.y<|.y<|.y<|.y<|.y<|.y<|.z .pkf<|.z .asB<|.nil ?_;refine .cf<|.skip<|.end<|hK2 _ _<|.end<|⟨⟨rfl,rfl,rfl,rfl,rfl,trivial⟩,rfl,⟨by omega,by rintro ⟨g1,g2⟩;omega⟩⟩
 rintro s _ ⟨hs,rfl,⟨hpi,h9⟩⟩;refine .frame hs fun τ=>?_;refine .seq<|?_;obtain ⟨ff,hff⟩:∃ff,10-i=ff+1:=⟨9-i,by omega⟩;rw [hff] at hg;have hx8:l[p+i].toNat<256:=UInt8.toNat_lt _;have hz3:=grp_lt2 (i:=i) (z:=z) (by omega) hz hx8 h9;have hgs:=uvG_go (f:=ff) (z:=z) hpi rfl h9;rw [hg] at hgs;obtain ⟨zz,hzz⟩:∃zz,zz=z+l[p+i].toNat%128*128 ^ i:=⟨_,rfl⟩;rw [<-hzz] at hgs hz3;refine .r<|.z .mvS<|.z .mvI<|.z .mvI<|.z .addI<|?_;obtain ⟨bb2,oo2,rfl,fb2⟩:=hl.pos (by omega);refine .z (.ix1 (p+i) T.el35 T.sz5 (hi:=by omega))<|.z (.ld T.ag5 (hl.u8 (i:=(p+i)) (by omega)))<|.z .asI<|.nil ?_;refine .s<|.z .mvI<|.z .mvI<|.z .andN<|.z (.cvs T.in207 T.in5 (M:=18446744073709551616) rfl rfl (ha:=by omega))<|.z .mvI<|.z (.mulI (a:=7))<|.z (.shln (M:=18446744073709551616) rfl rfl (hb:=by show 7*i<=64;omega))<|.z (.bor (M:=18446744073709551616) rfl rfl (ha:=by omega) (hb:=by exact Nat.mod_lt _ (by decide)))<|?_;rw [show (z ||| ((l[p+i].toNat%128)*2 ^ (7*i)%18446744073709551616))=zz from (or_grp hz (grp_lt (by omega) hx8 h9).1).trans hzz.symm];refine .z .asI<|.nil ?_;refine .seq<|.s<|.z .mvI<|.z (.band (M:=256) rfl rfl (b:=128))<|.z .neq<|.nil ?_;refine .cd (fun C4=>?_) (fun C4=>?_)
 ·
  have h128:128<=l[p+i].toNat:=Nat.le_of_not_lt fun h=>C4 (by rw [and_128 hx8,if_neg (by omega)];rfl);have hgo:uvG l p ff (i+1) zz=uvN l p:=by rw [if_pos h128] at hgs;exact hgs.symm
  refine .exit<|hK1 _ _<|.r<|.z (.addI (b:=1))<|.z .mvI<|.nil ?_;refine .end<|hJ0 _ _ _ ⟨i+1,zz,⟨rfl,rfl,rfl,rfl,trivial⟩,rfl,by rw [show 10-(i+1)=ff by omega];exact hgo,by have:=(grp_lt (i:=i) (by omega) hx8 h9).2;omega,by omega,by omega,rfl⟩ (by omega)
 have h128:¬128<=l[p+i].toNat:=fun h=>C4 (by rw [and_128 hx8,if_pos h];decide);rw [if_neg h128] at hgs;refine .skip<|.seq<|.s<|.z .mvI<|.z .gtr<|.z .mvB<|.sd (fun G59=>?_) (fun G59=>?_)
 ·
  refine .z .mvI<|.z .eql<|.z .pkt<|.nil ?_;refine .cd (fun C5=>?_) (fun C5=>?_)
  ·
   refine .s<|.z .asI<|.z .asI<|.z .asI<|.nil ?_;refine .ret ⟨.tuple #[.J 0,.J 0,.J 8],Res.three rfl rfl rfl rfl,⟨by rw [show uvN l p=(0,0,8) from hgs.trans (if_pos ⟨by omega,by omega⟩)]<;>rfl,rfl⟩⟩
  refine .skip<|.s<|.z .mvI<|.z (.shrn (M:=18446744073709551616) rfl (b:=1))<|?_;rw [show (zz / 2 ^ 1)=(zz / 2) from rfl];refine .z (.cvi T.in2 T.in207)<|.z .mvI<|.z (.band (M:=18446744073709551616) rfl rfl (b:=1) (hb:=by omega))<|?_;rw [show (zz &&& 1)=(zz%2) from Nat.and_one_is_mod zz];refine .z (.cvi T.in2 T.in207)<|.z (.negI (a:=zz%2))<|.z (.xorM (a:=zz / 2) (b:=zz%2))<|.z .mvI<|.z .mvI<|.z .addI<|.z (.addI (b:=1))<|.z .asI<|.z .asI<|.z .asI<|.nil ?_;refine .ret ⟨.tuple #[.J (if zz%2=0 then ((zz / 2:Nat):Int) else -((zz / 2:Nat):Int)-1),.J (((p+i)+1:Nat):Int),.J 0],Res.three rfl rfl rfl rfl,⟨by rw [show uvN l p=(unzz zz,p+i+1,0) from hgs.trans (if_neg (by rintro ⟨h1,h2⟩;omega))];rfl,rfl⟩⟩
 refine .y<|.y<|.z .pkf<|.nil ?_;refine .cf<|.skip<|.s<|.z .mvI<|.z (.shrn (M:=18446744073709551616) rfl (b:=1))<|?_;rw [show (zz / 2 ^ 1)=(zz / 2) from rfl];refine .z (.cvi T.in2 T.in207)<|.z .mvI<|.z (.band (M:=18446744073709551616) rfl rfl (b:=1) (hb:=by omega))<|?_;rw [show (zz &&& 1)=(zz%2) from Nat.and_one_is_mod zz];refine .z (.cvi T.in2 T.in207)<|.z (.negI (a:=zz%2))<|.z (.xorM (a:=zz / 2) (b:=zz%2))<|.z .mvI<|.z .mvI<|.z .addI<|.z (.addI (b:=1))<|.z .asI<|.z .asI<|.z .asI<|.nil ?_;refine .ret ⟨.tuple #[.J (if zz%2=0 then ((zz / 2:Nat):Int) else -((zz / 2:Nat):Int)-1),.J (((p+i)+1:Nat):Int),.J 0],Res.three rfl rfl rfl rfl,⟨by rw [show uvN l p=(unzz zz,p+i+1,0) from hgs.trans (if_neg (by rintro ⟨h1,h2⟩;omega))];rfl,rfl⟩⟩
end
end Go.Proofs.YtfegfklipbnhjaaGreat
