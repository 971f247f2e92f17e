/- Opening and carrying over, as the pager that logs ahead does them, on a disk in plain terms. Conditions: those that each fact names. The store in plain terms: the document's states, and a map of pages laid over others. Conditions: those that each fact names. The disk in memory: its box, its map, its files' boxes and changes as one item that turns; all bytes as one that is read. Conditions: those that each fact names. The disk's changes: long, done, kept, what is wrong with a call. Conditions: the bytes are readable, few. What is wrong with a call to a disk. Conditions: the disk's box is known, the numbers are readable. A disk's power, what is there, a change that is done, what is made safe. Conditions: the disk is in order, its changes few. A disk's calls: Write, Truncate, Remove, Sync, Size, Dark, Changes, Cut, New. Conditions: the disk is in order, its changes few. A disk's calls: Read, Size, Dark, Changes, Cut, New, and the calls to no disk. Conditions: the disk is in order. tomeref10.SameInts, in and find answer as their plain lists say. Conditions: the slices are readable. tomeref10.SameFrames and front answer as their plain lists say. Conditions: the slices are readable. slices.Index, slices.Clone, bytes.Clone and slices.Delete over the types that the cache uses. Conditions: lengths below a bound. The order of a cache: forget and touch. Conditions: lengths below a bound. A cache in memory, and the method drop. Conditions: the cache is well laid. cache.New and the method Get. Conditions: the cache is well laid. -/
import Derived.Test.YtndlpekckpdncaaGreatPkC3
set_option maxRecDepth 100000
set_option maxHeartbeats 2000000
set_option linter.all false
namespace Go.Proofs.YtndlpekckpdncaaGreat
open Go Go.HL
def nT:List UInt8:=[116,111,109,101]
def nL:List UInt8:=[116,111,109,101,46,108,111,103]
def nM:List UInt8:=[116,111,109,101,46,109,97,114,107]
def goneN (d:Dk) (n:List UInt8):Dk × Nat:=
 if (removeN d n).2=0 then syncN (removeN d n).1 n else if (removeN d n).2=4 then ((removeN d n).1,0) else removeN d n
section
variable {κ β:Type} [DecidableEq κ]
def mget (l:List (κ × β)) (k:κ):Option β:=(l.find? fun p=>p.1=k).map (·.2)
def mput:List (κ × β)→κ→β→List (κ × β)
 | [],k,v=>[(k,v)]
 | p::l,k,v=>if p.1=k then (k,v)::l else p::mput l k v
def mdel (l:List (κ × β)) (k:κ):List (κ × β):=l.filter fun p=>decide (p.1≠k)
variable {l:List (κ × β)} {k k':κ} {v w:β} {f:β→Value}
theorem aget_mp:aget (l.map fun p=>(p.1,f p.2)) k=(mget l k).map f:=by
 induction l with
 | nil=>rfl
 | cons p l ih=>
  by_cases h:p.1=k
  ·simp [aget,mget,h]
  ·simpa [aget,mget,h] using ih
theorem adel_mp:adel (l.map fun p=>(p.1,f p.2)) k=(mdel l k).map fun p=>(p.1,f p.2):=by simp [adel,mdel,List.filter_map,Function.comp_def]
theorem aput_mp:aput (l.map fun p=>(p.1,f p.2)) k (f v)=(mput l k v).map fun p=>(p.1,f p.2):=by
 induction l with
 | nil=>rfl
 | cons p l ih=>
  by_cases h:p.1=k
  ·simp [aput,mput,h]
  ·simp [aput,mput,h,ih]
theorem mget_cons {p:κ × β} : mget (p::l) k=if p.1=k then some p.2 else mget l k:=by
 by_cases h:p.1=k<;>simp [mget,h]
theorem mget_mput:mget (mput l k v) k'=if k'=k then some v else mget l k':=by
 induction l with
 | nil=>
  by_cases h:k'=k
  ·subst h;simp [mput,mget]
  ·have h3:¬k=k':=fun e=>h e.symm;simp [mput,mget,h,h3]
 | cons p l ih=>
  unfold mput;split
  ·rename_i h;rw [mget_cons,mget_cons];by_cases h2:k'=k
   ·subst h2;simp
   ·have h3:¬k=k':=fun e=>h2 e.symm;have h4:¬p.1=k':=fun e=>h2 (e.symm.trans h);simp [h2,h3,h4]
  ·rename_i h;rw [mget_cons,mget_cons,ih];by_cases h2:p.1=k'
   ·have h3:¬k'=k:=fun e=>h (h2.trans e);simp [h2,h3]
   ·simp [h2]
theorem mget_mem (h:mget l k=some v):(k,v)∈l:=by
 induction l with
 | nil=>simp [mget] at h
 | cons p l ih=>
  rw [mget_cons] at h;split at h
  ·rename_i hp;injection h with h;subst h;rw [←hp];exact List.mem_cons_self
  ·exact List.mem_cons_of_mem _ (ih h)
theorem mget_of_mem (hn:(l.map (·.1)).Nodup) (h:(k,v)∈l):mget l k=some v:=by
 induction l with
 | nil=>cases h
 | cons p l ih=>
  simp only [List.map_cons,List.nodup_cons] at hn;rw [mget_cons];rcases List.mem_cons.1 h with rfl | h
  ·simp
  ·rw [if_neg,ih hn.2 h];intro e;exact hn.1 (e▸List.mem_map.2 ⟨_,h,rfl⟩)
theorem mem_mput {p:κ × β} (hp:p∈mput l k v):p=(k,v)∨p∈l:=by
 induction l with
 | nil=>simp [mput] at hp;exact .inl hp
 | cons q l ih=>
  unfold mput at hp;split at hp
  ·rcases List.mem_cons.1 hp with h | h
   ·exact .inl h
   ·exact .inr (List.mem_cons_of_mem _ h)
  ·rcases List.mem_cons.1 hp with h | h
   ·exact .inr (by rw [h];exact List.mem_cons_self)
   ·exact (ih h).imp id (List.mem_cons_of_mem _)
end
theorem take_headN {n salt:Nat} {z:List UInt8} : (headN n salt++z).take 20=headN n salt:=List.take_left' (headN_len n salt)
theorem rd4_headN {n salt:Nat} (hn:n<4294967296) (z:List UInt8):rdN (headN n salt++z) 4 4=n:=by
 have e:headN n salt++z=[116,111,109,101]++(fixedN n 4++(fixedN salt 8++(sealN ([116,111,109,101]++fixedN n 4++fixedN salt 8)).drop 16++z)):=by
  have hd:(sealN ([116,111,109,101]++fixedN n 4++fixedN salt 8)).drop 16=footN ([116,111,109,101]++fixedN n 4++fixedN salt 8):=List.drop_left' (by simp [fixedN_len]);rw [hd];simp [headN,sealN,footN]
 rw [e];have:=rdN_app (x:=[116,111,109,101]) (y:=fixedN n 4) (z:=fixedN salt 8++(sealN ([116,111,109,101]++fixedN n 4++fixedN salt 8)).drop 16++z) (k:=4) (fixedN_len n 4);rw [show ([116,111,109,101]:List UInt8).length=4 from rfl] at this;rw [this,beN_fixed (by simpa using hn)]
theorem rd8_headN {n salt:Nat} (hs:salt<18446744073709551616) (z:List UInt8):rdN (headN n salt++z) 8 8=salt:=by
 have e:headN n salt++z=([116,111,109,101]++fixedN n 4)++(fixedN salt 8++((sealN ([116,111,109,101]++fixedN n 4++fixedN salt 8)).drop 16++z)):=by
  have hd:(sealN ([116,111,109,101]++fixedN n 4++fixedN salt 8)).drop 16=footN ([116,111,109,101]++fixedN n 4++fixedN salt 8):=List.drop_left' (by simp [fixedN_len]);rw [hd];simp [headN,sealN,footN]
 rw [e];have:=rdN_app (x:=[116,111,109,101]++fixedN n 4) (y:=fixedN salt 8) (z:=(sealN ([116,111,109,101]++fixedN n 4++fixedN salt 8)).drop 16++z) (k:=8) (fixedN_len salt 8);rw [show ([116,111,109,101]++fixedN n 4:List UInt8).length=8 by simp [fixedN_len]] at this;rw [this,beN_fixed (by simpa using hs)]
theorem headOk_headN {n salt:Nat} (hn:n<4294967296) (hs:salt<18446744073709551616) (hk:okSz n=true) (z:List UInt8):headOk (headN n salt++z)=true:=by
 unfold headOk;rw [rd4_headN hn,rd8_headN hs,take_headN,hk];simp
theorem firstN_headN {n salt:Nat} (hs:salt<18446744073709551616) (z:List UInt8):firstN (headN n salt++z)=nextN salt (headN n salt):=by
 unfold firstN;rw [rd8_headN hs,take_headN]
section
variable {d:Dk} {n:List UInt8} {size:Nat}
theorem do_chgA {c:Chn} : (doN d n c).1.chg≤d.chg+1:=by
 unfold doN powerN
 repeat' split
 all_goals (simp only;omega)
theorem remove_chg:(removeN d n).1.chg≤d.chg+1:=by
 unfold removeN;repeat' split
 all_goals first | exact do_chgA | (simp only;omega)
theorem sync_chg:(syncN d n).1.chg≤d.chg+1:=by
 unfold syncN powerN;repeat' split
 all_goals (simp only;omega)
section
variable {l:List Fr} {d1 d2:Dk} {i e2:Nat}
theorem pg_mul {x:Int} {s:Nat} (h1:0≤x) (h2:x≤1048576) (hs:s≤4096):0≤x*s∧x*s≤4294967296:=
 ⟨Int.mul_nonneg h1 (by omega),by have:=Int.mul_le_mul h2 (show (s:Int)≤4096 by omega) (by omega) (by omega);omega⟩
end
end
structure Ah where
 dk:Dk
 fr:Nat
 nd:Nat
 link:Nat
 in_:Bool
 now:List (List UInt8)
 sure:List (List UInt8)
 size:Nat
 dark:Bool
def unlN (now sure:List (List UInt8)):List Nat:=(List.range now.length).filter fun i=>decide (now[i]?≠sure[i]?)
def listN (now sure:List (List UInt8)):List Nat:=if unlN now sure=[]∧now.length≠sure.length then [0] else unlN now sure
def frmN (now:List (List UInt8)) (last:Bool) (i:Nat):Fr:=⟨(i:Int)+1,if last then (now.length:Int) else 0,now.getD i []⟩
def frmsN (now:List (List UInt8)):List Nat→List Fr
 | []=>[]
 | i::l=>frmN now (decide (l=[])) i::frmsN now l
theorem frmsN_len {now:List (List UInt8)} {l:List Nat} : (frmsN now l).length=l.length:=by
 induction l with
 | nil=>rfl
 | cons i l ih=>simp [frmsN,ih]
theorem frmsN_at {now:List (List UInt8)} {l:List Nat} {k:Nat} (hk:k<l.length):(frmsN now l)[k]'(by rw [frmsN_len];exact hk)=frmN now (decide (k+1=l.length)) l[k]:=by
 induction l generalizing k with
 | nil=>simp at hk
 | cons i l ih=>
  cases k with
  | zero=>
   have e:(decide (l=[]))=decide (0+1=(i::l).length):=decide_eq_decide.2 ⟨fun h=>by simp [h],fun h=>List.eq_nil_of_length_eq_zero (by rw [List.length_cons] at h;omega)⟩;simp [frmsN,←e]
  | succ k=>
   have h1:k<l.length:=by simpa using hk
   have e:decide (k+1=l.length)=decide (k+1+1=(i::l).length):=decide_eq_decide.2 (by rw [List.length_cons];omega);simp only [frmsN,List.getElem_cons_succ,ih h1,e]
def atsN (size:Nat):List (Int × Nat)→Nat→List Nat→List (Int × Nat)
 | m,_,[]=>m
 | m,e,i::l=>atsN size (mput m ((i:Int)+1) (e+16)) (e+(16+size)) l
theorem atsN_app {size:Nat} {m:List (Int × Nat)} {e:Nat} {l l2:List Nat} : atsN size m e (l++l2)=atsN size (atsN size m e l) (e+l.length*(16+size)) l2:=by
 induction l generalizing m e with
 | nil=>simp [atsN]
 | cons i l ih=>rw [List.cons_append,atsN,atsN,ih,List.length_cons];congr 1;rw [Nat.add_mul];omega
theorem atsN_snoc {size:Nat} {m:List (Int × Nat)} {e k:Nat} {l:List Nat} (hk:k<l.length):atsN size m e (l.take (k+1))=mput (atsN size m e (l.take k)) ((l[k]:Int)+1) (e+k*(16+size)+16):=by
 rw [List.take_succ_eq_append_getElem hk,atsN_app];simp only [atsN,List.length_take,Nat.min_eq_left (Nat.le_of_lt hk)]
open Go Go.HL
structure St where
 z:Nat
 sure:List (List UInt8)
 in_:Bool
 now:List (List UInt8)
 saves:List (List (List UInt8))
def Hd.enc (H:Hd):List UInt8:=hdB [H.size.toNat,H.pages.toNat,H.free.toNat,H.many.toNat,H.cookie.toNat,H.version.toNat]
def wth (l:List (List UInt8)) (no:Nat) (b:List UInt8):List (List UInt8):=if l.length<no then l++[b] else l.set (no-1) b
def pg1 (z:Nat) (H:Hd):List UInt8:=H.enc++List.replicate (z-64) 0
namespace St
variable (w:St)
def pgs:List (List UInt8):=if w.in_=true then w.now else w.sure
def head:Hd:=if w.pgs=[] then hd0 else { (decN (w.pgs.headD [])).1 with size:=(w.z:Int),pages:=(w.pgs.length:Int) }
def begin_:St × Nat:=if w.in_=true then (w,10) else ({ w with in_:=true,now:=w.sure,saves:=[] },0)
def commit:St × Nat:=if w.in_=false then (w,10) else (⟨w.z,w.now,false,[],[]⟩,0)
def setHead (H:Hd):St × Nat:=if w.in_=false then (w,10) else if ¬ChkP H∨H.size≠(w.z:Int)∨(max 1 (w.now.length:Int))<H.pages then (w,1) else ({ w with now:=(wth w.now 1 (pg1 w.z H)).take H.pages.toNat },0)
def read (no:Int):List UInt8 × Nat:=if no<1∨(w.pgs.length:Int)<no then ([],1) else (w.pgs.getD (no-1).toNat [],0)
def write (no:Int) (b:List UInt8):St × Nat:=
 if w.in_=false then (w,10) else if no<2∨(w.now.length:Int)+1<no∨w.now=[]∨b.length≠w.z then (w,1) else if 1048576<no∨16777216<no*(w.z:Int) then (w,5) else ({ w with now:=wth w.now no.toNat b },0)
end St
def hok (b:List UInt8) (z:Nat):Prop:=(decN b).2=0∧(decN b).1.size=(z:Int)
structure PgsK (z:Nat) (l:List (List UInt8)):Prop where
 len:∀b∈l,b.length=z
 hd:l≠[]→hok (l.headD []) z
 many:l.length*z≤16777216
structure StOk (w:St):Prop where
 z:okSz w.z=true
 sure:PgsK w.z w.sure
 now:PgsK w.z w.now
 saves:∀l∈w.saves,PgsK w.z l
 few:w.saves.length≤16
 out:w.in_=false→w.now=[]∧w.saves=[]
theorem hdB_l6 {a b c d e f:Nat} : (hdB [a,b,c,d,e,f]).length=64:=by
 unfold hdB hdT hdF;simp [fixedN_len]
theorem enc_len {H:Hd} : H.enc.length=64:=hdB_l6
theorem okSz_c {n:Nat} (h:okSz n=true):n=256∨n=512∨n=1024∨n=2048∨n=4096:=by simpa [okSz,or_assoc] using h
theorem pg1_len {z:Nat} {H:Hd} (hz:okSz z=true):(pg1 z H).length=z:=by
 have:=okSz_c hz;unfold pg1;rw [List.length_append,enc_len,List.length_replicate];omega
theorem PgsK.nil {z:Nat} : PgsK z []:=⟨by simp,by simp,by simp⟩
theorem hdAt_enc {N:List Nat} {x:List UInt8} {k:Nat} (hk:k<N.length) (hN:N.length=6) (hb:N[k]<4294967296):hdAt (hdB N++x) k=N[k]:=by
 have e:hdB N++x=(signL++hdF (N.take k))++(fixedN N[k] 4++(hdF (N.drop (k+1))++(List.replicate 20 0++fixedN (sumN (hdT N)) 4++x))):=by
  have h1:hdF N=hdF (N.take k)++(fixedN N[k] 4++hdF (N.drop (k+1))):=by
   have h2:N=N.take k++N[k]::N.drop (k+1):=by rw [←List.drop_eq_getElem_cons hk,List.take_append_drop]
   have h3:hdF N=hdF (N.take k++N[k]::N.drop (k+1)):=congrArg hdF h2;rw [h3];unfold hdF;rw [List.map_append,List.flatten_append,List.map_cons,List.flatten_cons]
  unfold hdB;rw [show hdT N=signL++hdF N++List.replicate 20 0 from rfl,h1];simp only [List.append_assoc]
 have hl:(signL++hdF (N.take k)).length=16+4*k:=by
  have h1:∀(M:List Nat),(hdF M).length=4*M.length:=fun M=>by
   unfold hdF;induction M with
   | nil=>rfl
   | cons a M ih=>rw [List.map_cons,List.flatten_cons,List.length_append,fixedN_len,ih,List.length_cons];omega
  rw [List.length_append,h1,List.length_take];simp;omega
 unfold hdAt;rw [e,←hl,rdN_app (fixedN_len _ _),beN_fixed (by simpa using hb)]
theorem dec_encN {n0 n1 n2 n3 n4 n5:Nat} {x:List UInt8} (h0:n0<4294967296) (h1:n1<4294967296) (h2:n2<4294967296) (h3:n3<4294967296) (h4:n4<4294967296) (h5:n5<4294967296) (hc:ChkP ⟨(n0:Int),(n1:Int),(n2:Int),(n3:Int),(n4:Int),(n5:Int)⟩):decN (hdB [n0,n1,n2,n3,n4,n5]++x)=(⟨(n0:Int),(n1:Int),(n2:Int),(n3:Int),(n4:Int),(n5:Int)⟩,0):=by
 have a0:=hdAt_enc (N:=[n0,n1,n2,n3,n4,n5]) (x:=x) (k:=0) (by simp) rfl h0;have a1:=hdAt_enc (N:=[n0,n1,n2,n3,n4,n5]) (x:=x) (k:=1) (by simp) rfl h1;have a2:=hdAt_enc (N:=[n0,n1,n2,n3,n4,n5]) (x:=x) (k:=2) (by simp) rfl h2;have a3:=hdAt_enc (N:=[n0,n1,n2,n3,n4,n5]) (x:=x) (k:=3) (by simp) rfl h3;have a4:=hdAt_enc (N:=[n0,n1,n2,n3,n4,n5]) (x:=x) (k:=4) (by simp) rfl h4;have a5:=hdAt_enc (N:=[n0,n1,n2,n3,n4,n5]) (x:=x) (k:=5) (by simp) rfl h5;simp only [List.getElem_cons_zero,List.getElem_cons_succ] at a0 a1 a2 a3 a4 a5;have hl:(hdB [n0,n1,n2,n3,n4,n5]).length=64:=hdB_l6;have hd:decH (hdB [n0,n1,n2,n3,n4,n5]++x)=⟨(n0:Int),(n1:Int),(n2:Int),(n3:Int),(n4:Int),(n5:Int)⟩:=by unfold decH;rw [a0,a1,a2,a3,a4,a5]
 have hs:(hdB [n0,n1,n2,n3,n4,n5]++x).take 16=signL:=by
  unfold hdB hdT;simp only [List.append_assoc];exact List.take_left' rfl
 have hy:decY (hdB [n0,n1,n2,n3,n4,n5]++x):=by
  unfold decY;rw [hd,a0,a1,a2,a3,a4,a5];exact ⟨hc,(List.take_left' hl).symm⟩
 rw [dec0 (by rw [List.length_append];omega) hs hy,hd]
theorem dec_enc {H:Hd} (hc:ChkP H) (x:List UInt8):decN (H.enc++x)=(H,0):=by
 have h0:=okZ_cases hc.1;have h1:=hc.2.1;have h2:=hc.2.2.1;have h3:=hc.2.2.2;obtain ⟨a,b,c,d,e,f⟩:=H;simp only at h0 h1 h2 h3;obtain ⟨a,rfl⟩:∃n:Nat,a=(n:Int):=⟨a.toNat,by omega⟩;obtain ⟨b,rfl⟩:∃n:Nat,b=(n:Int):=⟨b.toNat,by omega⟩;obtain ⟨c,rfl⟩:∃n:Nat,c=(n:Int):=⟨c.toNat,by
  by_cases h:d=0
  ·have:=h2.2.2.1 h;omega
  ·have:=h2.2.2.2 (by omega);omega⟩
 obtain ⟨d,rfl⟩:∃n:Nat,d=(n:Int):=⟨d.toNat,by omega⟩;obtain ⟨e,rfl⟩:∃n:Nat,e=(n:Int):=⟨e.toNat,by omega⟩;obtain ⟨f,rfl⟩:∃n:Nat,f=(n:Int):=⟨f.toNat,by omega⟩;have hcb:c<4294967296:=by
  by_cases h:d=0
  ·have:=h2.2.2.1 (by omega);omega
  ·have:=h2.2.2.2 (by omega);omega
 have hdb:d<4294967296:=by have:=h1.2.1;have:=h2.2.1;omega
 have heb:e<4294967296:=by have:=h3.1.2;omega
 have hfb:f<4294967296:=by have:=h3.2.2;omega
 exact dec_encN (n0:=a) (n1:=b) (n2:=c) (n3:=d) (n4:=e) (n5:=f) (x:=x) (by omega) (by omega) hcb hdb heb hfb hc
theorem hok_pg1 {z:Nat} {H:Hd} (hc:ChkP H) (hz:H.size=(z:Int)):hok (pg1 z H) z:=by
 unfold hok pg1;rw [dec_enc hc];exact ⟨rfl,hz⟩
theorem wth_len {l:List (List UInt8)} {no:Nat} {b:List UInt8} (h2:no≤l.length+1):(wth l no b).length=max l.length no:=by
 unfold wth;split
 ·simp;omega
 ·simp;omega
theorem wth_get {l:List (List UInt8)} {no:Nat} {b:List UInt8} (h1:1≤no) (h2:no≤l.length+1) (i:Nat):(wth l no b)[i]? = if i+1=no then some b else l[i]?:=by
 unfold wth;split
 ·rename_i h;rw [List.getElem?_append];split
  ·rw [if_neg (by omega)]
  ·rename_i h3;by_cases h4:i+1=no
   ·rw [if_pos h4,show i-l.length=0 by omega];rfl
   ·rw [if_neg h4,List.getElem?_eq_none (l:=l) (by omega),List.getElem?_eq_none (by simp;omega)]
 ·rw [List.getElem?_set];by_cases h4:i+1=no
  ·rw [if_pos (by omega),if_pos h4,if_pos (by omega)]
  ·rw [if_neg (by omega),if_neg h4]
theorem wth_mem {l:List (List UInt8)} {no:Nat} {b x:List UInt8} (h:x∈wth l no b):x=b∨x∈l:=by
 unfold wth at h;split at h
 ·rcases List.mem_append.1 h with h | h
  ·exact .inr h
  ·exact .inl (List.mem_singleton.1 h)
 ·exact (List.mem_or_eq_of_mem_set h).symm
theorem headD_get (l:List (List UInt8)):l.headD []=(l[0]?).getD []:=by cases l<;>rfl
structure VW {β:Type} (f:β→List UInt8) (ov:List (Int × β)) (many:Nat) (S now:List (List UInt8)):Prop where
 len:now.length=many
 sm:∀(i:Nat) x,i<many→mget ov ((i:Int)+1)=some x→now[i]? = some (f x)
 nn:∀i:Nat,i<many→mget ov ((i:Int)+1)=none→i<S.length∧now[i]? = S[i]?
 key:∀p∈ov,1≤p.1∧p.1≤(many:Int)
section
variable {β:Type} {f:β→List UInt8} {ov:List (Int × β)} {many:Nat} {S now:List (List UInt8)}
theorem VW.begin:VW f ([]:List (Int × β)) S.length S S:=⟨rfl,fun _ _ _ h=>(by cases h),fun _ h _=>⟨h,rfl⟩,by simp⟩
theorem VW.put (v:VW f ov many S now) {no:Nat} {x:β} (h1:1≤no) (h2:no≤many+1):VW f (mput ov (no:Int) x) (max many no) S (wth now no (f x)):=by
 have hl:=v.len;refine ⟨by rw [wth_len (by omega),hl],fun i y hi hg=>?_,fun i hi hg=>?_,fun p hp=>?_⟩
 ·rw [mget_mput] at hg;rw [wth_get h1 (by omega)];split at hg
  ·injection hg with hg;subst hg;rw [if_pos (by omega)]
  ·rename_i h3;rw [if_neg (by omega)];exact v.sm i y (by omega) hg
 ·rw [mget_mput] at hg;rw [wth_get h1 (by omega)];split at hg
  ·cases hg
  ·rename_i h3;rw [if_neg (by omega)];exact v.nn i (by omega) hg
 ·rcases mem_mput hp with rfl | hp
  ·simp only;omega
  ·have:=v.key p hp;omega
theorem mget_filt (n:Int) (k:Int):mget (ov.filter fun p=>decide (p.1≤n)) k=if k≤n then mget ov k else none:=by
 induction ov with
 | nil=>simp [mget]
 | cons p l ih=>
  rw [List.filter_cons];by_cases h:p.1≤n
  ·rw [if_pos (by simpa using h),mget_cons,mget_cons,ih];by_cases h2:p.1=k
   ·rw [if_pos h2,if_pos h2,if_pos (by omega)]
   ·rw [if_neg h2,if_neg h2]
  ·rw [if_neg (by simpa using h),ih,mget_cons];by_cases h3:k≤n
   ·rw [if_pos h3,if_pos h3,if_neg (by omega)]
   ·rw [if_neg h3,if_neg h3]
theorem VW.cut (v:VW f ov many S now) {n:Nat} (hn:n≤many):VW f (ov.filter fun p=>decide (p.1≤(n:Int))) n S (now.take n):=by
 have hl:=v.len;refine ⟨by rw [List.length_take];omega,fun i y hi hg=>?_,fun i hi hg=>?_,fun p hp=>?_⟩
 ·rw [mget_filt,if_pos (by omega)] at hg;rw [List.getElem?_take_of_lt hi];exact v.sm i y (by omega) hg
 ·rw [mget_filt,if_pos (by omega)] at hg;rw [List.getElem?_take_of_lt hi];exact v.nn i (by omega) hg
 ·have:=List.mem_filter.1 hp;have h2:=v.key p this.1;have h3:p.1≤(n:Int):=by simpa using this.2
  exact ⟨h2.1,h3⟩
end
theorem PgsK.wth {z no:Nat} {l:List (List UInt8)} {b:List UInt8} (p:PgsK z l) (hb:b.length=z) (h1:1≤no) (h2:no≤l.length+1) (hm:no*z≤16777216) (hh:no=1∨l=[]→hok b z):PgsK z (wth l no b):=by
 refine ⟨fun x hx=>(wth_mem hx).elim (fun e=>e▸hb) (p.len x),fun _=>?_,?_⟩
 ·rw [headD_get,wth_get h1 h2];by_cases h3:0+1=no
  ·rw [if_pos h3];exact hh (.inl h3.symm)
  ·rw [if_neg h3];have:l≠[]:=fun e=>by subst e;simp at h2;omega
   rw [←headD_get];exact p.hd this
 ·rw [wth_len h2];have:=p.many;rcases Nat.le_total l.length no with h | h
  ·rw [Nat.max_eq_right h];exact hm
  ·rw [Nat.max_eq_left h];exact this
theorem PgsK.take {z:Nat} {l:List (List UInt8)} (p:PgsK z l) (n:Nat):PgsK z (l.take n):=by
 refine ⟨fun x hx=>p.len x (List.mem_of_mem_take hx),fun h=>?_,Nat.le_trans (Nat.mul_le_mul_right _ (by rw [List.length_take];omega)) p.many⟩;cases n with
 | zero=>simp at h
 | succ n=>
  cases l with
  | nil=>simp at h
  | cons a l=>exact p.hd (by simp)
open Go Go.HL
structure RC where
 kind:Nat
 pos:Nat
 ba:Option Addr
 bc:Nat
 bl:List UInt8
def RC.abs (c:RC):Chn:=⟨c.kind,c.pos,c.bl⟩
def RC.cells (c:RC):List Value:=[.int .i64 (c.kind:Int),.int .i64 (c.pos:Int),.slice c.ba c.bl.length c.bc]
theorem RC.cells_len (c:RC):c.cells.length=3:=rfl
structure RF where
 blk:Nat
 na:Option Addr
 nc:Nat
 nl:List UInt8
 sa:Option Addr
 sc:Nat
 sl:List UInt8
 here:Bool
 was:Bool
 oa:Option Addr
 oc:Nat
 ol:List RC
def RF.abs (f:RF):Fl:=⟨f.nl,f.sl,f.here,f.was,f.ol.map RC.abs⟩
@[reducible] def fboxI (f:RF):Itm:=boxI f.blk 156 [.slice f.na f.nl.length f.nc,.slice f.sa f.sl.length f.sc,.bool f.here,.bool f.was,.slice f.oa f.ol.length f.oc]
@[reducible] def fopnI (f:RF):Itm:=capI 3 158 (f.oa,f.ol.length,f.oc) (f.ol.flatMap RC.cells)
def fileI (f:RF):List Itm:=[fboxI f,fopnI f]
abbrev Fs:=List (List UInt8 × RF)
def flsI (fs:Fs):Itm:=starI (fs.flatMap fun p=>fileI p.2)
def ptrF (f:RF):Value:=.pointer (some ⟨f.blk,0,none⟩)
def ents (fs:Fs):List (List UInt8 × Value):=fs.map fun p=>(p.1,ptrF p.2)
def bget (fs:Fs) (n:List UInt8):Option RF:=(fs.find? fun p=>p.1=n).map (·.2)
def bput:Fs→List UInt8→RF→Fs
 | [],n,f=>[(n,f)]
 | p::l,n,f=>if p.1=n then (n,f)::l else p::bput l n f
def bdel (fs:Fs) (n:List UInt8):Fs:=fs.filter fun p=>decide (p.1≠n)
structure RD where
 m:Nat
 fs:Fs
 dark:Bool
 left:Int
 chg:Int
def RD.abs (r:RD):Dk:=⟨fun n=>(bget r.fs n).map RF.abs,r.dark,r.left,r.chg⟩
@[reducible] def dboxI (d:Nat) (r:RD):Itm:=boxI d 137 [.map (some r.m),.bool r.dark,.int .i64 r.left,.int .i64 r.chg]
def dskI (d:Nat) (r:RD):Itm:=starI (dboxI d r::mapI kvB r.m (ents r.fs)::r.fs.flatMap fun p=>fileI p.2)
section
variable {fs:Fs} {n m:List UInt8} {f g:RF}
theorem bget_mem:∀ {fs:Fs},bget fs n=some f→(n,f)∈fs
 | [],h=>by simp [bget] at h
 | p::l,h=>by
  by_cases hp:p.1=n
  ·subst hp;simp [bget] at h;subst h;exact List.mem_cons_self
  ·exact List.mem_cons_of_mem _ (bget_mem (fs:=l) (by simpa [bget,hp] using h))
theorem bget_cons (p:List UInt8 × RF) (l:Fs) (n:List UInt8):bget (p::l) n=if p.1=n then some p.2 else bget l n:=by
 by_cases h:p.1=n<;>simp [bget,h]
theorem bput_cons (p:List UInt8 × RF) (l:Fs) (n:List UInt8) (f:RF):bput (p::l) n f=if p.1=n then (n,f)::l else p::bput l n f:=rfl
theorem bget_put:bget (bput fs n f) m=if m=n then some f else bget fs m:=by
 induction fs with
 | nil=>by_cases h:n=m<;>simp [bput,bget,h,eq_comm]
 | cons p l ih=>
  rw [bput_cons];split
  ·rename_i h;rw [bget_cons,bget_cons];by_cases h2:n=m
   ·subst h2;simp
   ·rw [if_neg h2,if_neg (by intro e;exact h2 e.symm),if_neg (by rw [h];exact h2)]
  ·rename_i h;rw [bget_cons,bget_cons,ih];by_cases h2:p.1=m
   ·rw [if_pos h2,if_pos h2,if_neg (by intro e;exact h (h2.trans e))]
   ·rw [if_neg h2,if_neg h2]
theorem bget_del:bget (bdel fs n) m=if m=n then none else bget fs m:=by
 induction fs with
 | nil=>simp [bdel,bget]
 | cons p l ih=>
  rw [bget_cons];unfold bdel at ih⊢;rw [List.filter_cons];by_cases h:p.1=n
  ·simp only [h,ne_eq,not_true,decide_false];by_cases h2:m=n
   ·subst h2;simpa using ih
   ·have h3:¬n=m:=fun e=>h2 e.symm;rw [if_neg h3];simpa using ih
  ·simp only [h,ne_eq,not_false_iff,decide_true,if_true];rw [bget_cons,ih];by_cases h2:p.1=m
   ·have h3:¬m=n:=fun e=>h (h2.trans e);simp [h2,h3]
   ·simp [h2]
theorem bget_none_iff:bget fs n=none↔∀p∈fs,p.1≠n:=by
 induction fs with
 | nil=>simp [bget]
 | cons p l ih=>
  rw [bget_cons];by_cases h:p.1=n
  ·simp [h]
  ·simp [h,ih]
theorem bdel_none (h:bget fs n=none):bdel fs n=fs:=by
 unfold bdel;rw [List.filter_eq_self];intro p hp;simpa using bget_none_iff.1 h p hp
theorem perm_get (hn:(fs.map (·.1)).Nodup) (h:bget fs n=some f):fs.Perm ((n,f)::bdel fs n):=by
 induction fs with
 | nil=>simp [bget] at h
 | cons p l ih=>
  have h1:=List.nodup_cons.1 hn;rw [bget_cons] at h;by_cases hp:p.1=n
  ·rw [if_pos hp] at h;injection h with h;have e:bdel (p::l) n=l:=by
    have:bget l n=none:=bget_none_iff.2 fun q hq e=>h1.1 (List.mem_map.2 ⟨q,hq,e.trans hp.symm⟩);have h2:=bdel_none this;unfold bdel at h2⊢;rw [List.filter_cons];simp [hp];simpa using h2
   rw [e,←h,←hp]
  ·rw [if_neg hp] at h;have e:bdel (p::l) n=p::bdel l n:=by unfold bdel;rw [List.filter_cons];simp [hp]
   rw [e];exact ((ih h1.2 h).cons p).trans (.swap _ _ _)
theorem bdel_put:bdel (bput fs n f) n=bdel fs n:=by
 induction fs with
 | nil=>simp [bput,bdel]
 | cons p l ih=>
  rw [bput_cons];split
  ·rename_i h;simp [bdel,h]
  ·rename_i h;unfold bdel at ih⊢;rw [List.filter_cons,List.filter_cons,ih]
theorem keys_put (f:RF) (h:bget fs n=some g):(bput fs n f).map (·.1)=fs.map (·.1):=by
 induction fs with
 | nil=>simp [bget] at h
 | cons p l ih=>
  rw [bput_cons];split
  ·rename_i hp;simp [hp]
  ·rename_i hp;rw [bget_cons,if_neg hp] at h;simp [ih h]
theorem bput_none (h:bget fs n=none):bput fs n f=fs++[(n,f)]:=by
 induction fs with
 | nil=>rfl
 | cons p l ih=>
  rw [bget_cons] at h;split at h
  ·cases h
  ·rename_i hp;rw [bput_cons,if_neg hp,ih h];rfl
theorem nodup_put (hn:(fs.map (·.1)).Nodup):((bput fs n f).map (·.1)).Nodup:=by
 cases h:bget fs n with
 | some g=>rw [keys_put f h];exact hn
 | none=>
  rw [bput_none h,List.map_append];refine List.nodup_append.2 ⟨hn,by simp,fun a ha b hb=>?_⟩;obtain ⟨p,hp,rfl⟩:=List.mem_map.1 ha;simp at hb;subst hb;exact bget_none_iff.1 h p hp
theorem perm_put (hn:(fs.map (·.1)).Nodup):(bput fs n f).Perm ((n,f)::bdel fs n):=by
 have h:=perm_get (fs:=bput fs n f) (n:=n) (f:=f) (nodup_put hn) (by rw [bget_put,if_pos rfl]);rwa [bdel_put] at h
theorem ents_keys:(ents fs).map (·.1)=fs.map (·.1):=by simp [ents,Function.comp_def]
theorem ents_get:aget (ents fs) n=(bget fs n).map ptrF:=by
 induction fs with
 | nil=>rfl
 | cons p l ih=>
  rw [bget_cons];by_cases h:p.1=n
  ·simp [ents,aget,h]
  ·simpa [ents,aget,h] using ih
theorem ents_put:aput (ents fs) n (ptrF f)=ents (bput fs n f):=by
 induction fs with
 | nil=>rfl
 | cons p l ih=>
  rw [bput_cons];by_cases h:p.1=n
  ·simp [ents,aput,h]
  ·simpa [ents,aput,h] using ih
theorem ents_same (h:bget fs n=some g) (hb:f.blk=g.blk):ents (bput fs n f)=ents fs:=by
 induction fs with
 | nil=>simp [bget] at h
 | cons p l ih=>
  rw [bput_cons];rw [bget_cons] at h;by_cases hp:p.1=n
  ·rw [if_pos hp] at h⊢;injection h with h;subst h;simp [ents,hp,ptrF,hb]
  ·rw [if_neg hp] at h⊢;simpa [ents] using ih h
theorem ents_del:adel (ents fs) n=ents (bdel fs n):=by simp [adel,ents,bdel,List.filter_map,Function.comp_def]
end
end Go.Proofs.YtndlpekckpdncaaGreat
namespace Go.HL
open Go Go.Proofs.YtndlpekckpdncaaGreat
section
variable {h0 h h':Heap} {D G:Nat→Prop} {M R:List Itm} {d:Nat} {r r':RD} {fs:Fs} {n:List UInt8} {f:RF} {E E':Nat→Prop}
theorem Hp.dopn (ok:Hp h0 D (dskI d r::M) R h):Hp h0 D (dboxI d r::mapI kvB r.m (ents r.fs)::flsI r.fs::M) R h:=Hp.star2 ok
theorem Hp.dcls (ok:Hp h0 D (dboxI d r::mapI kvB r.m (ents r.fs)::flsI r.fs::M) R h):Hp h0 D (dskI d r::M) R h:=Hp.unstar2 ok
theorem Hp.fopn (hn:(fs.map (·.1)).Nodup) (hg:bget fs n=some f) (ok:Hp h0 D (flsI fs::M) R h):Hp h0 D (fboxI f::fopnI f::flsI (bdel fs n)::M) R h:=
 Hp.star2 (Hp.starP (l':=((n,f)::bdel fs n).flatMap fun p:List UInt8 × RF=>fileI p.2) ok ((perm_get hn hg).flatMap_right _).symm)
theorem Hp.fcls (hn:(fs.map (·.1)).Nodup) (ok:Hp h0 D (fboxI f::fopnI f::flsI (bdel fs n)::M) R h):Hp h0 D (flsI (bput fs n f)::M) R h:=
 Hp.starP (l':=(bput fs n f).flatMap fun p:List UInt8 × RF=>fileI p.2) (Hp.unstar2 ok) ((perm_put hn).flatMap_right _)
structure ByF (h:Heap) (E:Nat→Prop) (f:RF):Prop where
 now:RdL h E E (f.na,f.nl.length,f.nc) f.nl
 safe:RdL h E E (f.sa,f.sl.length,f.sc) f.sl
 opn:∀c∈f.ol,RdL h E E (c.ba,c.bl.length,c.bc) c.bl
theorem ByF.st (c:Chg G h h') (hE:∀j,E j→¬G j) (b:ByF h E f):ByF h' E f:=⟨b.now.st c hE hE,b.safe.st c hE hE,fun x hx=>(b.opn x hx).st c hE hE⟩
theorem ByF.mono (hE:∀j,E j→E' j) (b:ByF h E f):ByF h E' f:=⟨b.now.mono hE hE,b.safe.mono hE hE,fun x hx=>(b.opn x hx).mono hE hE⟩
def Bys (h:Heap) (E:Nat→Prop) (fs:Fs):Prop:=∀p∈fs,ByF h E p.2
@[reducible] def bysI (E:Nat→Prop) (fs:Fs):Itm:=⟨fun h=>Bys h E fs,E,fun _ _ _ c d b p hp=>(b p hp).st c d⟩
theorem Bys.get (b:Bys h E fs) (hg:bget fs n=some f):ByF h E f:=b _ (bget_mem hg)
theorem Bys.mono (hE:∀j,E j→E' j) (b:Bys h E fs):Bys h E' fs:=fun p hp=>(b p hp).mono hE
theorem mem_bput {fs:Fs} {n:List UInt8} {f:RF} {p:List UInt8 × RF} (h:p∈bput fs n f):p=(n,f)∨p∈fs:=by
 induction fs with
 | nil=>simp [bput] at h;exact .inl h
 | cons q l ih=>
  rw [bput_cons] at h;split at h
  ·rcases List.mem_cons.1 h with h | h
   ·exact .inl h
   ·exact .inr (List.mem_cons_of_mem _ h)
  ·rcases List.mem_cons.1 h with h | h
   ·exact .inr (by rw [h];exact List.mem_cons_self)
   ·exact (ih h).imp id (List.mem_cons_of_mem _)
theorem Bys.put (b:Bys h E fs) (hf:ByF h E f):Bys h E (bput fs n f):=fun p hp=>by
 rcases mem_bput hp with rfl | hp
 ·exact hf
 ·exact b p hp
theorem Bys.del (b:Bys h E fs):Bys h E (bdel fs n):=fun p hp=>b p ((List.mem_filter.1 hp).1)
structure DUp (h h':Heap) (d:Nat) (r r':RD) (E E':Nat→Prop):Prop where
 hp:Hp h (dskI d r).F [dskI d r'] [bysI E' r'.fs] h'
 new:∀j,E' j→E j∨h.size≤j
theorem Hp.loc1 {a b:Itm} (ok:Hp h0 D (a::M) (b::R) h):Hp h a.F [a] [b] h:=
 ⟨Chg.refl _ _,fun i hi=>by
  rw [List.mem_singleton.1 hi];exact ⟨ok.m0,fun j hj=>⟨((ok.m a List.mem_cons_self).2 j hj).1,.inl hj⟩⟩,fun i hi=>by
  rw [List.mem_singleton.1 hi];exact ok.r b List.mem_cons_self,List.pairwise_singleton _ _,fun x hx y hy=>by
  rw [List.mem_singleton.1 hx,List.mem_singleton.1 hy];exact ok.mr a List.mem_cons_self b List.mem_cons_self⟩
theorem Hp.rdo {a b:Itm} (ok:Hp h0 D (a::M) (b::R) h):Hp h none_ [] [a,b] h:=
 ⟨Chg.refl _ _,by simp,fun i hi=>by
  rcases List.mem_cons.1 hi with rfl | hi
  ·exact ⟨ok.m0,fun j hj=>((ok.m i List.mem_cons_self).2 j hj).1⟩
  ·rw [List.mem_singleton.1 hi];exact ok.r b List.mem_cons_self,.nil,by simp⟩
theorem Hp.dsk (ok:Hp h0 D (dskI d r::M) (bysI E r.fs::R) h) (q:DUp h h' d r r' E E'):Hp h0 D (dskI d r'::M) (bysI E' r'.fs::R) h':=by
 have o:=ok.upd q.hp.chg (fun _ x=>x) (dskI d r') q.hp.m0 fun j hj=>by
  have h1:=(q.hp.m _ List.mem_cons_self).2 j hj;exact h1.2.imp id fun h=>⟨h,h1.1⟩
 refine ⟨o.chg,o.m,fun i hi=>?_,o.mm,fun x hx y hy j hj hj2=>?_⟩
 ·rcases List.mem_cons.1 hi with rfl | hi
  ·exact q.hp.r _ List.mem_cons_self
  ·exact o.r i (List.mem_cons_of_mem _ hi)
 ·rcases List.mem_cons.1 hy with rfl | hy
  ·rcases List.mem_cons.1 hx with rfl | hx
   ·exact q.hp.mr _ List.mem_cons_self _ List.mem_cons_self j hj hj2
   ·rcases q.new j hj2 with h1 | h1
    ·exact ok.mr x (List.mem_cons_of_mem _ hx) _ List.mem_cons_self j hj h1
    ·have:=((ok.m x (List.mem_cons_of_mem _ hx)).2 j hj).1;omega
  ·exact o.mr x hx y (List.mem_cons_of_mem _ hy) j hj hj2
theorem Hp.up {R':List Itm} (q:Hp h (dskI d r).F [dskI d r'] (bysI E' r'.fs::R') h') (hE:∀j,E' j→E j∨h.size≤j):DUp h h' d r r' E E':=⟨q.sub (by simp),hE⟩
theorem Hp.lift1 {a b:Itm} (ok:Hp h0 D (a::M) R h) (q:Hp h a.F [b] [] h'):Hp h0 D (b::M) R h':=
 ok.upd q.chg (fun _ x=>x) b q.m0 fun j hj=>by
  have h1:=(q.m _ List.mem_cons_self).2 j hj;exact h1.2.imp id fun h=>⟨h,h1.1⟩
theorem Hp.loc0 {a:Itm} (ok:Hp h0 D (a::M) R h):Hp h a.F [a] [] h:=
 ⟨Chg.refl _ _,fun i hi=>by
  rw [List.mem_singleton.1 hi];exact ⟨ok.m0,fun j hj=>⟨((ok.m a List.mem_cons_self).2 j hj).1,.inl hj⟩⟩,by simp,List.pairwise_singleton _ _,by simp⟩
end
end Go.HL
namespace Go.Proofs.YtndlpekckpdncaaGreat
open Go Go.HL
theorem long_cut {h0 h:Heap} {D:Nat→Prop} {M R:List Itm} {e:TypeId} {a:Option Addr} {c n:Nat} {l:List UInt8} (ok:Hp h0 D (capI 1 e (a,l.length,c) (l.map bv)::M) R h) (hn:n≤l.length):Hp h0 D (capI 1 e (a,(longN l n).length,n) ((longN l n).map bv)::M) R h:=by
 have h1:=Cap.clip (Cap.pre ok.m0 hn);rw [Nat.mul_one,←List.map_take,←longN_le hn] at h1;refine ok.re _ (by simp only [longN_len];exact h1) fun j hj=>?_;obtain ⟨o,n',c',hv⟩:=hj;injection hv with h1 h2 h3;exact ⟨o,_,_,by rw [←h1]⟩
theorem long_any {h:Heap} {n:Nat} {a:Option Addr} {c:Nat} {l:List UInt8} (ok:Hp h (blkC (sv (a,l.length,c))) [capI 1 5 (a,l.length,c) (l.map bv)] [] h) (hN:l.length≤100000000) (hn:n≤100000000) :
  HC Tryz.prog 150 #[.slice a l.length c,.int .i64 (n:Int)] h (fun v h'=>∃a' c',v=.slice a' (longN l n).length c'∧Hp h (blkC (sv (a,l.length,c))) [capI 1 5 (a',(longN l n).length,c') ((longN l n).map bv)] [] h'):=by
 have hle:l.length≤c:=Cap.le ok.m0;refine HC.go Tryz.func150 19 ?_;refine .s<|.z .asS<|.nil<|.seq<|.s<|.z .mvI<|.z .mvS<|.z (.len T.el44)<|.z .leq<|.nil<|.cd (fun C0=>?_) (fun C0=>?_)
 ·
  refine .s<|.z .mvS<|.z .mvI<|.z .mvI<|.z (.slhm n n T.el44 T.sz5)<|.z .asS<|.nil<|.ret ⟨.slice a n n,Res.one rfl rfl,⟨a,n,by rw [longN_len],long_cut ok (by omega)⟩⟩
 refine .skip<|.s<|.z .mvS<|.z .mvI<|.z .mvS<|.z (.len T.el44)<|.z .sub<|.a' 18 (.apz (z:=((n:Int)-(l.length:Int))) (n-l.length) T.el44 T.in3 T.sz5 T.by5 T.zr5 ok (by omega) (by omega)) ?_;rintro _ η1 ⟨ya1,yc1,rfl,ok⟩;refine .z .asS<|.nil<|.ret ⟨.slice ya1 ((l++List.replicate (n-l.length) 0).length) yc1,Res.one rfl rfl,⟨_,_,by rw [longN_ge (by omega)],by rw [longN_ge (by omega)];exact ok⟩⟩
theorem done0 {pos:Nat} {bl l:List UInt8} {here:Bool} : doneN ⟨0,pos,bl⟩ l here=(patchN (longN l (max l.length (pos+bl.length))) pos bl,true):=by simp [doneN]
theorem done1 {pos:Nat} {bl l:List UInt8} : doneN ⟨1,pos,bl⟩ l true=(longN l pos,true):=by simp [doneN]
theorem done2 {kind pos:Nat} {bl l:List UInt8} {here:Bool} (h1:kind≠0) (h2:kind=1→here=false):doneN ⟨kind,pos,bl⟩ l here=([],false):=by
 unfold doneN;rw [if_neg h1,if_neg];rintro ⟨h3,h4⟩;simp only at h3;rw [h2 h3] at h4;cases h4
theorem spl_patch {o b:List UInt8} {p:Nat} : spl (o.map bv) (p*1) (b.map bv)=(patchN o p b).map bv:=by simp [spl,patchN]
theorem done_any {h:Heap} {F E F2 E2:Nat→Prop} {kind pos:Nat} {ba a:Option Addr} {bc c:Nat} {bl l:List UInt8} {here:Bool} (hb:RdL h F2 E2 (ba,bl.length,bc) bl) (hl:RdL h F E (a,l.length,c) l) (hp:pos+bl.length≤16777216) (hL:l.length≤16777216) :
  HC Tryz.prog 108 #[.agg #[.int .i64 (kind:Int),.int .i64 (pos:Int),.slice ba bl.length bc],.slice a l.length c,.bool here] h (fun v h'=>∃w,v=.tuple #[w,.bool (doneN ⟨kind,pos,bl⟩ l here).2]∧Own h h' 1 5 w ((doneN ⟨kind,pos,bl⟩ l here).1.map bv)):=by
 have ok:=((Hp.nil h none_).arg hb).arg hl;refine HC.go Tryz.func108 45 ?_;refine .s<|.a' 3 (.bxA (cs:=[.int .i64 (kind:Int),.int .i64 (pos:Int),.slice ba bl.length bc]) ok) ?_;rintro _ η1 ⟨pb1,rfl,ok,xe⟩;refine .z .asS<|.z .asB<|.nil<|.seq<|.block fun K0 hK0=>.s<|.z (.fa T.fd158_0)<|.z (.ldx T.ag3 ok.m0)<|.z .eql<|.z .asB<|.nil<|.cd (fun C0=>?_) (fun C0=>?_)
 ·
  refine .seq<|.a 13 (fun fl hh=>Hp h none_ [boxI pb1 158 [.int .i64 (kind:Int),.int .i64 (pos:Int),.slice ba bl.length bc]] [rdI (fun j=>F j∧j<h.size) (fun j=>E j∧j<h.size) (a,l.length,c) l,rdI (fun j=>F2 j∧j<h.size) (fun j=>E2 j∧j<h.size) (ba,bl.length,bc) bl] hh) mixed ?_;have hS:=ok;refine .g 0 false rfl 13 hS (fun _=>.mvS)<|.g 2 false rfl 15 hS (fun _=>.mvS)<|.g 3 false rfl 16 hS (fun _=>.len T.el44)<|.g 4 false rfl 17 hS (fun _=>.fa T.fd158_1)<|.lw 5 false rfl 18 hS (fun _ _ hS=>.ldx T.ag3 hS.m0)<|.g 6 false rfl 19 hS (fun _=>.fa T.fd158_2)<|.lw 7 false rfl 20 hS (fun _ _ hS=>.ldx T.ag44 hS.m0)<|.g 8 false rfl 21 hS (fun _=>.len T.el44)<|.g 9 false rfl 22 hS (fun _=>.addI)<|.g 10 false rfl 23 hS (fun _=>.maxn)<|.o1 1<|.c' false rfl 14 .func (bclone_any (a:=a) (c:=c) (l:=l) ok.r0 (by omega)) ?_;rintro _ η2 own;obtain ⟨ya1,yc1,rfl⟩:=own.formB;have ok:=ok.own own;refine ⟨ok.n1.k1,?_⟩;have hS:=ok.n1.k1;refine .o1 11<|.c' false rfl 24 .func (long_any (n:=(max l.length (pos+bl.length))) (ok).loc0 (by omega) (by omega)) ?_;rintro _ η3 ⟨ya2,yc2,rfl,q⟩;have ok:=(ok).lift1 q;refine ⟨ok.n1.k1,?_⟩;have hS:=ok.n1.k1;refine .g 12 false rfl 8 hS (fun _=>.asS)<|.e ?_;refine .seq<|.t 6 mixed ?_;simp only [List.take_succ_cons,List.take_zero,List.drop_succ_cons,List.drop_zero];refine .z .mvS<|.z (.fa T.fd158_1)<|.z (.ldx T.ag3 ok.m1)<|.z (.sll pos T.el44 T.sz5 (hb:=by rw [longN_len];omega))<|.z (.fa T.fd158_2)<|.z (.ldx T.ag44 ok.m1)<|.nil ?_;refine .a' 31 (.cpyA (n:=(longN l (max l.length (pos+bl.length))).length) (ys:=bl.map bv) (m:=bl.length) pos T.el44 T.sz5 ok ok.r1.by bv_all rfl (him:=by rw [longN_len];omega)) ?_;rintro _ η4 ⟨rfl,ok,cg⟩;refine .nil ?_;refine .s<|.z .mvS<|.z .asS<|.z .asB<|.nil<|.ret ⟨.tuple #[.slice ya2 ((longN l (max l.length (pos+bl.length))).length) yc2,.bool true],Res.two rfl rfl rfl,⟨_,by rw [show kind=0 from by omega,done0],by rw [show kind=0 from by omega,done0];have ok:=(ok).cx spl_patch;exact ok.toOwn⟩⟩
 refine .s<|.z (.fa T.fd158_0)<|.z (.ldx T.ag3 ok.m0)<|.z .eql<|.z .mvB<|.sd (fun G37=>?_) (fun G37=>?_)
 ·
  refine .z .mvB<|.z .pkt<|.z .asB<|.nil<|.cond (fun C1=>?_) (fun C1=>?_)
  ·
   refine .seq<|.a 4 (fun fl hh=>cond fl True (Hp h none_ [boxI pb1 158 [.int .i64 (kind:Int),.int .i64 (pos:Int),.slice ba bl.length bc]] [rdI (fun j=>F j∧j<h.size) (fun j=>E j∧j<h.size) (a,l.length,c) l,rdI (fun j=>F2 j∧j<h.size) (fun j=>E2 j∧j<h.size) (ba,bl.length,bc) bl] hh)) mixed ?_;have hS:=ok;refine .g 0 false rfl 40 hS (fun _=>.mvS)<|.g 2 false rfl 42 hS (fun _=>.fa T.fd158_1)<|.l 3 false rfl 43 hS (fun _ hS=>.ldx T.ag3 hS.m0)<|.o1 1<|.c' false rfl 41 .func (bclone_any (a:=a) (c:=c) (l:=l) ok.r0 (by omega)) ?_;rintro _ η5 own;obtain ⟨ya3,yc3,rfl⟩:=own.formB;have ok:=ok.own own;refine ⟨ok.n1.k1,?_⟩;have hS:=ok.n1.k1;refine .o1 4<|.c' true rfl 44 .func (long_any (n:=pos) (ok).loc0 (by omega) (by omega)) ?_;rintro _ η6 ⟨ya4,yc4,rfl,q⟩;have ok:=(ok).lift1 q;refine ⟨trivial,?_⟩;refine .g 5 true rfl 6 trivial (fun _=>.asS)<|.g 6 true rfl 7 trivial (fun _=>.asB)<|.e ?_;refine .ret ⟨.tuple #[.slice ya4 ((longN l pos).length) yc4,.bool true],Res.two rfl rfl rfl,⟨_,by rw [show kind=1 from by omega,C1,done1],by rw [show kind=1 from by omega,C1,done1];exact (ok).toOwn⟩⟩
  refine .skip<|.end<|hK0 _ _<|.s<|.z .asS<|.z .asB<|.nil<|.ret ⟨.tuple #[.slice none 0 0,.bool false],Res.two rfl rfl rfl,⟨_,by rw [done2 (by omega) (by intro h1;first | exact absurd h1 (by omega) | simpa using C1)],by rw [done2 (by omega) (by intro h1;first | exact absurd h1 (by omega) | simpa using C1)];exact ok.tM.nilC.toOwn⟩⟩
 refine .y<|.z .pkf<|.z .asB<|.nil<|.cf<|.skip<|.end<|hK0 _ _<|.s<|.z .asS<|.z .asB<|.nil<|.ret ⟨.tuple #[.slice none 0 0,.bool false],Res.two rfl rfl rfl,⟨_,by rw [done2 (by omega) (by intro h1;first | exact absurd h1 (by omega) | simpa using C1)],by rw [done2 (by omega) (by intro h1;first | exact absurd h1 (by omega) | simpa using C1)];exact ok.tM.nilC.toOwn⟩⟩
theorem RdL.ofCapI {h:Heap} {e:TypeId} {v:SV} {l:List Int} (c:Cap h 1 e (sv v) (l.map iv)):RdL h any_ any_ v l:=(RdL.of_cap1 (E:=any_) (f:=iv) rfl (fun _ _ _=>rfl) c).mono (fun _ _=>trivial) (fun _ h=>h)
theorem wrong1 {d:Dk} {n:List UInt8} {zs:List Int} (h:n.length<1∨32<n.length∨∃z∈zs,z<0):wrongN d n zs=1:=by unfold wrongN;rw [if_pos h]
theorem wrong13 {d:Dk} {n:List UInt8} {zs:List Int} (h:¬(n.length<1∨32<n.length∨∃z∈zs,z<0)) (hd:d.dark=true):wrongN d n zs=13:=by unfold wrongN;rw [if_neg h,if_pos hd]
theorem wrong0 {d:Dk} {n:List UInt8} {zs:List Int} (h:¬(n.length<1∨32<n.length∨∃z∈zs,z<0)) (hd:¬d.dark=true):wrongN d n zs=0:=by unfold wrongN;rw [if_neg h,if_neg hd]
theorem neg_any {h:Heap} {z:Int} :
  HC Tryz.prog 230 #[.int .i64 z] h (fun v h'=>v=.bool (decide (z<0))∧h'=h):=by
 refine HC.go Tryz.func230 5 ?_;refine .s<|.z .asB<|.nil<|.s<|.z .mvI<|.z .lss<|.z .asB<|.nil<|.ret ⟨.bool (decide (z<0)),Res.one rfl rfl,⟨rfl,rfl⟩⟩
theorem ixf_any {h:Heap} {F E:Nat→Prop} {a:Option Addr} {c:Nat} {l:List Int} (hl:RdL h F E (a,l.length,c) l) :
  HC Tryz.prog 246 #[.slice a l.length c,.func (.func 230) #[] #[]] h (fun v h'=>∃i:Int,v=.int .i64 i∧((0≤i∧∃z∈l,z<0)∨(i<0∧¬ ∃z∈l,z<0))∧h'=h):=by
 have hc2:=hl.m;have hc1:l.length≤c:=hl.c;simp only at hc2;refine HC.go Tryz.func246 19 ?_;refine .s<|.z .asI<|.nil<|.seq<|.s<|.z .mvS<|.z (.len T.el24)<|.z .mvI<|.nil<|.block fun K0 hK0=>.loop (fun m s hh=>∃(i:Nat),Has s [(0,.slice a l.length c),(1,.func (.func 230) #[] #[]),(7,.int .i64 (l.length:Int)),(8,.int .i64 (i:Int))]∧h=hh∧i≤l.length∧(∀j (hj:j<l.length),j<i→¬l[j]<0)∧m=l.length-i) ?_ ?_
 ·exact ⟨_,0,⟨rfl,rfl,rfl,rfl,trivial⟩,rfl,Nat.zero_le _,fun _ _ h=>absurd h (by omega),rfl⟩
 rintro _ _ _ ⟨i,hs,rfl,hi,hz,rfl⟩ J0 hJ0;refine .frame hs fun τ=>?_;refine .s<|.z .lss<|.nil<|.seq<|.cdr (fun C0=>?_) (fun C0=>?_)
 ·
  have hil:i=l.length:=by omega
  refine .exit<|hK0 _ _<|.s<|.z .asI<|.nil<|.ret ⟨.int .i64 (-1),Res.one rfl rfl,⟨_,rfl,.inr ⟨by decide,fun ⟨z,hzm,hz0⟩=>(by obtain ⟨j,hj,rfl⟩:=List.mem_iff_getElem.1 hzm;exact hz j hj (by omega) hz0)⟩,rfl⟩⟩
 have hil:i<l.length:=by omega
 refine .skip<|.seq<|.block fun K1 hK1=>.s<|.z .mvI<|.z .asI<|.nil<|.s<|.z .mvF<|.z .mvS<|.z .mvI<|?_;obtain ⟨bb1,oo1,rfl,fb1⟩:=hl.pos (by omega);refine .z (.ix1 i T.el24 T.sz3)<|.z (.ld T.ag3 (hl.i64 (i:=i) (by omega)))<|.k 16 .dyn (neg_any (z:=l[i]))<|.nil<|.cd (fun C1=>?_) (fun C1=>?_)
 ·
  refine .s<|.z .mvI<|.z .asI<|.nil<|.ret ⟨.int .i64 (i:Int),Res.one rfl rfl,⟨_,rfl,.inl ⟨by omega,_,List.getElem_mem hil,C1⟩,rfl⟩⟩
 refine .skip<|.end<|hK1 _ _<|.r<|.z (.addI (b:=1))<|.z .mvI<|.nil<|.end<|hJ0 _ _ _ ⟨i+1,⟨rfl,rfl,rfl,rfl,trivial⟩,rfl,by omega,fun j hj h=>(by by_cases hji:j=i;(subst hji;exact C1);exact hz j hj (by omega)),rfl⟩ (by omega)
theorem anyneg_any {h:Heap} {F E:Nat→Prop} {a:Option Addr} {c:Nat} {l:List Int} (hl:RdL h F E (a,l.length,c) l) :
  HC Tryz.prog 229 #[.slice a l.length c,.func (.func 230) #[] #[]] h (fun v h'=>v=.bool (decide (∃z∈l,z<0))∧h'=h):=by
 have hc2:=hl.m;have hc1:l.length≤c:=hl.c;simp only at hc2;refine HC.go Tryz.func229 9 ?_;refine .s<|.z .asB<|.nil<|.s<|.z .mvS<|.z .mvF<|.c' 7 .func (ixf_any (a:=a) (c:=c) (l:=l) hl) ?_;rintro _ _ ⟨ix1,rfl,hix1,heq⟩;obtain rfl:=heq.symm;refine .z .geq<|.z .asB<|.nil<|.ret ⟨.bool (decide (0≤ix1)),Res.one rfl rfl,⟨congrArg Value.bool (decide_eq_decide.2 ⟨fun h1=>hix1.elim (·.2) fun h2=>absurd h1 (by omega),fun h1=>hix1.elim (·.1) fun h2=>absurd h1 h2.2⟩),rfl⟩⟩
theorem wrong_any {h:Heap} {F E:Nat→Prop} {d:Nat} {r:RD} {n:List UInt8} {a:Option Addr} {c:Nat} {l:List Int} (hd:(dboxI d r).p h) (hl:RdL h F E (a,l.length,c) l) :
  HC Tryz.prog 211 #[.pointer (some ⟨d,0,none⟩),.string (BA n),.slice a l.length c] h (fun v h'=>v=.int .i64 (wrongN r.abs n l:Int)∧h'=h):=by
 have hc2:=hl.m;have hc1:l.length≤c:=hl.c;simp only at hc2;refine HC.go Tryz.func211 28 ?_;refine .s<|.z .asI<|.nil<|.seq<|.block fun K0 hK0=>.s<|.z .mvP<|.z (.pEqS T.pt63)<|.z .asB<|.nil<|.cf<|.s<|.z .mvT<|.z (.lenT T.st9)<|.z .lss<|.z .mvB<|.sd (fun G14=>?_) (fun G14=>?_)
 ·
  refine .y<|.y<|.y<|.z .pkt<|.z .mvB<|.y<|.y<|.z .pkt<|.z .asB<|.nil<|.ct<|.s<|.z .asI<|.nil<|.ret ⟨.int .i64 1,Res.one rfl rfl,⟨by rw [wrong1 (by first | exact .inl (by omega) | exact .inr (.inl (by omega)) | exact .inr (.inr C1))];rfl,rfl⟩⟩
 refine .z .mvT<|.z (.lenT T.st9)<|.z .gtr<|.z .pkf<|.z .mvB<|.sd (fun G19=>?_) (fun G19=>?_)
 ·
  refine .y<|.y<|.z .pkt<|.z .asB<|.nil<|.ct<|.s<|.z .asI<|.nil<|.ret ⟨.int .i64 1,Res.one rfl rfl,⟨by rw [wrong1 (by first | exact .inl (by omega) | exact .inr (.inl (by omega)) | exact .inr (.inr C1))];rfl,rfl⟩⟩
 refine .z .mvS<|.k 21 .func (anyneg_any (a:=a) (c:=c) (l:=l) hl)<|.z .pkf<|.z .asB<|.nil<|.cd (fun C1=>?_) (fun C1=>?_)
 ·
  refine .s<|.z .asI<|.nil<|.ret ⟨.int .i64 1,Res.one rfl rfl,⟨by rw [wrong1 (by first | exact .inl (by omega) | exact .inr (.inl (by omega)) | exact .inr (.inr C1))];rfl,rfl⟩⟩
 refine .s<|.z .mvP<|.z .nil<|.z (.fa T.fd137_1)<|.z (.ldx T.ag4 hd)<|.z .asB<|.nil<|.cond (fun C2=>?_) (fun C2=>?_)
 ·
  refine .s<|.z .asI<|.nil<|.ret ⟨.int .i64 13,Res.one rfl rfl,⟨by rw [wrong13 (by rintro (h1 | h1 | h1);(omega);(omega);exact absurd h1 C1) (by show r.dark=true;exact C2)];rfl,rfl⟩⟩
 refine .skip<|.end<|hK0 _ _<|.s<|.z .asI<|.nil<|.ret ⟨.int .i64 0,Res.one rfl rfl,⟨by rw [wrong0 (by rintro (h1 | h1 | h1);(omega);(omega);exact absurd h1 C1) (by show ¬r.dark=true;rw [C2];decide)];rfl,rfl⟩⟩
def lfR (r:RD):Int:=if 0<r.left then r.left-1 else r.left
def powerR (r:RD):RD × Nat:=if r.left=0 then (⟨r.m,r.fs,true,r.left,r.chg⟩,13) else (⟨r.m,r.fs,r.dark,lfR r,r.chg+1⟩,0)
theorem powerR_0 {r:RD} (h:r.left=0):powerR r=(⟨r.m,r.fs,true,r.left,r.chg⟩,13):=by unfold powerR;rw [if_pos h]
theorem powerR_1 {r:RD} (h:¬r.left=0):powerR r=(⟨r.m,r.fs,r.dark,lfR r,r.chg+1⟩,0):=by unfold powerR;rw [if_neg h]
theorem powerR_abs (r:RD):(powerR r).1.abs=(powerN r.abs).1∧(powerR r).2=(powerN r.abs).2:=by
 by_cases h:r.left=0
 ·rw [powerR_0 h];unfold powerN;rw [if_pos (by exact h)];exact ⟨rfl,rfl⟩
 ·rw [powerR_1 h];unfold powerN;rw [if_neg (by exact h)];exact ⟨rfl,rfl⟩
theorem powerR_fs (r:RD):(powerR r).1.fs=r.fs:=by unfold powerR;split<;>rfl
theorem lfR_1 {r:RD} (h:0<r.left):lfR r=r.left-1:=by unfold lfR;rw [if_pos h]
theorem lfR_0 {r:RD} (h:¬0<r.left):lfR r=r.left:=by unfold lfR;rw [if_neg h]
theorem power_any {h:Heap} {d:Nat} {r:RD} (ok:Hp h (dskI d r).F [dskI d r] [] h) (hk:DkOk r.abs) (hcg:r.chg<1000000000) :
  HC Tryz.prog 228 #[.pointer (some ⟨d,0,none⟩)] h (fun v h'=>v=.int .i64 ((powerR r).2:Int)∧Hp h (dskI d r).F [dskI d (powerR r).1] [] h'):=by
 have hl:r.left≤9223372036854775807:=hk.left;have hc0:0≤r.chg:=hk.chg;have ok:=ok.dopn;refine HC.go Tryz.func228 30 ?_;refine .s<|.z .asI<|.nil<|.seq<|.s<|.z .mvP<|.z .nil<|.z (.fa T.fd137_2)<|.z (.ldx T.ag3 ok.m0)<|.z .eql<|.nil<|.cd (fun C0=>?_) (fun C0=>?_)
 ·
  refine .s<|.z .mvP<|.z .nil<|.z (.fa T.fd137_1)<|.ur' (.stB T.sz4 ok) ?_;rintro η1 ⟨ok,cg⟩;refine .nil ?_;refine .s<|.z .asI<|.nil<|.ret ⟨.int .i64 13,Res.one rfl rfl,(by rw [powerR_0 C0];exact ⟨rfl,Hp.dcls (r:=⟨r.m,r.fs,true,r.left,r.chg⟩) ok⟩)⟩
 refine .skip<|.seq<|.s<|.z .mvP<|.z .nil<|.z (.fa T.fd137_2)<|.z (.ldx T.ag3 ok.m0)<|.z .gtr<|.nil<|.cd (fun C1=>?_) (fun C1=>?_)
 ·
  refine .r<|.z .mvP<|.z .nil<|.z (.fa T.fd137_2)<|.z (.ldx T.ag3 ok.m0)<|.z .sub<|.z .nil<|.z (.fa T.fd137_2)<|.ur' (.stI T.sz3 ok) ?_;rintro η2 ⟨ok,cg⟩;refine .nil ?_;refine .s<|.z .mvP<|.z .nil<|.z (.fa T.fd137_3)<|.z (.ldx T.ag3 ok.m0)<|.z .add<|.z .nil<|.z (.fa T.fd137_3)<|.ur' (.stI T.sz3 ok) ?_;rintro η3 ⟨ok,cg⟩;refine .nil ?_;refine .s<|.z .asI<|.nil<|.ret ⟨.int .i64 0,Res.one rfl rfl,(by rw [powerR_1 C0];refine ⟨rfl,Hp.dcls (r:=⟨r.m,r.fs,r.dark,lfR r,r.chg+1⟩) ?_⟩;show Hp _ _ (boxI d _ [_,_,.int .i64 (lfR r),_]::_) _ _;rw [lfR_1 C1];exact ok)⟩
 refine .skip<|.s<|.z .mvP<|.z .nil<|.z (.fa T.fd137_3)<|.z (.ldx T.ag3 ok.m0)<|.z .add<|.z .nil<|.z (.fa T.fd137_3)<|.ur' (.stI T.sz3 ok) ?_;rintro η4 ⟨ok,cg⟩;refine .nil ?_;refine .s<|.z .asI<|.nil<|.ret ⟨.int .i64 0,Res.one rfl rfl,(by rw [powerR_1 C0];refine ⟨rfl,Hp.dcls (r:=⟨r.m,r.fs,r.dark,lfR r,r.chg+1⟩) ?_⟩;show Hp _ _ (boxI d _ [_,_,.int .i64 (lfR r),_]::_) _ _;rw [lfR_0 C1];exact ok)⟩
theorem dsk_parts {h:Heap} {d:Nat} {r:RD} (hd:(dskI d r).p h):(dboxI d r).p h∧MapT kvB h r.m (ents r.fs)∧(r.fs.map (·.1)).Nodup∧∀n f,bget r.fs n=some f→(fboxI f).p h:=by
 have h1:=hd.1 _ List.mem_cons_self;have h2:MapT kvB h r.m (ents r.fs):=hd.1 _ (List.mem_cons_of_mem _ List.mem_cons_self);refine ⟨h1,h2,by have:=h2.nodup;rwa [ents_keys] at this,fun n f hg=>hd.1 _ (List.mem_cons_of_mem _ (List.mem_cons_of_mem _ (List.mem_flatMap.2 ⟨_,bget_mem hg,?_⟩)))⟩;simp [fileI]
def ptrN (f:Option RF):Option Addr:=f.map fun f=>⟨f.blk,0,none⟩
theorem ents_getD {fs:Fs} {n:List UInt8} : (aget (ents fs) n).getD (.pointer none)=.pointer (ptrN (bget fs n)):=by
 rw [ents_get];cases bget fs n<;>rfl
theorem there_no {r:RD} {n:List UInt8} (h:bget r.fs n=none):thereN r.abs n=false:=by simp [thereN,RD.abs,h]
theorem there_f {r:RD} {n:List UInt8} {f:RF} (h:bget r.fs n=some f):thereN r.abs n=f.here:=by simp [thereN,RD.abs,h,RF.abs]
theorem there_any {h:Heap} {d:Nat} {r:RD} {n:List UInt8} (hd:(dskI d r).p h) :
  HC Tryz.prog 175 #[.pointer (some ⟨d,0,none⟩),.string (BA n)] h (fun v h'=>((thereN r.abs n=false∧v=.pointer none)∨∃f,bget r.fs n=some f∧f.here=true∧v=.pointer (some ⟨f.blk,0,none⟩))∧h'=h):=by
 obtain ⟨hd1,hd2,hd3,hd4⟩:=dsk_parts hd;refine HC.go Tryz.func175 21 ?_;refine .s<|.z .asP<|.nil<|.seq<|.s<|.z .mvP<|.z .nil<|.z (.fa T.fd137_0)<|.z (.ldx T.ag135 hd1)<|.z .mvT<|.z (.lk KV.ba n (v:=.pointer (ptrN (bget r.fs n))) T.mp135 (stB_iff T.st9) T.zr153 hd2 (by exact ents_getD))<|.z .asP<|.nil<|.s<|.z .mvP<|.z (.pNe T.pt153)<|.z .mvB<|.spl (fun G14=>?_) (fun G14=>?_)
 ·
  obtain ⟨f,hg⟩:∃f0,bget r.fs n=some f0:=by (cases hb:bget r.fs n with | none=>(rw [hb] at G14;simp [ptrN] at G14) | some x=>exact ⟨x,rfl⟩)
  rw [hg];simp only [ptrN,Option.map_some];have hfb:=hd4 n f hg;refine .z .mvP<|.z .nil<|.z (.fa T.fd156_2)<|.z (.ldx T.ag4 hfb)<|.z .pkt<|.nil<|.cond (fun C0=>?_) (fun C0=>?_)
  ·
   refine .s<|.z .mvP<|.z .asP<|.nil<|.ret ⟨.pointer (some ⟨f.blk,0,none⟩),Res.one rfl rfl,⟨.inr ⟨f,(by first | exact hg | rfl),C0,rfl⟩,rfl⟩⟩
  refine .skip<|.s<|.z .asP<|.nil<|.ret ⟨.pointer none,Res.one rfl rfl,⟨.inl ⟨by rw [there_f hg];exact C0,rfl⟩,rfl⟩⟩
 refine .y<|.y<|.y<|.y<|.z .pkf<|.nil<|.cf<|.skip<|.s<|.z .asP<|.nil<|.ret ⟨.pointer none,Res.one rfl rfl,⟨.inl ⟨there_no (by cases hb:bget r.fs n with | none=>rfl | some x=>(rw [hb] at G14;simp [ptrN] at G14)),rfl⟩,rfl⟩⟩
theorem box_cell {h:Heap} {b o:Nat} {t:TypeId} {cs:List Value} {v:Value} (hb:(boxI b t cs).p h) (hv:cs[o]? = some v):cell h b o=some v:=by rw [cell_of hb];simpa using hv
def settleR (r:RD) (n:List UInt8) (f:RF):RD:=if f.here=true then ⟨r.m,bput r.fs n ⟨f.blk,f.na,f.nc,f.nl,f.na,f.nc,f.nl,true,true,none,0,[]⟩,r.dark,r.left,r.chg⟩ else ⟨r.m,bdel r.fs n,r.dark,r.left,r.chg⟩
theorem settleR_abs {r:RD} {n:List UInt8} {f:RF} : (settleR r n f).abs=⟨put1 r.abs.fs n (settleF f.abs),r.dark,r.left,r.chg⟩:=by
 unfold settleR settleF;by_cases h:f.here=true
 ·rw [if_pos h,if_pos (by exact h)];simp only [RD.abs];congr 1;funext m;rw [bget_put];by_cases hm:m=n
  ·simp [put1,hm,RF.abs]
  ·simp [put1,hm]
 ·rw [if_neg h,if_neg (by exact h)];simp only [RD.abs];congr 1;funext m;rw [bget_del];by_cases hm:m=n
  ·simp [put1,hm]
  ·simp [put1,hm]
theorem settle_end {h0 h:Heap} {D E:Nat→Prop} {M:List Itm} {d:Nat} {r:RD} {n:List UInt8} {f:RF} (hn:(r.fs.map (·.1)).Nodup) (hg:bget r.fs n=some f) (hh:f.here=true)
  (ok:Hp h0 D (boxI f.blk 156 [.slice f.na f.nl.length f.nc,.slice f.na f.nl.length f.nc,.bool f.here,.bool f.here,.slice none 0 0]::flsI (bdel r.fs n)::dboxI d r::mapI kvB r.m (ents r.fs)::M) [bysI E r.fs] h) :
  Hp h0 D (dskI d (settleR r n f)::M) [bysI E (settleR r n f).fs] h:=by
 have he:settleR r n f=⟨r.m,bput r.fs n ⟨f.blk,f.na,f.nc,f.nl,f.na,f.nc,f.nl,true,true,none,0,[]⟩,r.dark,r.left,r.chg⟩:=by unfold settleR;rw [if_pos hh]
 rw [he];have hb:=(Bys.get ok.r0 hg);rw [hh] at ok;have o1:=(ok.nilC (k:=3) (e:=158)).n1;have o2:=Hp.fcls (n:=n) (f:=⟨f.blk,f.na,f.nc,f.nl,f.na,f.nc,f.nl,true,true,none,0,[]⟩) hn o1;have o3:=Hp.dcls (r:=⟨r.m,bput r.fs n ⟨f.blk,f.na,f.nc,f.nl,f.na,f.nc,f.nl,true,true,none,0,[]⟩,r.dark,r.left,r.chg⟩) (d:=d) (M:=M) (by
  have o4:=o2.n2.n2;simp only;rw [ents_same hg (by rfl)];exact o4)
 exact (o3.d0 (bysI E (bput r.fs n ⟨f.blk,f.na,f.nc,f.nl,f.na,f.nc,f.nl,true,true,none,0,[]⟩)) (Bys.put ok.r0 ⟨hb.now,hb.now,fun c hc=>by cases hc⟩) (fun _ h=>h)).e1
theorem settle_end0 {h0 h:Heap} {D E:Nat→Prop} {M:List Itm} {d:Nat} {r:RD} {n:List UInt8} {f:RF} (hh:f.here=false)
  (ok:Hp h0 D (flsI (bdel r.fs n)::dboxI d r::mapI kvB r.m (adel (ents r.fs) n)::M) [bysI E r.fs] h) :
  Hp h0 D (dskI d (settleR r n f)::M) [bysI E (settleR r n f).fs] h:=by
 have he:settleR r n f=⟨r.m,bdel r.fs n,r.dark,r.left,r.chg⟩:=by unfold settleR;rw [if_neg (by rw [hh];decide)]
 rw [he];have o3:=Hp.dcls (r:=⟨r.m,bdel r.fs n,r.dark,r.left,r.chg⟩) (d:=d) (M:=M) (by
  have o4:=ok.n2.n2;simp only;rw [←ents_del];exact o4)
 exact (o3.d0 (bysI E (bdel r.fs n)) (Bys.del ok.r0) (fun _ h=>h)).e1
theorem settle_any {h:Heap} {d:Nat} {r:RD} {E:Nat→Prop} {n:List UInt8} {f:RF} (ok:Hp h (dskI d r).F [dskI d r] [bysI E r.fs] h) (hg:bget r.fs n=some f) :
  HC Tryz.prog 109 #[.pointer (some ⟨d,0,none⟩),.string (BA n),.pointer (some ⟨f.blk,0,none⟩)] h (fun v h'=>v=.tuple #[]∧Hp h (dskI d r).F [dskI d (settleR r n f)] [bysI E (settleR r n f).fs] h'):=by
 refine HC.go Tryz.func109 33 ?_;have hnd:(r.fs.map (·.1)).Nodup:=(dsk_parts ok.m0).2.2.1;have ok:=ok.dopn;have ok:=Hp.fopn hnd hg ok.n2;refine .seq<|.join (fun s hh=>Has s [(0,.pointer (some ⟨d,0,none⟩)),(1,.string (BA n)),(2,.pointer (some ⟨f.blk,0,none⟩))]∧Hp h (dskI d r).F [boxI f.blk 156 [.slice f.na f.nl.length f.nc,.slice f.na f.nl.length f.nc,.bool f.here,.bool f.here,.slice none 0 0],flsI (bdel r.fs n),boxI d 137 [.map (some r.m),.bool r.dark,.int .i64 r.left,.int .i64 r.chg],mapI kvB r.m (ents r.fs)] [bysI E r.fs] hh) ?_ ?_
 ·
  refine .a 13 (fun fl hh=>cond fl True (cell hh f.blk 0=some (.slice f.na f.nl.length f.nc)∧cell hh f.blk 2=some (.bool f.here))) mixed ?_;have hS:=(And.intro (box_cell (o:=0) (v:=.slice f.na f.nl.length f.nc) ok.m0 rfl) (box_cell (o:=2) (v:=.bool f.here) ok.m0 rfl));refine .g 0 false rfl 6 hS (fun _=>.mvP)<|.g 1 false rfl 7 hS (fun _=>.mvP)<|.g 2 false rfl 8 hS (fun _=>.mvP)<|.g 3 false rfl 9 hS (fun _=>.mvP)<|.g 4 false rfl 10 hS (fun _=>.nil)<|.g 5 false rfl 11 hS (fun _=>.fa T.fd156_0)<|.l 6 false rfl 12 hS (fun _ hS=>.ld T.ag44 hS.1)<|.g 7 false rfl 13 hS (fun _=>.mvP)<|.g 8 false rfl 14 hS (fun _=>.nil)<|.g 9 false rfl 15 hS (fun _=>.fa T.fd156_2)<|.l 10 false rfl 16 hS (fun _ hS=>.ld T.ag4 hS.2)<|.g 11 false rfl 17 hS (fun _=>.nil)<|.g 12 false rfl 18 hS (fun _=>.fa T.fd156_1)<|.o1 13<|.ur' true rfl (.stS T.sz44 ok) ?_;rintro η1 ⟨ok,cg⟩;refine ⟨trivial,?_⟩;refine .g 14 true rfl 19 trivial (fun _=>.nil)<|.g 15 true rfl 20 trivial (fun _=>.fa T.fd156_3)<|.o1 16<|.ur' true rfl (.stB T.sz4 ok) ?_;rintro η2 ⟨ok,cg⟩;refine ⟨trivial,?_⟩;refine .g 17 true rfl 21 trivial (fun _=>.nil)<|.g 18 true rfl 22 trivial (fun _=>.fa T.fd156_4)<|.o1 19<|.ur' true rfl (.stS T.sz154 ok) ?_;rintro η3 ⟨ok,cg⟩;refine ⟨trivial,?_⟩;refine .e ?_;refine .end<|⟨⟨rfl,rfl,rfl,trivial⟩,ok.n4.n4.n4.n3.k4⟩
 rintro s η4 ⟨hs,ok⟩;refine .frame hs fun τ=>?_;refine .s<|.z .mvP<|.z .nil<|.z (.fa T.fd156_2)<|.z (.ldx T.ag4 ok.m0)<|.z .not<|.nil<|.cond (fun C0=>?_) (fun C0=>?_)
 ·
  refine .r<|.z .mvP<|.z .nil<|.z (.fa T.fd137_0)<|.z (.ldx T.ag135 ok.m2)<|.z .mvT<|.a0' (.del KV.ba n T.mp135 (stB_iff T.st9) ok.n3) ?_;rintro _ η5 ⟨rfl,ok⟩;refine .nil ?_;refine .end<|⟨.tuple #[],Res.none rfl,⟨rfl,settle_end0 (by simpa using C0) (ok.n3.n3.k3)⟩⟩
 refine .skip<|.end<|⟨.tuple #[],Res.none rfl,⟨rfl,settle_end hnd hg (by simpa using C0) (ok.n3.n3.n3.n3)⟩⟩
@[reducible] def byfI (E:Nat→Prop) (f:RF):Itm:=⟨fun h=>ByF h E f,E,fun _ _ _ c d b=>b.st c d⟩
def chgR (f:RF) (c:RC) (ya:Option Addr) (yc:Nat) (oa:Option Addr) (oc:Nat):RF:=⟨f.blk,ya,yc,(doneN c.abs f.nl f.here).1,f.sa,f.sc,f.sl,(doneN c.abs f.nl f.here).2,f.was,oa,oc,f.ol++[c]⟩
theorem chgR_abs {f:RF} {c:RC} {ya yc oa oc} : (chgR f c ya yc oa oc).abs=chgF f.abs c.abs:=by simp [chgR,RF.abs,chgF]
def newF (b:Nat):RF:=⟨b,none,0,[],none,0,[],false,false,none,0,[]⟩
def FileAt (r:RD) (n:List UInt8) (f:RF):Prop:=f.abs=((r.abs.fs n).getD noF)
theorem fileAt_some {r:RD} {n:List UInt8} {f:RF} (h:bget r.fs n=some f):FileAt r n f:=by simp [FileAt,RD.abs,h]
theorem fileAt_new {r:RD} {n:List UInt8} {b:Nat} (h:bget r.fs n=none):FileAt r n (newF b):=by simp [FileAt,RD.abs,h,newF,RF.abs,noF]
theorem ents_blk {fs:Fs} {n:List UInt8} {f g:RF} (h:f.blk=g.blk):ents (bput fs n f)=ents (bput fs n g):=by rw [←ents_put,←ents_put,ptrF,ptrF,h]
theorem do_end {h0 h:Heap} {D E:Nat→Prop} {M R:List Itm} {d:Nat} {r:RD} {n:List UInt8} {f:RF} {c:RC} {ya oa:Option Addr} {yc oc:Nat} (hl:¬r.left=0) (hn:(r.fs.map (·.1)).Nodup) (hf:FileAt r n f)
  (ok:Hp h0 D (boxI f.blk 156 [.slice ya (doneN c.abs f.nl f.here).1.length yc,.slice f.sa f.sl.length f.sc,.bool (doneN c.abs f.nl f.here).2,.bool f.was,.slice oa (f.ol++[c]).length oc]::capI 3 158 (oa,(f.ol++[c]).length,oc) ((f.ol++[c]).flatMap RC.cells)::flsI (bdel r.fs n)::boxI d 137 [.map (some r.m),.bool r.dark,.int .i64 (lfR r),.int .i64 (r.chg+1)]::mapI kvB r.m (ents (bput r.fs n f))::capI 1 5 (ya,(doneN c.abs f.nl f.here).1.length,yc) ((doneN c.abs f.nl f.here).1.map bv)::M)
   (byfI E f::bysI E r.fs::rdI E E (c.ba,c.bl.length,c.bc) c.bl::R) h) :
  ∃(r':RD) (E':Nat→Prop),r'.abs=(doN r.abs n c.abs).1∧Hp h0 D (dskI d r'::M) (bysI E' r'.fs::R) h∧∀j,E' j→E j∨blkC (sv (ya,(doneN c.abs f.nl f.here).1.length,yc)) j:=by
 refine ⟨⟨r.m,bput r.fs n (chgR f c ya yc oa oc),r.dark,lfR r,r.chg+1⟩,fun j=>E j∨blkC (sv (ya,(doneN c.abs f.nl f.here).1.length,yc)) j,?_,?_,fun _ h=>h⟩
 ·unfold doN;rw [if_neg (by exact hl)];simp only [RD.abs];congr 1
  ·funext m;rw [bget_put];by_cases hm:m=n
   ·subst hm;have:=hf;unfold FileAt at this;simp only [RD.abs] at this;rw [if_pos rfl,Option.map_some,chgR_abs,this];simp [put1]
   ·simp [put1,hm]
 ·have o1:=Hp.frzB (l:=(doneN c.abs f.nl f.here).1) (Hp.n5 ok) rfl;have o2:=Hp.fcls (n:=n) (f:=chgR f c ya yc oa oc) hn o1;have o3:=Hp.dcls (r:=⟨r.m,bput r.fs n (chgR f c ya yc oa oc),r.dark,lfR r,r.chg+1⟩) (d:=d) (M:=M) (by
   have o4:=o2.n2.n2;simp only;rw [ents_blk (f:=chgR f c ya yc oa oc) (g:=f) rfl];exact o4)
  have hby:Bys h (fun j=>E j∨blkC (sv (ya,(doneN c.abs f.nl f.here).1.length,yc)) j) (bput r.fs n (chgR f c ya yc oa oc)):=by
   refine Bys.put (Bys.mono (fun _ h=>.inl h) o3.r2) ⟨?_,?_,fun x hx=>?_⟩
   ·exact RdL.mono (fun _ h=>.inr h) (fun _ f=>f.elim) o3.r0
   ·exact RdL.mono (fun _ h=>.inl h) (fun _ h=>.inl h) o3.r1.safe
   ·rcases List.mem_append.1 hx with hx | hx
    ·exact RdL.mono (fun _ h=>.inl h) (fun _ h=>.inl h) (o3.r1.opn x hx)
    ·rw [List.mem_singleton.1 hx];exact RdL.mono (fun _ h=>.inl h) (fun _ h=>.inl h) o3.r3
  exact ((o3.or (r:=rdI (blkC (sv (ya,(doneN c.abs f.nl f.here).1.length,yc))) none_ (ya,(doneN c.abs f.nl f.here).1.length,yc) (doneN c.abs f.nl f.here).1) (r':=byfI E f) (by simp) (by simp) (bysI _ _) hby (fun j hj=>hj.elim .inr fun h=>.inl (.inl h))).sub (by
   intro i hi;simp only [List.mem_cons] at hi⊢;rcases hi with h | h
   ·exact .inl h
   ·exact .inr (.inr (.inr (.inr (.inr h))))))
theorem byfI_new {h:Heap} {E:Nat→Prop} {b:Nat} : ByF h E (newF b):=⟨RdL.nil _ _ _,RdL.nil _ _ _,fun _ h=>by cases h⟩
theorem do_any {h:Heap} {d:Nat} {r:RD} {E:Nat→Prop} {n:List UInt8} {kind pos:Nat} {ba:Option Addr} {bc:Nat} {bl:List UInt8} (ok:Hp h (dskI d r).F [dskI d r] [bysI E r.fs] h) (hk:DkOk r.abs) (hcg:r.chg<1000000000) (hb:RdL h E E (ba,bl.length,bc) bl) (hc:ChOk ⟨kind,pos,bl⟩) :
  HC Tryz.prog 227 #[.pointer (some ⟨d,0,none⟩),.string (BA n),.agg #[.int .i64 (kind:Int),.int .i64 (pos:Int),.slice ba bl.length bc]] h (fun v h'=>∃r' E',v=.int .i64 ((doN r.abs n ⟨kind,pos,bl⟩).2:Int)∧r'.abs=(doN r.abs n ⟨kind,pos,bl⟩).1∧DUp h h' d r r' E E'):=by
 have ok:=ok.d0 (rdI E E (ba,bl.length,bc) bl) hb (fun _ h=>h.elim id id);have hc0:0≤r.chg:=hk.chg;have hfit:pos+bl.length≤16777216:=hc.fit;refine HC.go Tryz.func227 59 ?_;refine .s<|.a' 5 (.bxA (cs:=[.int .i64 (kind:Int),.int .i64 (pos:Int),.slice ba bl.length bc]) ok) ?_;rintro _ η1 ⟨pb1,rfl,ok,xe⟩;refine .z .asI<|.nil<|.seq<|.s<|.z .mvP<|.c' 10 .func (power_any (ok.n1).loc0 hk hcg) ?_;rintro _ η2 ⟨rfl,q⟩;have ok:=(ok.n1).lift1 q;refine .z .asI<|.nil<|.s<|.z .mvI<|.z .neq<|.nil<|.cd (fun C0=>?_) (fun C0=>?_)
 ·
  have hp0:r.left=0:=by by_cases h:r.left=0;exact h;exact absurd (by rw [powerR_1 h];rfl) C0
  refine .s<|.z .mvI<|.z .asI<|.nil<|.ret ⟨.int .i64 ((powerR r).2:Int),Res.one rfl rfl,⟨(powerR r).1,E,by unfold doN powerN;rw [if_pos (by exact hp0),if_pos (by exact hp0),powerR_0 hp0],by unfold doN;rw [if_pos (by exact hp0),(powerR_abs r).1],⟨by rw [powerR_fs];exact ok.k1.tR,fun _ h=>.inl h⟩⟩⟩
 have hpl:¬r.left=0:=fun h=>by rw [powerR_0 h] at C0;exact C0 (by simp)
 have hnd:(r.fs.map (·.1)).Nodup:=by have:=(dsk_parts (ok).m0).2.2.1;rwa [powerR_fs] at this
 have ok:=ok;rw [powerR_1 hpl] at ok;have ok:=ok.dopn;refine .skip<|.s<|.z .mvP<|.z .nil<|.z (.fa T.fd137_0)<|.z (.ldx T.ag135 ok.m0)<|.z .mvT<|.z (.lk KV.ba n (v:=.pointer (ptrN (bget r.fs n))) T.mp135 (stB_iff T.st9) T.zr153 ok.m1 (by exact ents_getD))<|.z .asP<|.nil<|.seq<|.s<|.z .mvP<|.z (.pEq T.pt153)<|.nil<|.join (fun s hh=>∃(f:RF),Has s [(5,.pointer (some ⟨pb1,0,none⟩)),(8,.pointer (some ⟨f.blk,0,none⟩))]∧Hp h (dskI d r).F [boxI f.blk 156 [.slice f.na f.nl.length f.nc,.slice f.sa f.sl.length f.sc,.bool f.here,.bool f.was,.slice f.oa f.ol.length f.oc],capI 3 158 (f.oa,f.ol.length,f.oc) (f.ol.flatMap RC.cells),flsI (bdel r.fs n),boxI d 137 [.map (some r.m),.bool r.dark,.int .i64 (lfR r),.int .i64 (r.chg+1)],mapI kvB r.m (ents (bput r.fs n f)),boxI pb1 158 [.int .i64 (kind:Int),.int .i64 (pos:Int),.slice ba bl.length bc]] [byfI E f,rdI E E (ba,bl.length,bc) bl,bysI E r.fs] hh∧FileAt r n f) ?_ ?_
 ·
  refine .cond (fun C1=>?_) (fun C1=>?_)
  ·
   have hg:bget r.fs n=none:=by (cases hb:bget r.fs n with | none=>rfl | some x=>(rw [hb] at C1;simp [ptrN] at C1))
   refine .s<|.z (.bd #[.slice none 0 0,.slice none 0 0,.bool false,.bool false,.slice none 0 0] T.zr156 T.pl156 rfl)<|.a' 23 (.bxA (cs:=[.slice none 0 0,.slice none 0 0,.bool false,.bool false,.slice none 0 0]) ok) ?_;rintro _ η3 ⟨pb2,rfl,ok,xe⟩;refine .z .asP<|.nil<|.r<|.z .mvP<|.z .nil<|.z (.fa T.fd137_0)<|.z (.ldx T.ag135 ok.m1)<|.z .mvT<|.z .mvP<|.ur' (.mpu KV.ba sbB n (v:=(ptrF (newF pb2))) T.mp135 (stB_iff T.st9) ok.n2) ?_;rintro η4 ok;refine .nil ?_;refine .end<|⟨(newF pb2),⟨rfl,rfl,trivial⟩,(by rw [show ents (bput r.fs n (newF pb2))=aput (ents r.fs) n (ptrF (newF pb2)) from ents_put.symm,bdel_none hg];exact (Hp.n1 (Hp.nilC (k:=3) (e:=158) (ok.n4.n1.n3.n4.n4))).d1 (byfI E (newF pb2)) byfI_new (fun _ h=>h)),fileAt_new hg⟩
  obtain ⟨f,hg⟩:∃f0,bget r.fs n=some f0:=by (cases hb:bget r.fs n with | none=>(rw [hb] at C1;simp [ptrN] at C1) | some x=>exact ⟨x,rfl⟩)
  rw [hg];simp only [ptrN,Option.map_some];have ok:=Hp.fopn hnd hg (ok.n2);have ok:=ok.d1 (byfI E f) (Bys.get ok.r1 hg) (fun _ h=>h);refine .skip<|.end<|⟨f,⟨rfl,rfl,trivial⟩,(by rw [show ents (bput r.fs n f)=ents r.fs from ents_same hg rfl];exact ok.n5.n5.n5.n5.n5.n5),fileAt_some hg⟩
 rintro s η5 ⟨f,hs,ok,hfa⟩;refine .frame hs fun τ=>?_;have hnl:f.nl.length≤16777216:=by have:=(hk.getD n).1.now;rw [←hfa] at this;exact this
 have hol:(f.ol.flatMap RC.cells).length=f.ol.length*3:=flat_len RC.cells_len _;have hoc:(f.ol.length:Int)≤r.chg:=by have h9:=(hk.getD n).2;rw [←hfa] at h9;simpa [RF.abs] using (show _≤r.chg from h9)
 refine .seq<|?_;have ok:=ok.d0 (rdI E E (f.na,f.nl.length,f.nc) f.nl) (ok.r0).now (fun _ h=>h.elim id id);refine .a 11 (fun fl hh=>cond fl True (Hp h (dskI d r).F [boxI f.blk 156 [.slice f.na f.nl.length f.nc,.slice f.sa f.sl.length f.sc,.bool f.here,.bool f.was,.slice f.oa f.ol.length f.oc],capI 3 158 (f.oa,f.ol.length,f.oc) (f.ol.flatMap RC.cells),flsI (bdel r.fs n),boxI d 137 [.map (some r.m),.bool r.dark,.int .i64 (lfR r),.int .i64 (r.chg+1)],mapI kvB r.m (ents (bput r.fs n f)),boxI pb1 158 [.int .i64 (kind:Int),.int .i64 (pos:Int),.slice ba bl.length bc]] [rdI E E (f.na,f.nl.length,f.nc) f.nl,byfI E f,rdI E E (ba,bl.length,bc) bl,bysI E r.fs] hh)) mixed ?_;have hS:=ok;refine .g 0 false rfl 31 hS (fun _=>.mvP)<|.g 1 false rfl 32 hS (fun _=>.mvP)<|.l 2 false rfl 33 hS (fun _ hS=>.ldb T.ag158 hS.m5 T.sz158)<|.g 3 false rfl 34 hS (fun _=>.mvP)<|.g 4 false rfl 35 hS (fun _=>.nil)<|.g 5 false rfl 36 hS (fun _=>.fa T.fd156_0)<|.l 6 false rfl 37 hS (fun _ hS=>.ldx T.ag44 hS.m0)<|.g 7 false rfl 38 hS (fun _=>.mvP)<|.g 8 false rfl 39 hS (fun _=>.nil)<|.g 9 false rfl 40 hS (fun _=>.fa T.fd156_2)<|.l 10 false rfl 41 hS (fun _ hS=>.ldx T.ag4 hS.m0)<|.o1 11<|.c' true rfl 42 .func (done_any (kind:=kind) (pos:=pos) (ba:=ba) (bc:=bc) (bl:=bl) (a:=f.na) (c:=f.nc) (l:=f.nl) (here:=f.here) ok.r2 ok.r0 (by omega) (by omega)) ?_;rintro _ η6 ⟨_,rfl,own⟩;obtain ⟨ya1,yc1,rfl⟩:=own.formB;have hyf:=fun j hj=>Nat.le_trans ok.chg.size (own.fresh j hj);have ok:=ok.own own;refine ⟨trivial,?_⟩;refine .g 12 true rfl 30 trivial (fun _=>.mvU)<|.g 13 true rfl 43 trivial (fun _=>.ex)<|.g 14 true rfl 44 trivial (fun _=>.ex)<|.g 15 true rfl 45 trivial (fun _=>.nil)<|.g 16 true rfl 46 trivial (fun _=>.fa T.fd156_0)<|.o1 17<|.ur' true rfl (.stS T.sz44 ok.n1) ?_;rintro η7 ⟨ok,cg⟩;refine ⟨trivial,?_⟩;refine .g 18 true rfl 47 trivial (fun _=>.nil)<|.g 19 true rfl 48 trivial (fun _=>.fa T.fd156_2)<|.o1 20<|.ur' true rfl (.stB T.sz4 ok) ?_;rintro η8 ⟨ok,cg⟩;refine ⟨trivial,?_⟩;refine .e ?_;refine .seq<|.a 10 (fun fl hh=>cond fl True (Hp h (dskI d r).F [boxI f.blk 156 [.slice ya1 ((doneN ⟨kind,pos,bl⟩ f.nl f.here).1.length) yc1,.slice f.sa f.sl.length f.sc,.bool ((doneN ⟨kind,pos,bl⟩ f.nl f.here).2),.bool f.was,.slice f.oa f.ol.length f.oc],capI 1 5 (ya1,(doneN ⟨kind,pos,bl⟩ f.nl f.here).1.length,yc1) ((doneN ⟨kind,pos,bl⟩ f.nl f.here).1.map bv),flsI (bdel r.fs n),boxI d 137 [.map (some r.m),.bool r.dark,.int .i64 (lfR r),.int .i64 (r.chg+1)],mapI kvB r.m (ents (bput r.fs n f)),boxI pb1 158 [.int .i64 (kind:Int),.int .i64 (pos:Int),.slice ba bl.length bc]] [rdI E E (f.na,f.nl.length,f.nc) f.nl,byfI E f,rdI E E (ba,bl.length,bc) bl,bysI E r.fs] hh)) mixed ?_;have hS:=ok.n6.n6.n6.n6.n5.n5.k6;refine .g 0 false rfl 49 hS (fun _=>.mvP)<|.g 1 false rfl 50 hS (fun _=>.mvP)<|.g 2 false rfl 51 hS (fun _=>.nil)<|.g 3 false rfl 52 hS (fun _=>.fa T.fd156_4)<|.l 4 false rfl 53 hS (fun _ hS=>.ldx T.ag154 hS.m0)<|.l 5 false rfl 54 hS (fun _ hS=>.ldb T.ag158 hS.m5 T.sz158)<|.o1 6<|.a' false rfl 55 (.lit [.tmp 54] (cs:=[.int .i64 (kind:Int),.int .i64 (pos:Int),.slice ba bl.length bc]) T.el154 T.sz158 T.zr158 ok ⟨rfl,trivial⟩) ?_;rintro _ η9 ⟨pb3,rfl,ok,xe⟩;refine ⟨ok.n7.n7.n7.n7.n6.n6.k6,?_⟩;have hS:=ok.n7.n7.n7.n7.n6.n6.k6;refine .o1 7<|.a' false rfl 56 (.app (news:=[.int .i64 (kind:Int),.int .i64 (pos:Int),.slice ba bl.length bc]) T.el154 T.sz158 T.by158 T.zr158 ok.n3 (ok.n3.m1).sl (oneL rfl) (by rw [hol];simp only [List.length_cons,List.length_nil];omega)) ?_;rintro _ η10 ⟨ya2,yn1,yc2,rfl,ok,ap⟩;refine ⟨ok.n7.n7.n7.n7.n7.n7.k6,?_⟩;have hS:=ok.n7.n7.n7.n7.n7.n7.k6;refine .g 8 false rfl 57 hS (fun _=>.nil)<|.g 9 false rfl 58 hS (fun _=>.fa T.fd156_4)<|.o1 10<|.ur' true rfl (.stS T.sz154 ok.n2) ?_;rintro η11 ⟨ok,cg⟩;refine ⟨trivial,?_⟩;refine .e ?_;refine .s<|.z .asI<|.nil ?_;have ok:=(ok.n1).cx (ys:=(f.ol++[(⟨kind,pos,ba,bc,bl⟩:RC)]).flatMap RC.cells) (by simp [RC.cells]);obtain rfl:yn1=(f.ol++[(⟨kind,pos,ba,bc,bl⟩:RC)]).length:=(Sl.sz (Cap.sl ok.m0) RC.cells_len (by decide)).1.symm;refine .ret ⟨.int .i64 0,Res.one rfl rfl,(by obtain ⟨r2,E2,h1,h2,h3⟩:=do_end (n:=n) (f:=f) (c:=⟨kind,pos,ba,bc,bl⟩) hpl hnd hfa (ok.n3.n6.n6.n6.n4.n5.f2.f3.f3);exact ⟨r2,E2,by unfold doN;rw [if_neg (by exact hpl)];rfl,h1,h2.k1.up fun j hj=>(h3 j hj).imp id (fun h9=>hyf j h9)⟩)⟩
end Go.Proofs.YtndlpekckpdncaaGreat
namespace Go.HL
open Go Go.Proofs.YtndlpekckpdncaaGreat
theorem Hp.byX {h0 h:Heap} {D E F2:Nat→Prop} {M R:List Itm} {fs:Fs} {a:Option Addr} {c:Nat} {l:List UInt8} (ok:Hp h0 D M (rdI F2 none_ (a,l.length,c) l::bysI E fs::R) h):Hp h0 D M (bysI (fun j=>E j∨F2 j) fs::rdI (fun j=>E j∨F2 j) (fun j=>E j∨F2 j) (a,l.length,c) l::R) h:=by
 have o1:=ok.or (r:=rdI F2 none_ (a,l.length,c) l) (r':=bysI E fs) (by simp) (by simp) (rdI (fun j=>E j∨F2 j) (fun j=>E j∨F2 j) (a,l.length,c) l) (RdL.mono (fun _ h=>.inr h) (fun _ f=>f.elim) ok.r0) (fun j hj=>(hj.elim id id).elim .inr (fun h=>.inl (.inl h)));have o2:=o1.or (r:=rdI F2 none_ (a,l.length,c) l) (r':=bysI E fs) (by simp) (by simp) (bysI (fun j=>E j∨F2 j) fs) (Bys.mono (fun _ h=>.inl h) ok.r1) (fun j hj=>hj.elim .inr (fun h=>.inl (.inl h)));exact o2.sub (by
  intro i hi;simp only [List.mem_cons] at hi⊢;rcases hi with h | h | h
  ·exact .inl h
  ·exact .inr (.inl h)
  ·exact .inr (.inr (.inr (.inr h))))
end Go.HL
namespace Go.Proofs.YtndlpekckpdncaaGreat
open Go Go.HL
theorem write_w {d:Dk} {n:List UInt8} {z:Int} {l:List UInt8} (h:¬(wrongN d n [z]:Int)=0):writeN d n z l=(d,wrongN d n [z]):=by unfold writeN;rw [if_pos (by omega)]
theorem write_f {d:Dk} {n:List UInt8} {z:Int} {l:List UInt8} (h:wrongN d n [z]=0) (h2:16777216<z∨16777216-z<l.length):writeN d n z l=(d,5):=by unfold writeN;rw [if_neg (by omega),if_pos h2]
theorem write_d {d:Dk} {n:List UInt8} {p:Nat} {l:List UInt8} (h:wrongN d n [(p:Int)]=0) (h2:¬(16777216<(p:Int)∨16777216-(p:Int)<l.length)):writeN d n (p:Int) l=doN d n ⟨0,p,l⟩:=by unfold writeN;rw [if_neg (by omega),if_neg h2];rfl
theorem write_any {h:Heap} {d:Nat} {r:RD} {E:Nat→Prop} {n:List UInt8} {F2 E2:Nat→Prop} {z:Int} {a:Option Addr} {c:Nat} {l:List UInt8} (ok:Hp h (dskI d r).F [dskI d r] [bysI E r.fs,rdI F2 E2 (a,l.length,c) l] h) (hk:DkOk r.abs) (hcg:r.chg<1000000000) (hz : -9223372036854775808≤z∧z≤9223372036854775807) :
  HC Tryz.prog 207 #[.pointer (some ⟨d,0,none⟩),.string (BA n),.int .i64 z,.slice a l.length c] h (fun v h'=>∃r' E',v=.int .i64 ((writeN r.abs n z l).2:Int)∧r'.abs=(writeN r.abs n z l).1∧DUp h h' d r r' E E'):=by
 refine HC.go Tryz.func207 34 ?_;refine .s<|.z .asI<|.nil<|.seq<|.s<|.z .mvP<|.z .mvT<|.z .mvI<|.a' 13 (.lit [.tmp 12] (cs:=[.int .i64 z]) T.el24 T.sz3 T.zr3 ok ⟨rfl,trivial⟩) ?_;rintro _ η1 ⟨pb1,rfl,ok,xe⟩;refine .k 14 .func (wrong_any (d:=d) (r:=r) (n:=n) (dsk_parts (ok.m1)).1 (a:=some ⟨pb1,0,none⟩) (c:=1) (l:=[z]) (RdL.ofCapI ok.m0))<|.z .asI<|.nil<|.s<|.z .mvI<|.z .neq<|.nil<|.cd (fun C0=>?_) (fun C0=>?_)
 ·
  refine .s<|.z .mvI<|.z .asI<|.nil<|.ret ⟨.int .i64 (wrongN r.abs n [z]:Int),Res.one rfl rfl,⟨r,E,(by rw [write_w C0]<;>rfl),(by rw [write_w C0]<;>rfl),(ok.n1).k1.up fun _ h=>.inl h⟩⟩
 have hw0:wrongN r.abs n [z]=0:=by omega
 obtain ⟨p,rfl⟩:∃p:Nat,z=(p:Int):=⟨z.toNat,by have:=(wrongN_ok hw0).2.2.1 z (by simp);omega⟩;have ok:=(ok).tM;refine .skip<|.seq<|.s<|.z .mvI<|.z .gtr<|.z .mvB<|.sd (fun G20=>?_) (fun G20=>?_)
 ·
  refine .y<|.y<|.y<|.y<|.y<|.z .pkt<|.nil<|.ct<|.s<|.z .asI<|.nil<|.ret ⟨.int .i64 5,Res.one rfl rfl,⟨r,E,(by rw [write_f hw0 (by omega)]<;>rfl),(by rw [write_f hw0 (by omega)]<;>rfl),(ok).k1.up fun _ h=>.inl h⟩⟩
 refine .z .mvS<|.z (.len T.el44)<|.z .mvI<|.z .sub<|.z .gtr<|.z .pkf<|.nil<|.cd (fun C1=>?_) (fun C1=>?_)
 ·
  refine .s<|.z .asI<|.nil<|.ret ⟨.int .i64 5,Res.one rfl rfl,⟨r,E,(by rw [write_f hw0 (by omega)]<;>rfl),(by rw [write_f hw0 (by omega)]<;>rfl),(ok).k1.up fun _ h=>.inl h⟩⟩
 refine .skip<|.s<|.z .mvP<|.z .mvT<|.z .mvI<|.z .mvS<|?_;have hsy:=ok.chg.size;refine .c' 31 .func (bclone_any (a:=a) (c:=c) (l:=l) ok.r1 (by omega)) ?_;rintro _ η2 own;obtain ⟨ya1,yc1,rfl⟩:=own.formB;have ok:=ok.own own;have hyf:=own.fresh;have ok:=(ok.frzB rfl).f1.f1.byX;refine .z (.bd #[.int .i64 0,.int .i64 (p:Int),.slice ya1 ((l).length) yc1] T.zr158 T.pl158 rfl)<|.c' 33 .func (do_any (d:=d) (r:=r) (E:=fun j=>E j∨blkC (sv (ya1,(l).length,yc1)) j) (n:=n) (kind:=0) (pos:=p) (ba:=ya1) (bc:=yc1) (bl:=l) (ok).loc1 hk hcg ok.r1 ⟨by simp,by simp only;omega⟩) ?_;rintro _ η3 ⟨rdk1,Edk1,rfl,hadk1,updk1⟩;have hszdk1:=ok.chg.size;have ok:=(ok).dsk (d:=d) (r:=r) updk1;refine .z .asI<|.nil<|.ret ⟨.int .i64 ((doN r.abs n ⟨0,p,l⟩).2:Int),Res.one rfl rfl,⟨rdk1,Edk1,by rw [write_d hw0 (by omega)],by rw [write_d hw0 (by omega)];exact hadk1,(ok).k1.up fun j hj=>(updk1.new j hj).elim (fun h=>h.imp id fun h=>Nat.le_trans hsy (hyf j h)) fun h=>.inr (Nat.le_trans hszdk1 h)⟩⟩
theorem trunc_w {d:Dk} {n:List UInt8} {z:Int} (h:¬(wrongN d n [z]:Int)=0):truncN d n z=(d,wrongN d n [z]):=by unfold truncN;rw [if_pos (by omega)]
theorem trunc_n {d:Dk} {n:List UInt8} {z:Int} (h:wrongN d n [z]=0) (h1:thereN d n=false):truncN d n z=(d,4):=by unfold truncN;rw [if_neg (by omega),if_pos h1]
theorem trunc_f {d:Dk} {n:List UInt8} {z:Int} (h:wrongN d n [z]=0) (h1:thereN d n=true) (h2:16777216<z):truncN d n z=(d,5):=by unfold truncN;rw [if_neg (by omega),if_neg (by rw [h1];decide),if_pos h2]
theorem trunc_d {d:Dk} {n:List UInt8} {p:Nat} (h:wrongN d n [(p:Int)]=0) (h1:thereN d n=true) (h2:¬16777216<(p:Int)):truncN d n (p:Int)=doN d n ⟨1,p,[]⟩:=by unfold truncN;rw [if_neg (by omega),if_neg (by rw [h1];decide),if_neg h2];rfl
theorem rem_w {d:Dk} {n:List UInt8} (h:¬(wrongN d n []:Int)=0):removeN d n=(d,wrongN d n []):=by unfold removeN;rw [if_pos (by omega)]
theorem rem_n {d:Dk} {n:List UInt8} (h:wrongN d n []=0) (h1:thereN d n=false):removeN d n=(d,4):=by unfold removeN;rw [if_neg (by omega),if_pos h1]
theorem rem_d {d:Dk} {n:List UInt8} (h:wrongN d n []=0) (h1:thereN d n=true):removeN d n=doN d n ⟨2,0,[]⟩:=by unfold removeN;rw [if_neg (by omega),if_neg (by rw [h1];decide)]
theorem sync_w {d:Dk} {n:List UInt8} (h:¬(wrongN d n []:Int)=0):syncN d n=(d,wrongN d n []):=by unfold syncN;rw [if_pos (by omega)]
theorem sync_n {d:Dk} {n:List UInt8} (h:wrongN d n []=0) (h1:d.fs n=none):syncN d n=(d,4):=by unfold syncN;rw [if_neg (by omega),h1]
theorem sync_0 {d:Dk} {n:List UInt8} {f:Fl} (h:wrongN d n []=0) (h1:d.fs n=some f) (h2:f.here=false∧f.opn=[]):syncN d n=(d,4):=by unfold syncN;rw [if_neg (by omega),h1];simp only;rw [if_pos h2]
theorem sync_p {d:Dk} {n:List UInt8} {f:Fl} (h:wrongN d n []=0) (h1:d.fs n=some f) (h2:¬(f.here=false∧f.opn=[])) (h3:d.left=0):syncN d n=powerN d:=by unfold syncN;rw [if_neg (by omega),h1];simp only;rw [if_neg h2,if_pos h3]
theorem sync_d {d:Dk} {n:List UInt8} {f:Fl} (h:wrongN d n []=0) (h1:d.fs n=some f) (h2:¬(f.here=false∧f.opn=[])) (h3:¬d.left=0):syncN d n=(⟨put1 d.fs n (settleF f),d.dark,if 0<d.left then d.left-1 else d.left,d.chg+1⟩,0):=by unfold syncN;rw [if_neg (by omega),h1];simp only;rw [if_neg h2,if_neg h3]
theorem trunc_any {h:Heap} {d:Nat} {r:RD} {E:Nat→Prop} {n:List UInt8} {z:Int} (ok:Hp h (dskI d r).F [dskI d r] [bysI E r.fs] h) (hk:DkOk r.abs) (hcg:r.chg<1000000000) (hz : -9223372036854775808≤z∧z≤9223372036854775807) :
  HC Tryz.prog 208 #[.pointer (some ⟨d,0,none⟩),.string (BA n),.int .i64 z] h (fun v h'=>∃r' E',v=.int .i64 ((truncN r.abs n z).2:Int)∧r'.abs=(truncN r.abs n z).1∧DUp h h' d r r' E E'):=by
 refine HC.go Tryz.func208 29 ?_;refine .s<|.z .asI<|.nil<|.seq<|.s<|.z .mvP<|.z .mvT<|.z .mvI<|.a' 11 (.lit [.tmp 10] (cs:=[.int .i64 z]) T.el24 T.sz3 T.zr3 ok ⟨rfl,trivial⟩) ?_;rintro _ η1 ⟨pb1,rfl,ok,xe⟩;refine .k 12 .func (wrong_any (d:=d) (r:=r) (n:=n) (dsk_parts (ok.m1)).1 (a:=some ⟨pb1,0,none⟩) (c:=1) (l:=[z]) (RdL.ofCapI ok.m0))<|.z .asI<|.nil<|.s<|.z .mvI<|.z .neq<|.nil<|.cd (fun C0=>?_) (fun C0=>?_)
 ·
  refine .s<|.z .mvI<|.z .asI<|.nil<|.ret ⟨.int .i64 (wrongN r.abs n [z]:Int),Res.one rfl rfl,⟨r,E,(by rw [trunc_w C0]<;>rfl),(by rw [trunc_w C0]<;>rfl),(ok.n1).k1.up fun _ h=>.inl h⟩⟩
 have hw0:wrongN r.abs n [z]=0:=by omega
 obtain ⟨p,rfl⟩:∃p:Nat,z=(p:Int):=⟨z.toNat,by have:=(wrongN_ok hw0).2.2.1 z (by simp);omega⟩;have ok:=(ok).tM;refine .skip<|.seq<|.block fun K0 hK0=>.s<|.z .mvP<|.z .mvT<|.c' 19 .func (there_any (d:=d) (r:=r) (n:=n) (ok.m0)) ?_;rintro _ _ ⟨(⟨hnotf1,rfl⟩ | ⟨tf1,hgtf1,hhtf1,rfl⟩),heq⟩
 ·
  obtain rfl:=heq.symm;refine .z (.pEqN T.pt153)<|.z .asB<|.nil<|.ct<|.s<|.z .asI<|.nil<|.ret ⟨.int .i64 4,Res.one rfl rfl,⟨r,E,(by rw [trunc_n hw0 hnotf1]<;>rfl),(by rw [trunc_n hw0 hnotf1]<;>rfl),(ok).k1.up fun _ h=>.inl h⟩⟩
 obtain rfl:=heq.symm;refine .z (.pEqS T.pt153)<|.z .asB<|.nil<|.cf<|.s<|.z .mvI<|.z .gtr<|.z .asB<|.nil<|.cd (fun C2=>?_) (fun C2=>?_)
 ·
  refine .s<|.z .asI<|.nil<|.ret ⟨.int .i64 5,Res.one rfl rfl,⟨r,E,(by rw [trunc_f hw0 (by rw [there_f hgtf1];exact hhtf1) C2]<;>rfl),(by rw [trunc_f hw0 (by rw [there_f hgtf1];exact hhtf1) C2]<;>rfl),(ok).k1.up fun _ h=>.inl h⟩⟩
 refine .skip<|.end<|hK0 _ _<|.s<|.z .mvP<|.z .mvT<|.z .mvI<|.z (.bd #[.int .i64 1,.int .i64 (p:Int),.slice none 0 0] T.zr158 T.pl158 rfl)<|.c' 28 .func (do_any (d:=d) (r:=r) (E:=E) (n:=n) (kind:=1) (pos:=p) (ba:=none) (bc:=0) (bl:=([]:List UInt8)) (ok).loc1 hk hcg (RdL.nil _ _ _) ⟨by simp,by simp only [List.length_nil];omega⟩) ?_;rintro _ η2 ⟨rdk1,Edk1,rfl,hadk1,updk1⟩;have hszdk1:=ok.chg.size;have ok:=(ok).dsk (d:=d) (r:=r) updk1;refine .z .asI<|.nil<|.ret ⟨.int .i64 ((doN r.abs n ⟨1,p,([]:List UInt8)⟩).2:Int),Res.one rfl rfl,⟨rdk1,Edk1,(by rw [trunc_d hw0 (by rw [there_f hgtf1];exact hhtf1) C2]<;>rfl),(by rw [trunc_d hw0 (by rw [there_f hgtf1];exact hhtf1) C2];exact hadk1),(ok).k1.up fun j hj=>(updk1.new j hj).elim .inl fun h=>.inr (Nat.le_trans hszdk1 h)⟩⟩
theorem remove_any {h:Heap} {d:Nat} {r:RD} {E:Nat→Prop} {n:List UInt8} (ok:Hp h (dskI d r).F [dskI d r] [bysI E r.fs] h) (hk:DkOk r.abs) (hcg:r.chg<1000000000) :
  HC Tryz.prog 210 #[.pointer (some ⟨d,0,none⟩),.string (BA n)] h (fun v h'=>∃r' E',v=.int .i64 ((removeN r.abs n).2:Int)∧r'.abs=(removeN r.abs n).1∧DUp h h' d r r' E E'):=by
 refine HC.go Tryz.func210 20 ?_;refine .s<|.z .asI<|.nil<|.seq<|.s<|.z .mvP<|.z .mvT<|.k 8 .func (wrong_any (d:=d) (r:=r) (n:=n) (dsk_parts (ok.m0)).1 (a:=none) (c:=0) (l:=([]:List Int)) (RdL.nil _ none_ none_))<|.z .asI<|.nil<|.s<|.z .mvI<|.z .neq<|.nil<|.cd (fun C0=>?_) (fun C0=>?_)
 ·
  refine .s<|.z .mvI<|.z .asI<|.nil<|.ret ⟨.int .i64 (wrongN r.abs n ([]:List Int):Int),Res.one rfl rfl,⟨r,E,(by rw [rem_w C0]<;>rfl),(by rw [rem_w C0]<;>rfl),(ok).k1.up fun _ h=>.inl h⟩⟩
 have hw0:wrongN r.abs n []=0:=by omega
 refine .skip<|.seq<|.s<|.z .mvP<|.z .mvT<|.c' 14 .func (there_any (d:=d) (r:=r) (n:=n) (ok.m0)) ?_;rintro _ _ ⟨(⟨hnotf1,rfl⟩ | ⟨tf1,hgtf1,hhtf1,rfl⟩),heq⟩
 ·
  obtain rfl:=heq.symm;refine .z (.pEqN T.pt153)<|.nil<|.ct<|.s<|.z .asI<|.nil<|.ret ⟨.int .i64 4,Res.one rfl rfl,⟨r,E,(by rw [rem_n hw0 hnotf1]<;>rfl),(by rw [rem_n hw0 hnotf1]<;>rfl),(ok).k1.up fun _ h=>.inl h⟩⟩
 obtain rfl:=heq.symm;refine .z (.pEqS T.pt153)<|.nil<|.cf<|.skip<|.s<|.z .mvP<|.z .mvT<|.z (.bd #[.int .i64 2,.int .i64 0,.slice none 0 0] T.zr158 T.pl158 rfl)<|.c' 19 .func (do_any (d:=d) (r:=r) (E:=E) (n:=n) (kind:=2) (pos:=0) (ba:=none) (bc:=0) (bl:=([]:List UInt8)) (ok).loc1 hk hcg (RdL.nil _ _ _) ⟨by simp,by simp⟩) ?_;rintro _ η1 ⟨rdk1,Edk1,rfl,hadk1,updk1⟩;have hszdk1:=ok.chg.size;have ok:=(ok).dsk (d:=d) (r:=r) updk1;refine .z .asI<|.nil<|.ret ⟨.int .i64 ((doN r.abs n ⟨2,0,([]:List UInt8)⟩).2:Int),Res.one rfl rfl,⟨rdk1,Edk1,(by rw [rem_d hw0 (by rw [there_f hgtf1];exact hhtf1)]<;>rfl),(by rw [rem_d hw0 (by rw [there_f hgtf1];exact hhtf1)];exact hadk1),(ok).k1.up fun j hj=>(updk1.new j hj).elim .inl fun h=>.inr (Nat.le_trans hszdk1 h)⟩⟩
theorem sync_any {h:Heap} {d:Nat} {r:RD} {E:Nat→Prop} {n:List UInt8} (ok:Hp h (dskI d r).F [dskI d r] [bysI E r.fs] h) (hk:DkOk r.abs) (hcg:r.chg<1000000000) :
  HC Tryz.prog 209 #[.pointer (some ⟨d,0,none⟩),.string (BA n)] h (fun v h'=>∃r' E',v=.int .i64 ((syncN r.abs n).2:Int)∧r'.abs=(syncN r.abs n).1∧DUp h h' d r r' E E'):=by
 refine HC.go Tryz.func209 46 ?_;refine .s<|.z .asI<|.nil<|.seq<|.s<|.z .mvP<|.z .mvT<|.k 10 .func (wrong_any (d:=d) (r:=r) (n:=n) (dsk_parts (ok.m0)).1 (a:=none) (c:=0) (l:=([]:List Int)) (RdL.nil _ none_ none_))<|.z .asI<|.nil<|.s<|.z .mvI<|.z .neq<|.nil<|.cd (fun C0=>?_) (fun C0=>?_)
 ·
  refine .s<|.z .mvI<|.z .asI<|.nil<|.ret ⟨.int .i64 (wrongN r.abs n ([]:List Int):Int),Res.one rfl rfl,⟨r,E,(by rw [sync_w C0]<;>rfl),(by rw [sync_w C0]<;>rfl),(ok).k1.up fun _ h=>.inl h⟩⟩
 have hw0:wrongN r.abs n []=0:=by omega
 refine .skip<|.seq<|?_;obtain ⟨hd1,hd2,hd3,hd4⟩:=dsk_parts (ok.m0);refine .r<|.z .mvP<|.z .nil<|.z (.fa T.fd137_0)<|.z (.ldx T.ag135 hd1)<|.z .mvT<|.z (.lk KV.ba n (v:=.pointer (ptrN (bget r.fs n))) T.mp135 (stB_iff T.st9) T.zr153 hd2 (by exact ents_getD))<|.z .asP<|.nil<|.seq<|.s<|.z .mvP<|.z (.pEq T.pt153)<|.z .mvB<|.spl (fun G22=>?_) (fun G22=>?_)
 ·
  refine .y<|.y<|.y<|.y<|.y<|.y<|.y<|.y<|.y<|.y<|.y<|.y<|.y<|.z .pkt<|.nil<|.ct<|.s<|.z .asI<|.nil<|.ret ⟨.int .i64 4,Res.one rfl rfl,⟨r,E,(by rw [sync_n hw0 (by simp only [RD.abs];cases hb:bget r.fs n with | none=>rfl | some x=>(rw [hb] at G22;simp [ptrN] at G22))]<;>rfl),(by rw [sync_n hw0 (by simp only [RD.abs];cases hb:bget r.fs n with | none=>rfl | some x=>(rw [hb] at G22;simp [ptrN] at G22))]<;>rfl),(ok).k1.up fun _ h=>.inl h⟩⟩
 obtain ⟨f,hg⟩:∃f0,bget r.fs n=some f0:=by (cases hb:bget r.fs n with | none=>(rw [hb] at G22;simp [ptrN] at G22) | some x=>exact ⟨x,rfl⟩)
 rw [hg];simp only [ptrN,Option.map_some];have hfb:=hd4 n f hg;refine .z .mvP<|.z .nil<|.z (.fa T.fd156_2)<|.z (.ldx T.ag4 hfb)<|.z .not<|.z .mvB<|.spl (fun G28=>?_) (fun G28=>?_)
 ·
  refine .z .mvP<|.z .nil<|.z (.fa T.fd156_4)<|.z (.ldx T.ag154 hfb)<|.z (.len T.el154)<|.z .eql<|.z .pkt<|.z .pkf<|.nil<|.cd (fun C1=>?_) (fun C1=>?_)
  ·
   refine .s<|.z .asI<|.nil<|.ret ⟨.int .i64 4,Res.one rfl rfl,⟨r,E,(by rw [sync_0 hw0 (show r.abs.fs n=some f.abs by simp [RD.abs,hg]) ⟨by show f.here=false;simpa using G28,by have h2:f.ol=[]:=List.eq_nil_of_length_eq_zero (by omega);simp [RF.abs,h2]⟩]<;>rfl),(by rw [sync_0 hw0 (show r.abs.fs n=some f.abs by simp [RD.abs,hg]) ⟨by show f.here=false;simpa using G28,by have h2:f.ol=[]:=List.eq_nil_of_length_eq_zero (by omega);simp [RF.abs,h2]⟩]<;>rfl),(ok).k1.up fun _ h=>.inl h⟩⟩
  have hne:¬(f.abs.here=false∧f.abs.opn=[]):=by rintro ⟨_,h1⟩;exact absurd (show f.ol=[] by simpa [RF.abs] using h1) (fun h2=>C1 (by rw [h2];rfl))
  refine .skip<|.seq<|.s<|.z .mvP<|.c' 38 .func (power_any (ok).loc0 hk hcg) ?_;rintro _ η1 ⟨rfl,q⟩;have ok:=(ok).lift1 q;refine .z .asI<|.nil<|.s<|.z .mvI<|.z .neq<|.nil<|.cd (fun C2=>?_) (fun C2=>?_)
  ·
   have hp0:r.left=0:=by by_cases h:r.left=0;exact h;exact absurd (by rw [powerR_1 h];rfl) C2
   refine .s<|.z .mvI<|.z .asI<|.nil<|.ret ⟨.int .i64 ((powerR r).2:Int),Res.one rfl rfl,⟨(powerR r).1,E,(by rw [sync_p hw0 (show r.abs.fs n=some f.abs by simp [RD.abs,hg]) hne hp0,(powerR_abs r).2]),(by rw [sync_p hw0 (show r.abs.fs n=some f.abs by simp [RD.abs,hg]) hne hp0,(powerR_abs r).1]),(by rw [powerR_fs];exact ok.k1:Hp _ _ [dskI d (powerR r).1] [bysI E (powerR r).1.fs] _).up fun _ h=>.inl h⟩⟩
  have hpl:¬r.left=0:=fun h=>by rw [powerR_0 h] at C2;exact C2 (by simp)
  have ok:=ok;rw [powerR_1 hpl] at ok;refine .skip<|.s<|.z .mvP<|.z .mvT<|.z .mvP<|.c' 45 .func (settle_any (d:=d) (r:=⟨r.m,r.fs,r.dark,lfR r,r.chg+1⟩) (E:=E) (f:=f) (ok).loc1 hg) ?_;rintro _ η2 ⟨rfl,q⟩;have ok:=(ok).dsk (d:=d) (r:=⟨r.m,r.fs,r.dark,lfR r,r.chg+1⟩) (r':=(settleR ⟨r.m,r.fs,r.dark,lfR r,r.chg+1⟩ n f)) (E':=E) ⟨q,fun _ h=>.inl h⟩;refine .nil ?_;refine .s<|.z .asI<|.nil<|.ret ⟨.int .i64 0,Res.one rfl rfl,⟨settleR ⟨r.m,r.fs,r.dark,lfR r,r.chg+1⟩ n f,E,(by rw [sync_d hw0 (show r.abs.fs n=some f.abs by simp [RD.abs,hg]) hne (by exact hpl)];rfl),(by rw [sync_d hw0 (show r.abs.fs n=some f.abs by simp [RD.abs,hg]) hne (by exact hpl),settleR_abs];rfl),ok.k1.up fun _ h=>.inl h⟩⟩
 have hne:¬(f.abs.here=false∧f.abs.opn=[]):=by rintro ⟨h1,_⟩;have h2:f.here=false:=h1;rw [h2] at G28;cases G28
 refine .y<|.y<|.y<|.y<|.y<|.y<|.z .pkf<|.z .pkf<|.nil<|.cf<|.skip<|.seq<|.s<|.z .mvP<|.c' 38 .func (power_any (ok).loc0 hk hcg) ?_;rintro _ η3 ⟨rfl,q⟩;have ok:=(ok).lift1 q;refine .z .asI<|.nil<|.s<|.z .mvI<|.z .neq<|.nil<|.cd (fun C2=>?_) (fun C2=>?_)
 ·
  have hp0:r.left=0:=by by_cases h:r.left=0;exact h;exact absurd (by rw [powerR_1 h];rfl) C2
  refine .s<|.z .mvI<|.z .asI<|.nil<|.ret ⟨.int .i64 ((powerR r).2:Int),Res.one rfl rfl,⟨(powerR r).1,E,(by rw [sync_p hw0 (show r.abs.fs n=some f.abs by simp [RD.abs,hg]) hne hp0,(powerR_abs r).2]),(by rw [sync_p hw0 (show r.abs.fs n=some f.abs by simp [RD.abs,hg]) hne hp0,(powerR_abs r).1]),(by rw [powerR_fs];exact ok.k1:Hp _ _ [dskI d (powerR r).1] [bysI E (powerR r).1.fs] _).up fun _ h=>.inl h⟩⟩
 have hpl:¬r.left=0:=fun h=>by rw [powerR_0 h] at C2;exact C2 (by simp)
 have ok:=ok;rw [powerR_1 hpl] at ok;refine .skip<|.s<|.z .mvP<|.z .mvT<|.z .mvP<|.c' 45 .func (settle_any (d:=d) (r:=⟨r.m,r.fs,r.dark,lfR r,r.chg+1⟩) (E:=E) (f:=f) (ok).loc1 hg) ?_;rintro _ η4 ⟨rfl,q⟩;have ok:=(ok).dsk (d:=d) (r:=⟨r.m,r.fs,r.dark,lfR r,r.chg+1⟩) (r':=(settleR ⟨r.m,r.fs,r.dark,lfR r,r.chg+1⟩ n f)) (E':=E) ⟨q,fun _ h=>.inl h⟩;refine .nil ?_;refine .s<|.z .asI<|.nil<|.ret ⟨.int .i64 0,Res.one rfl rfl,⟨settleR ⟨r.m,r.fs,r.dark,lfR r,r.chg+1⟩ n f,E,(by rw [sync_d hw0 (show r.abs.fs n=some f.abs by simp [RD.abs,hg]) hne (by exact hpl)];rfl),(by rw [sync_d hw0 (show r.abs.fs n=some f.abs by simp [RD.abs,hg]) hne (by exact hpl),settleR_abs];rfl),ok.k1.up fun _ h=>.inl h⟩⟩
theorem take_min {α:Type} (l:List α) (q:Nat):l.take (min q l.length)=l.take q:=by
 rw [List.take_eq_take_iff];omega
theorem size_0 {r:RD} {n:List UInt8} (h:r.dark=true∨thereN r.abs n=false):sizeN r.abs n=(0,false):=by unfold sizeN;rw [if_pos (by exact h)]
theorem size_1 {r:RD} {n:List UInt8} {f:RF} (h:¬r.dark=true) (hg:bget r.fs n=some f) (hh:f.here=true):sizeN r.abs n=(f.nl.length,true):=by
 unfold sizeN;rw [if_neg]
 ·simp [RD.abs,hg,RF.abs]
 ·rintro (h1 | h1)
  ·exact h h1
  ·rw [there_f hg,hh] at h1;cases h1
theorem read_w {d:Dk} {n:List UInt8} {y z:Int} (h:¬(wrongN d n [y,z]:Int)=0):readN d n y z=([],wrongN d n [y,z]):=by unfold readN;rw [if_pos (by omega)]
theorem read_n {r:RD} {n:List UInt8} {y z:Int} (h:wrongN r.abs n [y,z]=0) (h1:thereN r.abs n=false):readN r.abs n y z=([],4):=by
 unfold readN thereN at *;rw [if_neg (by omega)];cases hf:r.abs.fs n with
 | none=>rfl
 | some f=>rw [hf] at h1;simp only at h1⊢;rw [if_pos h1]
theorem read_f {r:RD} {n:List UInt8} {p q:Nat} {f:RF} (h:wrongN r.abs n [(p:Int),(q:Int)]=0) (hg:bget r.fs n=some f) (hh:f.here=true):readN r.abs n p q=((f.nl.drop p).take q,0):=by
 unfold readN;rw [if_neg (by omega)];simp only [RD.abs,hg,Option.map_some];rw [if_neg (by show ¬f.here=false;rw [hh];decide)];rfl
theorem flsNil {h0 h:Heap} {D:Nat→Prop} {M R:List Itm} (ok:Hp h0 D M R h):Hp h0 D (flsI []::M) R h:=Hp.star (l:=[]) ok
theorem size_anyD {h:Heap} {d:Nat} {r:RD} (hd:(dskI d r).p h) {n:List UInt8} :
  HC Tryz.prog 136 #[.pointer (some ⟨d,0,none⟩),.string (BA n)] h (fun v h'=>v=.tuple #[.int .i64 ((sizeN r.abs n).1:Int),.bool (sizeN r.abs n).2]∧h'=h):=by
 obtain ⟨hd1,hd2,hd3,hd4⟩:=dsk_parts hd;refine HC.go Tryz.func136 30 ?_;refine .s<|.z .asI<|.z .asB<|.nil<|.seq<|.s<|.z .mvP<|.z (.pEqS T.pt63)<|.z .mvB<|.z .mvP<|.z .nil<|.z (.fa T.fd137_1)<|.z (.ldx T.ag4 hd1)<|.z .pkf<|.z .mvB<|.spl (fun G14=>?_) (fun G14=>?_)
 ·
  refine .y<|.y<|.y<|.y<|.z .pkt<|.nil<|.ct<|.s<|.z .asI<|.z .asB<|.nil<|.ret ⟨.tuple #[.int .i64 0,.bool false],Res.two rfl rfl rfl,⟨by first | rw [size_0 (.inl (by assumption))];rfl | rw [size_0 (.inr hnotf1)];rfl,rfl⟩⟩
 refine .z .mvP<|.z .mvT<|.c' 17 .func (there_any (d:=d) (r:=r) (n:=n) hd) ?_;rintro _ _ ⟨(⟨hnotf1,rfl⟩ | ⟨tf1,hgtf1,hhtf1,rfl⟩),heq⟩
 ·
  obtain rfl:=heq.symm;refine .z (.pEqN T.pt153)<|.z .pkf<|.nil<|.ct<|.s<|.z .asI<|.z .asB<|.nil<|.ret ⟨.tuple #[.int .i64 0,.bool false],Res.two rfl rfl rfl,⟨by first | rw [size_0 (.inl (by assumption))];rfl | rw [size_0 (.inr hnotf1)];rfl,rfl⟩⟩
 obtain rfl:=heq.symm;refine .z (.pEqS T.pt153)<|.z .pkf<|.nil<|.cf<|.skip<|.seq<|?_;have hfb:=hd4 n tf1 hgtf1;refine .r<|.z .mvP<|.z .nil<|.z (.fa T.fd137_0)<|.z (.ldx T.ag135 hd1)<|.z .mvT<|.z (.lk KV.ba n (v:=.pointer (some ⟨tf1.blk,0,none⟩)) T.mp135 (stB_iff T.st9) T.zr153 hd2 (by rw [ents_get,hgtf1];rfl))<|.z .nil<|.z (.fa T.fd156_0)<|.z (.ldx T.ag44 hfb)<|.z (.len T.el44)<|.z .asI<|.z .asB<|.nil<|.ret ⟨.tuple #[.int .i64 (tf1.nl.length:Int),.bool true],Res.two rfl rfl rfl,⟨by rw [size_1 (by intro h9;simp [h9] at *) hgtf1 hhtf1],rfl⟩⟩
theorem read_anyD {h:Heap} {d:Nat} {r:RD} {E:Nat→Prop} {n:List UInt8} {y z:Int} (ok:Hp h none_ [] [dskI d r,bysI E r.fs] h) (hk:DkOk r.abs) (hy : -9223372036854775808≤y∧y≤9223372036854775807) (hz : -9223372036854775808≤z∧z≤9223372036854775807) :
  HC Tryz.prog 180 #[.pointer (some ⟨d,0,none⟩),.string (BA n),.int .i64 y,.int .i64 z] h (fun v h'=>∃w,v=.tuple #[w,.int .i64 ((readN r.abs n y z).2:Int)]∧Own h h' 1 5 w ((readN r.abs n y z).1.map bv)):=by
 refine HC.go Tryz.func180 53 ?_;refine .s<|.z .asS<|.z .asI<|.nil<|.seq<|.s<|.z .mvP<|.z .mvT<|.z .mvI<|.z .mvI<|.a' 16 (.lit [.tmp 14,.tmp 15] (cs:=[.int .i64 y,.int .i64 z]) T.el24 T.sz3 T.zr3 ok ⟨rfl,rfl,trivial⟩) ?_;rintro _ η1 ⟨pb1,rfl,ok,xe⟩;refine .k 17 .func (wrong_any (d:=d) (r:=r) (n:=n) (dsk_parts (ok.r0)).1 (a:=some ⟨pb1,0,none⟩) (c:=2) (l:=[y,z]) (RdL.ofCapI ok.m0))<|.z .asI<|.nil<|.s<|.z .mvI<|.z .neq<|.nil<|.cd (fun C0=>?_) (fun C0=>?_)
 ·
  refine .s<|.z .mvI<|.z .asS<|.z .asI<|.nil<|.ret ⟨.tuple #[.slice none 0 0,.int .i64 (wrongN r.abs n [y,z]:Int)],Res.two rfl rfl rfl,⟨_,(by rw [read_w C0]<;>rfl),by rw [read_w C0];exact (ok.nilC (k:=1) (e:=5)).toOwn⟩⟩
 have hw0:wrongN r.abs n [y,z]=0:=by omega
 obtain ⟨p,rfl⟩:∃p:Nat,y=(p:Int):=⟨y.toNat,by have:=(wrongN_ok hw0).2.2.1 y (by simp);omega⟩;obtain ⟨q,rfl⟩:∃q:Nat,z=(q:Int):=⟨z.toNat,by have:=(wrongN_ok hw0).2.2.1 z (by simp);omega⟩;have ok:=(ok).tM;refine .skip<|.s<|.z .mvP<|.z .mvT<|.c' 23 .func (there_any (d:=d) (r:=r) (n:=n) (ok.r0)) ?_;rintro _ _ ⟨(⟨hnotf1,rfl⟩ | ⟨tf1,hgtf1,hhtf1,rfl⟩),heq⟩
 ·
  obtain rfl:=heq.symm;refine .z .asP<|.nil<|.seq<|.block fun K0 hK0=>.s<|.z .mvP<|.z (.pEqN T.pt153)<|.z .asB<|.nil<|.ct<|.s<|.z .asS<|.z .asI<|.nil<|.ret ⟨.tuple #[.slice none 0 0,.int .i64 4],Res.two rfl rfl rfl,⟨_,(by rw [read_n hw0 hnotf1]<;>rfl),by rw [read_n hw0 hnotf1];exact (ok.nilC (k:=1) (e:=5)).toOwn⟩⟩
 obtain rfl:=heq.symm;refine .z .asP<|.nil<|.seq<|.block fun K0 hK0=>.seq<|?_;obtain ⟨hd1,hd2,hd3,hd4⟩:=dsk_parts (ok.r0);have hfb:=hd4 n tf1 hgtf1;have hnl:tf1.nl.length≤16777216:=(hk.fs n tf1.abs (by simp [RD.abs,hgtf1])).1.now;have ok:=ok.d1 (rdI E E (tf1.na,tf1.nl.length,tf1.nc) tf1.nl) (Bys.get ok.r1 hgtf1).now (fun _ h=>h.elim id id);have hnc:tf1.nl.length≤tf1.nc:=ok.r0.c;refine .r<|.z .mvP<|.z (.pEqS T.pt153)<|.z .asB<|.nil<|.cf<|.s<|.z .mvI<|.z .mvP<|.z .nil<|.z (.fa T.fd156_0)<|.z (.ldx T.ag44 hfb)<|.z (.len T.el44)<|.z .geq<|.z .asB<|.nil<|.cd (fun C2=>?_) (fun C2=>?_)
 ·
  refine .s<|.z .asS<|.z .asI<|.nil<|.ret ⟨.tuple #[.slice none 0 0,.int .i64 0],Res.two rfl rfl rfl,⟨_,(by rw [show readN r.abs n p q=([],0) from by rw [read_f hw0 hgtf1 hhtf1,List.drop_eq_nil_of_le (by omega),List.take_nil]]<;>rfl),by rw [show readN r.abs n p q=([],0) from by rw [read_f hw0 hgtf1 hhtf1,List.drop_eq_nil_of_le (by omega),List.take_nil]];exact (ok.nilC (k:=1) (e:=5)).toOwn⟩⟩
 refine .skip<|.end<|hK0 _ _<|.seq<|.t 17 mixed ?_;simp only [List.take_succ_cons,List.take_zero,List.drop_succ_cons,List.drop_zero];refine .z .mvP<|.z .nil<|.z (.fa T.fd156_0)<|.z (.ldx T.ag44 hfb)<|.z .mvI<|.z .mvI<|.z .mvI<|.z .mvP<|.z .nil<|.z (.fa T.fd156_0)<|.z (.ldx T.ag44 hfb)<|.z (.len T.el44)<|.z .mvI<|.z .sub<|.z .min2<|.z .add<|?_;rw [show ((p:Int)+(min (q:Int) ((tf1.nl.length:Int)-(p:Int))))=(((p+min q (tf1.nl.length-p)):Nat):Int) from by omega];refine .z (.slh p (p+min q (tf1.nl.length-p)) T.el44 T.sz5)<|?_;generalize hc1:cutA tf1.na p tf1.nc 1=ca1;generalize hn1:(p+min q (tf1.nl.length-p))-p=cn1;obtain rfl:cn1=((tf1.nl.drop p).take q).length:=by rw [←hn1];rw [List.length_take,List.length_drop];omega
 have ok:=ok.d0 (rdI E E (ca1,((tf1.nl.drop p).take q).length,tf1.nc-p) ((tf1.nl.drop p).take q)) (by have h1:=ok.r0.cut (i:=p) (j:=(p+min q (tf1.nl.length-p))) (by omega) (by omega);rw [show ((tf1.nl).drop p).take ((p+min q (tf1.nl.length-p))-p)=(tf1.nl.drop p).take q from by rw [Nat.add_sub_cancel_left,←List.length_drop,take_min]] at h1;rw [←hc1,←hn1];exact h1) (fun _ h=>h);refine .nil ?_;refine .c' 52 .func (bclone_any (a:=ca1) (c:=tf1.nc-p) (l:=(tf1.nl.drop p).take q) ok.r0 (by simp;omega)) ?_;rintro _ η2 own;obtain ⟨ya1,yc1,rfl⟩:=own.formB;have ok:=ok.own own;refine .z .asS<|.z .asI<|.nil<|.ret ⟨.tuple #[.slice ya1 (((tf1.nl.drop p).take q).length) yc1,.int .i64 0],Res.two rfl rfl rfl,⟨_,(by rw [read_f hw0 hgtf1 hhtf1]<;>rfl),by rw [read_f hw0 hgtf1 hhtf1];exact (ok).toOwn⟩⟩
theorem dark_any {h:Heap} {d:Nat} {r:RD} (hd:(dboxI d r).p h) :
  HC Tryz.prog 135 #[.pointer (some ⟨d,0,none⟩)] h (fun v h'=>v=.bool r.dark∧h'=h):=by
 have hd1:=hd;refine HC.go Tryz.func135 11 ?_;refine .s<|.z .asB<|.nil<|.s<|.z .mvP<|.z (.pNeS T.pt63)<|.z .mvB<|.z .mvP<|.z .nil<|.z (.fa T.fd137_1)<|.z (.ldx T.ag4 hd1)<|.z .pkt<|.z .asB<|.nil<|.ret ⟨.bool r.dark,Res.one rfl rfl,⟨rfl,rfl⟩⟩
theorem changes_any {h:Heap} {d:Nat} {r:RD} (hd:(dboxI d r).p h) :
  HC Tryz.prog 268 #[.pointer (some ⟨d,0,none⟩)] h (fun v h'=>v=.int .i64 r.chg∧h'=h):=by
 have hd1:=hd;refine HC.go Tryz.func268 9 ?_;refine .s<|.z .asI<|.nil<|.seq<|.s<|.z .mvP<|.z (.pEqS T.pt63)<|.nil<|.cf<|.skip<|.s<|.z .mvP<|.z .nil<|.z (.fa T.fd137_3)<|.z (.ldx T.ag3 hd1)<|.z .asI<|.nil<|.ret ⟨.int .i64 r.chg,Res.one rfl rfl,⟨rfl,rfl⟩⟩
theorem new_any {h:Heap} :
  HC Tryz.prog 35 #[] h (fun v h'=>∃d r,v=.pointer (some ⟨d,0,none⟩)∧r.abs=newN∧Hp h none_ [dskI d r] [bysI none_ r.fs] h'):=by
 have ok:=Hp.nil h none_;refine HC.go Tryz.func35 4 ?_;refine .s<|.z .asP<|.nil<|.s<|.a' 1 (.mkm kvB ok) ?_;rintro _ η1 ⟨mb1,rfl,ok⟩;refine .z (.bd #[.map (some mb1),.bool false,.int .i64 (-1),.int .i64 0] T.zr137 T.pl137 rfl)<|.a' 3 (.bxA (cs:=[.map (some mb1),.bool false,.int .i64 (-1),.int .i64 0]) ok) ?_;rintro _ η2 ⟨pb1,rfl,ok,xe⟩;refine .z .asP<|.nil<|.ret ⟨.pointer (some ⟨pb1,0,none⟩),Res.one rfl rfl,⟨pb1,⟨mb1,[],false,-1,0⟩,rfl,rfl,((Hp.dcls (r:=⟨mb1,[],false,-1,0⟩) (flsNil ok).n2.n2).dE (bysI none_ []) (fun _ h=>by cases h) (fun _ f=>f))⟩⟩
theorem iv_one (x:Int):∀u∈[iv x],u.oneCell'=true:=by
 intro u hu;simp at hu;subst hu;rfl
structure CFr where
 page:Int
 commit:Int
 b:SV
@[reducible] def fr (f:CFr):List Value:=[.int .i64 f.page,.int .i64 f.commit,sv f.b]
theorem fr_len (f:CFr):(fr f).length=3:=rfl
theorem fr_one (f:CFr):∀u∈fr f,u.oneCell'=true:=by
 intro u hu;simp [fr] at hu;rcases hu with rfl | rfl | rfl<;>rfl
structure AFr where
 page:Int
 commit:Int
 b:List UInt8
 deriving DecidableEq
structure FrIs (h:Heap) (f:CFr) (x:AFr):Prop where
 page:f.page=x.page
 commit:f.commit=x.commit
 b:Bytes h (sv f.b) x.b
def Frames (h:Heap) (v:Value) (L:List AFr):Prop:=∃l:List CFr,Sl h 3 v (l.flatMap fr)∧All2 (FrIs h) l L
theorem Frames.nil (h:Heap):Frames h (.slice none 0 0) []:=⟨[],Sl.nil h 3,All2.nil⟩
def ixOf (v:Int):List Int→Int
 | []=>-1
 | x::l=>if x=v then 0 else (if ixOf v l<0 then -1 else ixOf v l+1)
theorem ixOf_none {v:Int} : ∀ {l:List Int},v∉l→ixOf v l = -1
 | [],_=>rfl
 | x::l,h=>by
  simp only [List.mem_cons,not_or] at h;unfold ixOf;rw [if_neg (fun e=>h.1 e.symm),ixOf_none h.2];rfl
theorem ixOf_some {v:Int} : ∀ {l:List Int} {k:Nat} (hk:k<l.length),v∉l.take k→l[k]=v→ixOf v l=k
 | x::l,0,_,_,h=>by simp at h;simp [ixOf,h]
 | x::l,k+1,hk,ha,h=>by
  simp only [List.take_succ_cons,List.mem_cons,not_or] at ha;have:=ixOf_some (l:=l) (k:=k) (by simpa using hk) ha.2 (by simpa using h);unfold ixOf;rw [if_neg (fun e=>ha.1 e.symm),this,if_neg (by omega)];omega
theorem zc_int {n:Nat} : ∀u∈(Builtin.zeroCells (Value.cells (.int .i64 0)) n).toList,u=.int .i64 0:=by
 intro u hu;simp [Builtin.zeroCells,Value.cells] at hu;obtain ⟨i,_,hi⟩:=hu;rw [←hi];simp [Nat.mod_one]
theorem iv_ones (l:List Int):∀u∈l.map iv,u.oneCell'=true:=by
 intro u hu;obtain ⟨x,_,rfl⟩:=List.mem_map.1 hu;rfl
theorem bv_ones (l:List UInt8):∀u∈l.map bv,u.oneCell'=true:=by
 intro u hu;obtain ⟨x,_,rfl⟩:=List.mem_map.1 hu;rfl
theorem index_any {h:Heap} {a:Option Addr} {n c:Nat} {v:Int} {l:List Int} (hl:Sl h 1 (.slice a n c) (l.map iv)) :
  HC Tryz.prog 130 #[.slice a n c,.int .i64 v] h (fun r h'=>r=.int .i64 (ixOf v l)∧h'=h):=by
 have hra:=hl.cells;have hcm:=hl.bd;have hla:l.length=n:=by simpa using hra.len
 refine HC.body Tryz.func130 rfl (by kernel_rfl) 19 rfl rfl ?_;refine HW.seq fun K1 hK1=>?_;refine HW.region ?_;refine HO.v (V.asI rfl) rfl 4 rfl rfl ?_;refine HO.nil ?_;refine hK1 _ _ ?_;refine HW.seq fun K2 hK2=>?_;refine HW.seq fun K3 hK3=>?_;refine HW.region ?_;refine HO.v (V.mvS rfl) rfl 6 rfl rfl ?_;refine HO.v (V.len rfl T.el24) rfl 7 rfl rfl ?_;refine HO.v (V.mvI rfl) rfl 8 rfl rfl ?_;refine HO.nil ?_;refine hK3 _ _ ?_;refine HW.block ?_;refine HW.loopm (fun m s hh=>∃k:Nat,Has s [(0,.slice a n c),(1,.int .i64 v),(7,.int .i64 n),(8,.int .i64 k)]∧hh=h∧k≤n∧m=n-k∧v∉l.take k) ?_ ?_
 ·exact ⟨_,0,⟨rfl,rfl,rfl,rfl,trivial⟩,rfl,Nat.zero_le _,rfl,by simp⟩
 rintro m s hh ⟨k,hs,rfl,hk,rfl,hp⟩ J4 hJ4;refine HW.frame hs fun τ=>?_;refine HW.seq fun K5 hK5=>?_;refine HW.region ?_;refine HO.v (V.lss rfl rfl rfl) rfl 9 rfl rfl ?_;refine HO.nil ?_;refine hK5 _ _ ?_;refine HW.seq fun K6 hK6=>?_;refine HW.condr rfl (fun hc=>?_) (fun hc=>?_)
 ·
  have hkn:=of_decide_eq_false hc;refine HW.exit ?_;have hkn:=of_decide_eq_false hc;refine hK2 _ _ ?_;refine HW.seq fun K7 hK7=>?_;refine HW.region ?_;refine HO.v (V.asI rfl) rfl 4 rfl rfl ?_;refine HO.nil ?_;refine hK7 _ _ ?_;refine HW.ret ?_;refine ⟨.int .i64 (-1),Res.one rfl rfl,(by have h1:k=n:=(by omega);rw [h1,List.take_of_length_le (by omega)] at hp;rw [ixOf_none hp]),rfl⟩
 refine HW.skip ?_;refine hK6 _ _ ?_;refine HW.seq fun K8 hK8=>?_;have hkn:=of_decide_eq_true hc;have hkl:k<l.length:=by omega
 obtain ⟨b,o,rfl,hcell⟩:=hra.pos (by omega);refine HW.block ?_;refine HW.seq fun K9 hK9=>?_;refine HW.region ?_;refine HO.v (V.mvI rfl) rfl 10 rfl rfl ?_;refine HO.v (V.asI rfl) rfl 5 rfl rfl ?_;refine HO.nil ?_;refine hK9 _ _ ?_;refine HW.seq fun K10 hK10=>?_;refine HW.region ?_;refine HO.v (V.mvI rfl) rfl 11 rfl rfl ?_;refine HO.v (V.mvS rfl) rfl 12 rfl rfl ?_;refine HO.v (V.mvI rfl) rfl 13 rfl rfl ?_;refine HO.v (V.indexAddr1 rfl rfl T.el24 T.sz3 (by omega)) rfl 14 rfl rfl ?_;refine HO.v (V.load rfl (load_one T.ag3 (v:=iv l[k]) (hcell _ _ (map_at (by omega))))) rfl 15 rfl rfl ?_;refine HO.v (V.eql rfl rfl rfl) rfl 16 rfl rfl ?_;refine HO.nil ?_;refine hK10 _ _ ?_;refine HW.cond rfl (fun hc=>?_) (fun hc=>?_)
 ·
  refine HW.seq fun K11 hK11=>?_;refine HW.region ?_;refine HO.v (V.mvI rfl) rfl 17 rfl rfl ?_;refine HO.v (V.asI rfl) rfl 4 rfl rfl ?_;refine HO.nil ?_;refine hK11 _ _ ?_;refine HW.ret ?_;refine ⟨.int .i64 k,Res.one rfl rfl,(by rw [ixOf_some (k:=k) (by omega) hp (of_decide_eq_true hc).symm]),rfl⟩
 refine HW.skip ?_;refine hK8 _ _ ?_;refine HW.region ?_;refine HO.v (V.add rfl rfl (by omega)) rfl 18 rfl rfl ?_;refine HO.v (V.mvI rfl) rfl 8 rfl rfl ?_;refine HO.nil ?_;refine hJ4 _ _ _ ⟨k+1,⟨rfl,rfl,rfl,rfl,trivial⟩,rfl,by omega,rfl,(by rw [take_next (by omega)];have:=of_decide_eq_false hc;simp only [List.mem_append,List.mem_singleton,not_or];exact ⟨hp,this⟩)⟩ (by omega)
theorem cloneI_any {h:Heap} {a:Option Addr} {n c:Nat} {l:List Int} (hl:Sl h 1 (.slice a n c) (l.map iv)) (hN:l.length≤1000000000000) :
  HC Tryz.prog 289 #[.slice a n c] h (fun r h'=>Own h h' 1 3 r (l.map iv)):=by
 have hra:=hl.cells;have hla:l.length=n:=by simpa using hra.len
 have hown:Own h (h.push (.cells #[] 3 (0,0))) 1 3 (.slice (some ⟨h.size,0,none⟩) 0 0) []:=Own.new (cs:=#[]) (Ext.refl h) rfl (by omega);refine HC.body Tryz.func289 rfl (by kernel_rfl) 8 rfl rfl ?_;refine HW.seq fun K1 hK1=>?_;refine HW.region ?_;refine HO.v (V.asS rfl) rfl 2 rfl rfl ?_;refine HO.nil ?_;refine hK1 _ _ ?_;refine HW.seq fun K2 hK2=>?_;refine HW.seq fun K3 hK3=>?_;refine HW.region ?_;refine HO.v (V.mvS rfl) rfl 3 rfl rfl ?_;refine HO.v (V.slEqNil rfl rfl T.el24) rfl 4 rfl rfl ?_;refine HO.nil ?_;refine hK3 _ _ ?_;refine HW.cond rfl (fun hc=>?_) (fun hc=>?_)
 ·
  refine HW.seq fun K4 hK4=>?_;refine HW.region ?_;refine HO.v (V.asS rfl) rfl 2 rfl rfl ?_;refine HO.nil ?_;refine hK4 _ _ ?_;refine HW.ret ?_;refine ⟨.slice none 0 0,Res.one rfl rfl,(by cases a with | none=>(have:n=0:=(by cases Nat.eq_zero_or_pos n with | inl e=>exact e | inr e=>(obtain ⟨b,o,hb,_⟩:=hra.pos e;cases hb));have:l=[]:=List.eq_nil_of_length_eq_zero (by omega);subst this;exact Own.nil (Ext.refl h) _ _) | some _=>cases hc)⟩
 refine HW.skip ?_;refine hK2 _ _ ?_;refine HW.seq fun K5 hK5=>?_;refine HW.region ?_;refine HO.e (V.buildSlice [] (cs:=#[]) T.el24 T.sz3 T.zr3 rfl rfl rfl trivial rfl) rfl 5 rfl rfl ?_;refine HO.v (V.mvS rfl) rfl 6 rfl rfl ?_;refine HO.a (V.append rfl rfl T.el24 T.sz3 T.by3 T.zr3 rfl hown.cap (hl.ext (Ext.push _ _)) (iv_ones l) (by simp;omega)) rfl 7 rfl rfl ?_;rintro _ _ hap;obtain ⟨ov,rfl⟩:=hap.cap.form;refine HO.v (V.asS rfl) rfl 2 rfl rfl ?_;refine HO.nil ?_;refine hK5 _ _ ?_;refine HW.ret ?_;refine ⟨sv ov,Res.one rfl rfl,(by have:=hown.app hap;simpa using this)⟩
theorem cloneB_any {h:Heap} {a:Option Addr} {n c:Nat} {l:List UInt8} (hl:Sl h 1 (.slice a n c) (l.map bv)) (hN:l.length≤1000000000000) :
  HC Tryz.prog 84 #[.slice a n c] h (fun r h'=>Own h h' 1 5 r (l.map bv)):=by
 have hra:=hl.cells;have hla:l.length=n:=by simpa using hra.len
 have hown:Own h (h.push (.cells #[] 5 (0,0))) 1 5 (.slice (some ⟨h.size,0,none⟩) 0 0) []:=Own.new (cs:=#[]) (Ext.refl h) rfl (by omega);refine HC.body Tryz.func84 rfl (by kernel_rfl) 8 rfl rfl ?_;refine HW.seq fun K1 hK1=>?_;refine HW.region ?_;refine HO.v (V.asS rfl) rfl 2 rfl rfl ?_;refine HO.nil ?_;refine hK1 _ _ ?_;refine HW.seq fun K2 hK2=>?_;refine HW.seq fun K3 hK3=>?_;refine HW.region ?_;refine HO.v (V.mvS rfl) rfl 3 rfl rfl ?_;refine HO.v (V.slEqNil rfl rfl T.el44) rfl 4 rfl rfl ?_;refine HO.nil ?_;refine hK3 _ _ ?_;refine HW.cond rfl (fun hc=>?_) (fun hc=>?_)
 ·
  refine HW.seq fun K4 hK4=>?_;refine HW.region ?_;refine HO.v (V.asS rfl) rfl 2 rfl rfl ?_;refine HO.nil ?_;refine hK4 _ _ ?_;refine HW.ret ?_;refine ⟨.slice none 0 0,Res.one rfl rfl,(by cases a with | none=>(have:n=0:=(by cases Nat.eq_zero_or_pos n with | inl e=>exact e | inr e=>(obtain ⟨b,o,hb,_⟩:=hra.pos e;cases hb));have:l=[]:=List.eq_nil_of_length_eq_zero (by omega);subst this;exact Own.nil (Ext.refl h) _ _) | some _=>cases hc)⟩
 refine HW.skip ?_;refine hK2 _ _ ?_;refine HW.seq fun K5 hK5=>?_;refine HW.region ?_;refine HO.e (V.buildSlice [] (cs:=#[]) T.el44 T.sz5 T.zr5 rfl rfl rfl trivial rfl) rfl 5 rfl rfl ?_;refine HO.v (V.mvS rfl) rfl 6 rfl rfl ?_;refine HO.a (V.append rfl rfl T.el44 T.sz5 T.by5 T.zr5 rfl hown.cap (hl.ext (Ext.push _ _)) (bv_ones l) (by simp;omega)) rfl 7 rfl rfl ?_;rintro _ _ hap;obtain ⟨ov,rfl⟩:=hap.cap.form;refine HO.v (V.asS rfl) rfl 2 rfl rfl ?_;refine HO.nil ?_;refine hK5 _ _ ?_;refine HW.ret ?_;refine ⟨sv ov,Res.one rfl rfl,(by have:=hown.app hap;simpa using this)⟩
theorem delete_any {h:Heap} {a:Option Addr} {n c i j:Nat} {l:List Int} (hcap:Cap h 1 3 (.slice a n c) (l.map iv)) (hij:i≤j) (hj:j≤n) (hN:l.length≤1000000000000) :
  HC Tryz.prog 293 #[.slice a n c,.int .i64 i,.int .i64 j] h (fun r h'=>r=.slice a (n-(j-i)) c∧Cap h' 1 3 (.slice a (n-(j-i)) c) ((l.take i++l.drop j).map iv)∧Chg (blkC (.slice a n c)) h h'):=by
 have hsl:=hcap.sl;have hra:=hsl.cells;have hcm:=hsl.bd;have hla:l.length=n:=by simpa using hra.len
 have hnc:n≤c:=hcap.le;refine HC.body Tryz.func293 rfl (by kernel_rfl) 33 rfl rfl ?_;refine HW.seq fun K1 hK1=>?_;refine HW.region ?_;refine HO.v (V.asS rfl) rfl 6 rfl rfl ?_;refine HO.nil ?_;refine hK1 _ _ ?_;refine HW.seq fun K2 hK2=>?_;refine HW.region ?_;refine HO.v (V.mvS rfl) rfl 8 rfl rfl ?_;refine HO.v (V.mvI rfl) rfl 9 rfl rfl ?_;refine HO.v (V.mvI rfl) rfl 10 rfl rfl ?_;refine HO.v (V.mvS rfl) rfl 11 rfl rfl ?_;refine HO.v (V.len rfl T.el24) rfl 12 rfl rfl ?_;refine HO.v (V.slice_lhm rfl rfl rfl rfl T.el24 T.sz3 (by omega) (by omega) (by omega)) rfl 13 rfl rfl ?_;refine HO.nil ?_;refine hK2 _ _ ?_;refine HW.seq fun K3 hK3=>?_;refine HW.seq fun K4 hK4=>?_;refine HW.region ?_;refine HO.v (V.mvI rfl) rfl 14 rfl rfl ?_;refine HO.v (V.mvI rfl) rfl 15 rfl rfl ?_;refine HO.v (V.eql rfl rfl rfl) rfl 16 rfl rfl ?_;refine HO.nil ?_;refine hK4 _ _ ?_;refine HW.cond rfl (fun hc=>?_) (fun hc=>?_)
 ·
  refine HW.seq fun K5 hK5=>?_;refine HW.region ?_;refine HO.v (V.mvS rfl) rfl 17 rfl rfl ?_;refine HO.v (V.asS rfl) rfl 6 rfl rfl ?_;refine HO.nil ?_;refine hK5 _ _ ?_;refine HW.ret ?_;refine ⟨.slice a n c,Res.one rfl rfl,(by have:=of_decide_eq_true hc;have e:i=j:=(by omega);subst e;simp),(by have:=of_decide_eq_true hc;have e:i=j:=(by omega);subst e;simpa using hcap),Chg.refl _ _⟩
 refine HW.skip ?_;refine hK3 _ _ ?_;refine HW.seq fun K6 hK6=>?_;refine HW.region ?_;refine HO.v (V.mvS rfl) rfl 18 rfl rfl ?_;refine HO.v (V.len rfl T.el24) rfl 19 rfl rfl ?_;refine HO.v (V.asI rfl) rfl 7 rfl rfl ?_;refine HO.nil ?_;refine hK6 _ _ ?_;refine HW.seq fun K7 hK7=>?_;have hne:=of_decide_eq_false hc;obtain ⟨b,o,rfl,_⟩:=hra.pos (by omega);have hcut:=hsl.cut (l:=j) (q:=n-j) (by omega);have hij2:i<j:=by omega
 refine HW.tail 6 mixed (by kernel_rfl) ?_;simp only [List.take_succ_cons,List.take_zero,List.drop_succ_cons,List.drop_zero];refine HT.v (V.mvS rfl) rfl 20 rfl rfl ?_;refine HT.v (V.mvI rfl) rfl 21 rfl rfl ?_;refine HT.v (V.slice_h rfl rfl T.el24 T.sz3 (by omega)) rfl 22 rfl rfl ?_;refine HT.v (V.mvS rfl) rfl 23 rfl rfl ?_;refine HT.v (V.mvI rfl) rfl 24 rfl rfl ?_;refine HT.v (V.slice_l rfl rfl T.el24 T.sz3 (by omega)) rfl 25 rfl rfl ?_;refine HT.nil ?_;refine HO.a (V.append rfl rfl T.el24 T.sz3 T.by3 T.zr3 rfl (hcap.pre (by omega)) hcut (fun u hu=>iv_ones l u (List.mem_of_mem_drop (List.mem_of_mem_take hu))) (by simp;omega)) rfl 26 rfl rfl ?_;rintro _ _ hap;obtain rfl:=hap.inplace (some ⟨b,o,none⟩) i c (n-(j-i)) rfl (by simp;omega) (by omega);obtain ⟨zs,hsub⟩:=hap.cap.sub (l:=n-(j-i)) (q:=j-i) (by omega) (by omega);rw [cutA_some (by omega),show j-i=(j-i-1)+1 by omega] at hsub;refine HO.v (V.asS rfl) rfl 0 rfl rfl ?_;refine HO.nil ?_;refine hK7 _ _ ?_;refine HW.seq fun K8 hK8=>?_;refine HW.region ?_;refine HO.v (V.mvS rfl) rfl 27 rfl rfl ?_;refine HO.v (V.mvS rfl) rfl 28 rfl rfl ?_;refine HO.v (V.len rfl T.el24) rfl 29 rfl rfl ?_;refine HO.v (V.mvI rfl) rfl 30 rfl rfl ?_;refine HO.v (V.slice_lh rfl rfl rfl T.el24 T.sz3 (by omega) (by omega)) rfl 31 rfl rfl ?_;have hx31:Value.slice (cutA (some ⟨b,o,none⟩) (n-(j-i)) c 1) (n-(n-(j-i))) (c-(n-(j-i)))=.slice (some ⟨b,o+(n-(j-i-1+1))*1,none⟩) (j-i-1+1) (c-(n-(j-i-1+1))):=by rw [cutA_some (by omega)];congr<;>omega
 refine HO.a0 (V.clear hx31 T.el24 T.zr3 rfl (fun u hu=>by have:u=.int .i64 0:=zc_int u hu;subst this;rfl) hsub) rfl rfl ?_;rintro _ _ ⟨_,ys,hst⟩;refine HO.nil ?_;refine hK8 _ _ ?_;refine HW.seq fun K9 hK9=>?_;refine HW.region ?_;refine HO.v (V.mvS rfl) rfl 32 rfl rfl ?_;refine HO.v (V.asS rfl) rfl 6 rfl rfl ?_;refine HO.nil ?_;refine hK9 _ _ ?_;refine HW.ret ?_;refine ⟨.slice (some ⟨b,o,none⟩) (n-(j-i)) c,Res.one rfl rfl,rfl,?_,?_⟩
 ·have h1:=hap.cap.re hst.shape (fun b' o' j' v hb' hj' hv=>hst.kept b' (o'+j') v hv (fun o2 n2 c2 e2=>by
   injection hb' with e;injection e with e3 e4;injection e2 with e5 e6 e7;injection e5 with e5;injection e5 with e8 e9;left;omega))
  have e:(List.map iv l).take (i*1)++List.take ((n-j)*1) (List.drop (j*1) (List.map iv l))=(l.take i++l.drop j).map iv:=by
   rw [Nat.mul_one,Nat.mul_one,Nat.mul_one,List.map_append,←List.map_take,←List.map_drop];congr 1;exact List.take_of_length_le (by simp;omega)
  rw [e] at h1;exact h1
 ·refine (hap.chg.mono fun x _ hx=>?_).trans (hst.chg.mono fun x _ hx=>?_)
  ·obtain ⟨o2,n2,c2,e2⟩:=hx;injection e2 with e5;injection e5 with e5;injection e5 with e8;subst e8;exact ⟨_,_,_,rfl⟩
  ·obtain ⟨o2,n2,c2,e2⟩:=hx;injection e2 with e5;injection e5 with e5;injection e5 with e8;subst e8;exact ⟨_,_,_,rfl⟩
theorem index_is {h:Heap} {a:Option Addr} {n c:Nat} {v z:Int} {l:List Int} (hz:z=ixOf v l) (hl:Sl h 1 (.slice a n c) (l.map iv)) :
  HC Tryz.prog 130 #[.slice a n c,.int .i64 v] h (fun r h'=>r=.int .i64 z∧h'=h):=by
 subst hz;exact index_any hl
theorem ixOf_ge {v:Int} : ∀ {l:List Int},0≤ixOf v l→∃k:Nat,ixOf v l=(k:Int)∧k<l.length∧l.take k++l.drop (k+1)=l.erase v
 | [],h=>by simp [ixOf] at h
 | x::l,h=>by
  unfold ixOf at h⊢;by_cases hx:x=v
  ·subst hx;rw [if_pos rfl];exact ⟨0,rfl,by simp,by simp⟩
  ·rw [if_neg hx] at h⊢;by_cases hn:ixOf v l<0
   ·rw [if_pos hn] at h;omega
   ·rw [if_neg hn] at h⊢;obtain ⟨k,h1,h2,h3⟩:=ixOf_ge (v:=v) (l:=l) (by omega);refine ⟨k+1,by omega,by simpa using h2,?_⟩;rw [List.take_succ_cons,List.drop_succ_cons,List.cons_append,h3,List.erase_cons_tail (by simpa using hx)]
theorem ixOf_lt {v:Int} {l:List Int} (h:ixOf v l<0):v∉l:=by
 intro hm;obtain ⟨k,hk,hl⟩:=List.mem_iff_getElem.1 hm;have:∃k,∃(hk:k<l.length),l[k]=v∧v∉l.take k:=by
  obtain ⟨m,hm1,hm2⟩:=exists_least (p:=fun k=>∃(hk:k<l.length),l[k]=v) ⟨k,hk,hl⟩;obtain ⟨h1,h2⟩:=hm1;refine ⟨m,h1,h2,fun hx=>?_⟩;obtain ⟨j,hj,hj2⟩:=List.mem_iff_getElem.1 hx;simp at hj hj2;exact absurd (hm2 j ⟨by omega,hj2⟩) (by omega)
 obtain ⟨k,hk,h1,h2⟩:=this;rw [ixOf_some hk h2 h1] at h;omega
structure Ordr (h:Heap) (p:Nat) (rm mp:Value) (ov:SV) (xs:List Int):Prop where
 hp:h[p]? = some (.cells #[sv ov,rm,mp] 249 (0,0))
 ord:Cap h 1 3 (sv ov) (xs.map iv)
theorem Ordr.ne {h:Heap} {p:Nat} {rm mp:Value} {ov:SV} {xs:List Int} (r:Ordr h p rm mp ov xs):∀b,blkC (sv ov) b→b≠p:=fun b hb e=>by
 subst e;obtain ⟨cs,fz,h1⟩:=r.ord.blk hb;rw [r.hp] at h1;injection h1 with h1;injection h1 with _ h1;cases h1
theorem Ordr.lt {h:Heap} {p:Nat} {rm mp:Value} {ov:SV} {xs:List Int} (r:Ordr h p rm mp ov xs):p<h.size:=block_lt r.hp
structure Turned (h:Heap) (p:Nat) (rm mp:Value) (ov:SV) (ys:List Int) (h':Heap) (ov':SV):Prop where
 ordr:Ordr h' p rm mp ov' ys
 chg:Chg (fun b=>b=p∨blkC (sv ov) b) h h'
 place:∀b,blkC (sv ov') b→blkC (sv ov) b∨h.size≤b
theorem forget_any {h:Heap} {p:Nat} {rm mp:Value} {ov:SV} {xs:List Int} {no:Int} (r:Ordr h p rm mp ov xs) (hN:xs.length≤1000000000000) :
  HC Tryz.prog 292 #[.pointer (some ⟨p,0,none⟩),.int .i64 no] h (fun v h'=>∃ov',v=.tuple #[]∧Turned h p rm mp ov (xs.erase no) h' ov'):=by
 obtain ⟨a,n,c⟩:=ov;obtain ⟨z,hz⟩:∃z,z=ixOf no xs:=⟨_,rfl⟩;have hord:Cap h 1 3 (.slice a n c) (xs.map iv):=r.ord;have hla:xs.length=n:=by simpa using hord.sl.cells.len
 have hnc:n≤c:=hord.le;have hbd:c≤9223372036854775807:=hord.bd;refine HC.body Tryz.func292 rfl (by kernel_rfl) 24 rfl rfl ?_;refine HW.seq fun K1 hK1=>?_;refine HW.region ?_;refine HO.v (V.mvP rfl) rfl 5 rfl rfl ?_;refine HO.v (V.nilCheck rfl) rfl 6 rfl rfl ?_;refine HO.v (V.fieldAddr rfl T.fd247_0) rfl 7 rfl rfl ?_;refine HO.v (V.load rfl (load_one T.ag24 (v:=sv (a,n,c)) (cell_of r.hp 0))) rfl 8 rfl rfl ?_;refine HO.v (V.mvI rfl) rfl 9 rfl rfl ?_;refine HO.c OpC.func rfl 10 rfl rfl (index_is hz hord.sl) ?_;rintro _ _ ⟨rfl,rfl⟩;refine HO.v (V.asI rfl) rfl 4 rfl rfl ?_;refine HO.nil ?_;refine hK1 _ _ ?_;refine HW.seq fun K2 hK2=>?_;refine HW.region ?_;refine HO.v (V.mvI rfl) rfl 11 rfl rfl ?_;refine HO.v (V.geq rfl rfl rfl) rfl 12 rfl rfl ?_;refine HO.nil ?_;refine hK2 _ _ ?_;refine HW.condr rfl (fun hc=>?_) (fun hc=>?_)
 ·
  refine HW.skip ?_;refine ⟨.tuple #[],Res.none rfl,(a,n,c),rfl,⟨(by have h1:=of_decide_eq_false hc;rw [List.erase_of_not_mem (ixOf_lt (by omega))];exact r),Chg.refl _ _,fun b hb=>.inl hb⟩⟩
 have hge:=of_decide_eq_true hc;obtain ⟨k,hk1,hk2,hk3⟩:=ixOf_ge (v:=no) (l:=xs) (by omega);obtain rfl:z=(k:Int):=by omega
 refine HW.region ?_;refine HO.v (V.mvP rfl) rfl 13 rfl rfl ?_;refine HO.v (V.mvP rfl) rfl 14 rfl rfl ?_;refine HO.v (V.nilCheck rfl) rfl 15 rfl rfl ?_;refine HO.v (V.fieldAddr rfl T.fd247_0) rfl 16 rfl rfl ?_;refine HO.v (V.load rfl (load_one T.ag24 (v:=sv (a,n,c)) (cell_of r.hp 0))) rfl 17 rfl rfl ?_;refine HO.v (V.mvI rfl) rfl 18 rfl rfl ?_;refine HO.v (V.mvI rfl) rfl 19 rfl rfl ?_;refine HO.v (V.add rfl rfl (by omega)) rfl 20 rfl rfl ?_;refine HO.c OpC.func rfl 21 rfl rfl (delete_any (n:=n) (c:=c) (i:=k) (j:=k+1) hord (by omega) (by omega) hN) ?_;rintro _ h2 ⟨rfl,hcap,hchg⟩;refine HO.v (V.nilCheck rfl) rfl 22 rfl rfl ?_;refine HO.v (V.fieldAddr rfl T.fd247_0) rfl 23 rfl rfl ?_;have hb2:h2[p]? = some (.cells #[sv (a,n,c),rm,mp] 249 (0,0)):=hchg.block r.hp (fun hb=>r.ne _ hb rfl);refine HO.u (V.storeS (cs':=#[sv (a,n-(k+1-k),c),rm,mp]) rfl rfl T.sz24 hb2 (by simp) (by simp) rfl) rfl rfl ?_;refine HO.nil ?_;refine ⟨.tuple #[],Res.none rfl,(a,n-(k+1-k),c),rfl,⟨?_,?_,?_⟩⟩
 ·refine ⟨hput_same hb2,?_⟩;rw [←hk3];exact hcap.chg (hput_chg _ _ _) (fun b hb e=>r.ne b (by obtain ⟨o,n',c',hv⟩:=hb;injection hv with h1 h2 h3;subst h1;exact ⟨_,_,_,rfl⟩) e)
 ·exact (hchg.mono fun x _ hx=>.inr hx).trans ((hput_chg _ _ _).mono fun x _ hx=>.inl hx)
 ·intro b hb;left;obtain ⟨o,n',c',hv⟩:=hb;injection hv with h1 h2 h3;subst h1;exact ⟨_,_,_,rfl⟩
theorem touch_any {h:Heap} {p:Nat} {rm mp:Value} {ov:SV} {xs:List Int} {no:Int} (r:Ordr h p rm mp ov xs) (hN:xs.length≤1000000000) :
  HC Tryz.prog 291 #[.pointer (some ⟨p,0,none⟩),.int .i64 no] h (fun v h'=>∃ov',v=.tuple #[]∧Turned h p rm mp ov (xs.erase no++[no]) h' ov'):=by
 refine HC.body Tryz.func291 rfl (by kernel_rfl) 17 rfl rfl ?_;refine HW.seq fun K1 hK1=>?_;refine HW.region ?_;refine HO.v (V.mvP rfl) rfl 4 rfl rfl ?_;refine HO.v (V.mvI rfl) rfl 5 rfl rfl ?_;refine HO.c OpC.func rfl 6 rfl rfl (forget_any r (by omega)) ?_;rintro _ h1 ⟨ov1,rfl,t1⟩;refine HO.nil ?_;refine hK1 _ _ ?_;refine HW.region ?_;refine HO.v (V.mvP rfl) rfl 7 rfl rfl ?_;refine HO.v (V.mvP rfl) rfl 8 rfl rfl ?_;refine HO.v (V.nilCheck rfl) rfl 9 rfl rfl ?_;refine HO.v (V.fieldAddr rfl T.fd247_0) rfl 10 rfl rfl ?_;refine HO.v (V.load rfl (load_one T.ag24 (v:=sv ov1) (cell_of t1.ordr.hp 0))) rfl 11 rfl rfl ?_;refine HO.v (V.mvI rfl) rfl 12 rfl rfl ?_;refine HO.e (V.buildSlice [.tmp 12] (cs:=#[.int .i64 no]) T.el24 T.sz3 T.zr3 rfl rfl rfl ⟨rfl,trivial⟩ rfl) rfl 13 rfl rfl ?_;refine HO.a (V.append rfl rfl T.el24 T.sz3 T.by3 T.zr3 rfl (t1.ordr.ord.ext (Ext.push _ _)) (sl_new (n:=1) rfl (by omega)) (iv_one no) (by have:=List.length_erase_le (a:=no) (l:=xs);simp;omega)) rfl 14 rfl rfl ?_;rintro _ h2 hap;obtain ⟨ov2,rfl⟩:=hap.cap.form;have hb2:=hap.chg.block (push_other t1.ordr.hp) (fun hb=>t1.ordr.ne _ hb rfl);refine HO.v (V.nilCheck rfl) rfl 15 rfl rfl ?_;refine HO.v (V.fieldAddr rfl T.fd247_0) rfl 16 rfl rfl ?_;refine HO.u (V.storeS (cs':=#[sv ov2,rm,mp]) rfl rfl T.sz24 hb2 (by simp) (by simp) rfl) rfl rfl ?_;refine HO.nil ?_;refine ⟨.tuple #[],Res.none rfl,ov2,rfl,⟨?_,?_,?_⟩⟩
 ·refine ⟨hput_same hb2,?_⟩;have:=hap.cap.chg (hput_chg _ p #[sv ov2,rm,mp]) (fun b hb e=>by
   subst e;obtain ⟨cs,fz,h1⟩:=hap.cap.blk hb;rw [hb2] at h1;injection h1 with h1;injection h1 with _ h1;cases h1)
  simpa [iv] using this
 ·have c1:Chg (fun b=>b=p∨blkC (sv ov) b) h h2:=(t1.chg.trans (Ext.push h1 _).to).trans' hap.chg (fun b hb hk=>by
   rcases t1.place b hk with hk | hk
   ·exact .inr hk
   ·omega)
  exact c1.trans ((hput_chg _ _ _).mono fun x _ hx=>.inl hx)
 ·intro b hb;rcases hap.place b hb with hb | hb
  ·exact t1.place b hb
  ·right;have:=t1.chg.size;simp at hb;omega
structure AP where
 no:Int
 b:List UInt8
 d:Bool
 deriving DecidableEq
def nos (L:List AP):List Int:=L.map fun x=>x.no
def rid (no:Int) (L:List AP):List AP:=L.filter fun x=>decide (x.no≠no)
def hit (no:Int) (L:List AP):Option AP:=L.find? fun x=>decide (x.no=no)
theorem nos_rid (no:Int) (L:List AP):nos (rid no L)=(nos L).filter fun k=>decide (k≠no):=by
 unfold nos rid;rw [List.filter_map];rfl
theorem mem_rid {no:Int} {L:List AP} {x:AP} : x∈rid no L↔x∈L∧x.no≠no:=by simp [rid]
theorem rid_len (no:Int) (L:List AP):(rid no L).length≤L.length:=List.length_filter_le _ _
theorem hit_some {no:Int} {L:List AP} {x:AP} (h:hit no L=some x):x∈L∧x.no=no:=
 ⟨List.mem_of_find?_eq_some h,by have:=List.find?_some h;simpa using this⟩
theorem hit_none {no:Int} {L:List AP} (h:hit no L=none):∀x∈L,x.no≠no:=fun x hx=>by
 have:=List.find?_eq_none.1 h x hx;simpa using this
theorem hit_mem {no:Int} {L:List AP} (h:no∈nos L):∃x,hit no L=some x:=by
 cases e:hit no L with
 | some x=>exact ⟨x,rfl⟩
 | none=>
  obtain ⟨x,hx,hxn⟩:=List.mem_map.1 h;exact absurd hxn (hit_none e x hx)
theorem hit_not {no:Int} {L:List AP} (h:no∉nos L):hit no L=none:=by
 cases e:hit no L with
 | none=>rfl
 | some x=>exact absurd (List.mem_map.2 ⟨x,(hit_some e).1,(hit_some e).2⟩) h
theorem order_drop {no:Int} {L:List AP} (hn:(nos L).Nodup):(nos L).reverse.erase no=(nos (rid no L)).reverse:=by
 have hr:(nos L).reverse.Nodup:=by
  unfold List.Nodup;rw [List.pairwise_reverse];exact hn.imp fun h=>Ne.symm h
 rw [nos_rid,←List.filter_reverse,List.Nodup.erase_eq_filter hr];apply List.filter_congr;intro x _;by_cases e:x=no<;>simp [e]
theorem order_touch {x:AP} {L:List AP} (hn:(nos L).Nodup):(nos L).reverse.erase x.no++[x.no]=(nos (x::rid x.no L)).reverse:=by
 rw [order_drop hn];simp [nos]
theorem nd_rid {no:Int} {L:List AP} (hn:(nos L).Nodup):(nos (rid no L)).Nodup:=by rw [nos_rid];exact hn.filter _
theorem nd_touch {x:AP} {L:List AP} (hn:(nos L).Nodup):(nos (x::rid x.no L)).Nodup:=by
 have:nos (x::rid x.no L)=x.no::nos (rid x.no L):=rfl;rw [this,List.nodup_cons];exact ⟨by rw [nos_rid];simp,nd_rid hn⟩
def isT (h:Heap) (b:Nat) (t:TypeId):Prop:=∃cs fz,h[b]? = some (.cells cs t fz)
theorem isT.eq {h:Heap} {b:Nat} {t u:TypeId} (x:isT h b t) (y:isT h b u):t=u:=by
 obtain ⟨_,_,x⟩:=x;obtain ⟨_,_,y⟩:=y;rw [x] at y;injection y with y;injection y
def wd (F:Nat→Prop) (a z:Nat) (b:Nat):Prop:=F b∨(a≤b∧b<z)
structure PgAt (h:Heap) (F:Nat→Prop) (q:Nat) (x:AP):Prop where
 cells:∃b:SV,h[q]? = some (.cells #[sv b,.bool x.d] 341 (0,0))∧Cap h 1 5 (sv b) (x.b.map bv)∧∀j,blkC (sv b) j→F j
 own:F q
theorem PgAt.chg {h h':Heap} {F F' G:Nat→Prop} {q:Nat} {x:AP} (r:PgAt h F q x) (c:Chg G h h') (hg:∀b,G b→F b→isT h b 341∨isT h b 5→False) (hF:∀b,F b→F' b):PgAt h' F' q x:=by
 obtain ⟨⟨b,hq,hb,hf⟩,ho⟩:=r;refine ⟨⟨b,c.block hq fun g=>hg _ g ho (.inl ⟨_,_,hq⟩),hb.chg c fun j hj g=>?_,fun j hj=>hF _ (hf j hj)⟩,hF _ ho⟩;obtain ⟨cs,fz,h1⟩:=hb.blk hj;exact hg j g (hf j hj) (.inr ⟨cs,fz,h1⟩)
structure CMap (h:Heap) (F:Nat→Prop) (m:Nat) (L:List AP) (ks:List Int) (q:Int→Nat):Prop where
 map:MapT (Value.int .i64) h m (ks.map fun k=>(k,ptr (q k)))
 mem:∀k,k∈ks↔k∈nos L
 nd:(nos L).Nodup
 pg:∀x∈L,PgAt h F (q x.no) x
 inj:∀x∈L,∀y∈L,q x.no=q y.no→x.no=y.no
 own:F m
theorem CMap.chg {h h':Heap} {F F' G:Nat→Prop} {m:Nat} {L:List AP} {ks:List Int} {q:Int→Nat} (r:CMap h F m L ks q) (c:Chg G h h') (hg:∀b,G b→F b→isT h b 249∨isT h b 3) (hF:∀b,F b→F' b):CMap h' F' m L ks q:=by
 refine ⟨r.map.chg c fun g=>?_,r.mem,r.nd,fun x hx=>(r.pg x hx).chg c (fun b g f t=>?_) hF,r.inj,hF _ r.own⟩
 ·obtain ⟨es,cl,hb,_⟩:=r.map;rcases hg _ g r.own with ⟨cs,fz,h1⟩ | ⟨cs,fz,h1⟩<;>(rw [hb] at h1;injection h1 with h1;cases h1)
 ·rcases hg _ g f with h1 | h1<;>rcases t with h2 | h2<;>exact absurd (h1.eq h2) (by decide)
theorem CMap.keys {h:Heap} {F:Nat→Prop} {m:Nat} {L:List AP} {ks:List Int} {q:Int→Nat} (r:CMap h F m L ks q):ks.Nodup:=by
 have h1:=r.map.nodup;rw [List.map_map] at h1;have h2:((fun x:Int × Value=>x.1)∘fun k=>(k,ptr (q k)))=id:=rfl;rwa [h2,List.map_id] at h1
theorem aget_map {f:Int→Value} {ks:List Int} {k:Int} (h:k∈ks):aget (ks.map fun k=>(k,f k)) k=some (f k):=by
 induction ks with
 | nil=>simp at h
 | cons a l ih=>
  unfold aget;rw [List.map_cons,List.find?_cons];by_cases e:a=k
  ·subst e;simp
  ·have hm:k∈l:=by rcases List.mem_cons.1 h with h | h;exact absurd h.symm e;exact h
   have:=ih hm;unfold aget at this;simpa [e] using this
theorem aget_not {f:Int→Value} {ks:List Int} {k:Int} (h:k∉ks):aget (ks.map fun k=>(k,f k)) k=none:=by
 refine aget_none fun p hp=>?_;obtain ⟨j,hj,rfl⟩:=List.mem_map.1 hp;rintro rfl;exact h hj
theorem adel_map {f:Int→Value} {ks:List Int} {k:Int} : adel (ks.map fun k=>(k,f k)) k=(ks.filter fun j=>decide (j≠k)).map fun k=>(k,f k):=by
 unfold adel;rw [List.filter_map];rfl
def kput (ks:List Int) (k:Int):List Int:=if k∈ks then ks else ks++[k]
theorem mem_kput {ks:List Int} {k j:Int} : j∈kput ks k↔j=k∨j∈ks:=by
 unfold kput;by_cases h:k∈ks
 ·rw [if_pos h];constructor
  ·exact .inr
  ·rintro (rfl | hj)
   ·exact h
   ·exact hj
 ·rw [if_neg h];simp [or_comm]
def fput (q:Int→Nat) (k:Int) (n:Nat) (j:Int):Nat:=if j=k then n else q j
theorem caput_map {q:Int→Nat} {ks:List Int} {k:Int} {n:Nat} (hn:ks.Nodup):aput (ks.map fun k=>(k,ptr (q k))) k (ptr n)=(kput ks k).map fun j=>(j,ptr (fput q k n j)):=by
 unfold kput;by_cases h:k∈ks
 ·rw [if_pos h];induction ks with
  | nil=>simp at h
  | cons a l ih=>
   rw [List.nodup_cons] at hn;by_cases e:a=k
   ·subst e;simp only [List.map_cons,aput,if_pos,fput];congr 1;apply List.map_congr_left;intro j hj;rw [if_neg (by rintro rfl;exact hn.1 hj)]
   ·have hm:k∈l:=by rcases List.mem_cons.1 h with h | h;exact absurd h.symm e;exact h
    simp only [List.map_cons,aput,if_neg e,ih hn.2 hm,fput]
 ·rw [if_neg h,aput_none]
  ·rw [List.map_append];congr 1
   ·apply List.map_congr_left;intro j hj;unfold fput;rw [if_neg (by rintro rfl;exact h hj)]
   ·simp [fput]
  ·intro p hp;obtain ⟨j,hj,rfl⟩:=List.mem_map.1 hp;rintro rfl;exact h hj
theorem CMap.get {h:Heap} {F:Nat→Prop} {m:Nat} {L:List AP} {ks:List Int} {q:Int→Nat} (r:CMap h F m L ks q) (no:Int) :
  (aget (ks.map fun k=>(k,ptr (q k))) no).getD (.pointer none)=.pointer ((hit no L).map fun _=>⟨q no,0,none⟩):=by
 by_cases hm:no∈nos L
 ·obtain ⟨x,hx⟩:=hit_mem hm;rw [aget_map ((r.mem no).2 hm),hx];rfl
 ·rw [aget_not (fun k=>hm ((r.mem no).1 k)),hit_not hm];rfl
theorem CMap.drop {h:Heap} {F:Nat→Prop} {m:Nat} {L:List AP} {ks:List Int} {q:Int→Nat} (r:CMap h F m L ks q) {no:Int} {h':Heap} (p:V.Put (Value.int .i64) h m (adel (ks.map fun k=>(k,ptr (q k))) no) h') :
  CMap h' F m (rid no L) (ks.filter fun j=>decide (j≠no)) q:=by
 refine ⟨by have:=p.map;rwa [adel_map] at this,fun k=>?_,nd_rid r.nd,fun x hx=>(r.pg x (mem_rid.1 hx).1).chg p.chg ?_ (fun _ f=>f),fun x hx y hy=>r.inj x (mem_rid.1 hx).1 y (mem_rid.1 hy).1,r.own⟩
 ·rw [nos_rid,List.mem_filter,List.mem_filter,r.mem]
 ·rintro b rfl _ t;obtain ⟨es,cl,hb,_⟩:=r.map;rcases t with ⟨cs,fz,h1⟩ | ⟨cs,fz,h1⟩<;>(rw [hb] at h1;injection h1 with h1;cases h1)
theorem CMap.put {h:Heap} {F:Nat→Prop} {m:Nat} {L:List AP} {ks:List Int} {q:Int→Nat} (r:CMap h F m L ks q) {x:AP} {n:Nat} {h':Heap} {F':Nat→Prop} (hn:PgAt h F' n x) (hnew:∀y∈L,q y.no≠n) (hFF:∀b,F b→F' b)
  (p:V.Put (Value.int .i64) h m (aput (ks.map fun k=>(k,ptr (q k))) x.no (ptr n)) h') :
  CMap h' F' m (x::rid x.no L) (kput ks x.no) (fput q x.no n):=by
 have hmp:∀b,b=m→F' b→isT h b 341∨isT h b 5→False:=by
  rintro b rfl _ t;obtain ⟨es,cl,hb,_⟩:=r.map;rcases t with ⟨cs,fz,h1⟩ | ⟨cs,fz,h1⟩<;>(rw [hb] at h1;injection h1 with h1;cases h1)
 refine ⟨by have:=p.map;rwa [caput_map r.keys] at this,fun k=>?_,nd_touch r.nd,?_,?_,hFF _ r.own⟩
 ·rw [mem_kput,r.mem];have:nos (x::rid x.no L)=x.no::nos (rid x.no L):=rfl;rw [this,nos_rid,List.mem_cons,List.mem_filter];by_cases e:k=x.no<;>simp [e]
 ·intro y hy;rcases List.mem_cons.1 hy with rfl | hy
  ·simp only [fput,if_pos];exact hn.chg p.chg hmp (fun _ f=>f)
  ·obtain ⟨h1,h2⟩:=mem_rid.1 hy;simp only [fput,if_neg h2];exact ((r.pg y h1).chg (Chg.refl none_ h) (fun _ g _ _=>g) hFF).chg p.chg hmp (fun _ f=>f)
 ·intro y hy z hz e;unfold fput at e;rcases List.mem_cons.1 hy with rfl | hy<;>rcases List.mem_cons.1 hz with rfl | hz
  ·rfl
  ·obtain ⟨h1,h2⟩:=mem_rid.1 hz;rw [if_pos rfl,if_neg h2] at e;exact absurd e.symm (hnew z h1)
  ·obtain ⟨h1,h2⟩:=mem_rid.1 hy;rw [if_neg h2,if_pos rfl] at e;exact absurd e (hnew y h1)
  ·obtain ⟨h1,h2⟩:=mem_rid.1 hy;obtain ⟨h3,h4⟩:=mem_rid.1 hz;rw [if_neg h2,if_neg h4] at e;exact r.inj y h1 z h3 e
theorem Ordr.chg {h h':Heap} {G:Nat→Prop} {p:Nat} {rm mp:Value} {ov:SV} {xs:List Int} (r:Ordr h p rm mp ov xs) (c:Chg G h h') (hp:¬G p) (hb:∀b,blkC (sv ov) b→¬G b):Ordr h' p rm mp ov xs:=
 ⟨c.block r.hp hp,r.ord.chg c hb⟩
structure CIn (h:Heap) (F:Nat→Prop) (p m:Nat) (ov:SV) (room:Int) (L:List AP) (ks:List Int) (q:Int→Nat):Prop where
 mp:CMap h F m L ks q
 od:Ordr h p (.int .i64 room) (.map (some m)) ov (nos L).reverse
 fp:F p
 fo:∀b,blkC (sv ov) b→F b
 lt:∀b,F b→b<h.size
 len:L.length≤100000001
 sm:∀x∈L,x.b.length≤1000000
def CRep (h:Heap) (F:Nat→Prop) (p:Nat) (room:Int) (L:List AP):Prop:=∃m ov ks q,CIn h F p m ov room L ks q
structure Step (F:Nat→Prop) (h:Heap) (F':Nat→Prop) (h':Heap):Prop where
 chg:Chg F h h'
 place:∀b,F' b→F b∨h.size≤b
theorem CIn.hp {h:Heap} {F:Nat→Prop} {p m:Nat} {ov:SV} {room:Int} {L:List AP} {ks:List Int} {q:Int→Nat} (r:CIn h F p m ov room L ks q):h[p]? = some (.cells #[sv ov,.int .i64 room,.map (some m)] 249 (0,0)):=r.od.hp
theorem CIn.kind {h:Heap} {F:Nat→Prop} {p m:Nat} {ov:SV} {room:Int} {L:List AP} {ks:List Int} {q:Int→Nat} (r:CIn h F p m ov room L ks q):∀b,(b=p∨blkC (sv ov) b)→isT h b 249∨isT h b 3:=by
 rintro b (rfl | hb)
 ·exact .inl ⟨_,_,r.hp⟩
 ·exact .inr (r.od.ord.blk hb)
theorem CIn.ne_p {h:Heap} {F:Nat→Prop} {p m:Nat} {ov:SV} {room:Int} {L:List AP} {ks:List Int} {q:Int→Nat} (r:CIn h F p m ov room L ks q):p≠m:=fun e=>by
 obtain ⟨es,cl,hb,_⟩:=r.mp.map;have:=r.hp;rw [e,hb] at this;injection this with this;cases this
theorem CIn.ne_o {h:Heap} {F:Nat→Prop} {p m:Nat} {ov:SV} {room:Int} {L:List AP} {ks:List Int} {q:Int→Nat} (r:CIn h F p m ov room L ks q):∀b,blkC (sv ov) b→b≠m:=fun b hb e=>by
 subst e;obtain ⟨es,cl,h1,_⟩:=r.mp.map;obtain ⟨cs,fz,h2⟩:=r.od.ord.blk hb;rw [h1] at h2;injection h2 with h2;cases h2
theorem drop_in {h:Heap} {F:Nat→Prop} {p m:Nat} {ov:SV} {room:Int} {L:List AP} {ks:List Int} {q:Int→Nat} (r:CIn h F p m ov room L ks q) (no:Int) :
  HC Tryz.prog 290 #[ptr p,.int .i64 no] h (fun v h'=>∃ov',v=.tuple #[]∧CIn h' (wd F h.size h'.size) p m ov' room (rid no L) (ks.filter fun j=>decide (j≠no)) q∧Chg (fun b=>b=m∨b=p∨blkC (sv ov) b) h h'):=by
 refine HC.body Tryz.func290 rfl (by kernel_rfl) 14 rfl rfl ?_;refine HW.seq fun K1 hK1=>?_;refine HW.region ?_;refine HO.v (V.mvP rfl) rfl 4 rfl rfl ?_;refine HO.v (V.nilCheck rfl) rfl 5 rfl rfl ?_;refine HO.v (V.fieldAddr rfl T.fd249_2) rfl 6 rfl rfl ?_;refine HO.v (V.load rfl (load_one T.ag245 (v:=.map (some m)) (cell_of r.hp 2))) rfl 7 rfl rfl ?_;refine HO.v (V.mvI rfl) rfl 8 rfl rfl ?_;refine HO.a0 (V.delete (KV.int .i64) rfl rfl r.mp.map T.mp245 (inB_iff T.in3)) rfl rfl ?_;rintro _ h1 ⟨rfl,pu⟩;refine HO.nil ?_;refine hK1 _ _ ?_;refine HW.region ?_;refine HO.v (V.mvP rfl) rfl 9 rfl rfl ?_;refine HO.v (V.nilCheck rfl) rfl 10 rfl rfl ?_;refine HO.v (V.fieldAddr rfl T.fd249_0) rfl 11 rfl rfl ?_;refine HO.v (V.mvI rfl) rfl 12 rfl rfl ?_;have o1:Ordr h1 p (.int .i64 room) (.map (some m)) ov (nos L).reverse:=r.od.chg pu.chg r.ne_p r.ne_o;refine HO.c OpC.func rfl 13 rfl rfl (forget_any o1 (by have:=r.len;simp [nos];omega)) ?_;rintro _ h2 ⟨ov2,rfl,t⟩;refine HO.nil ?_;refine ⟨.tuple #[],Res.none rfl,ov2,rfl,⟨?_,?_,?_,?_,?_,?_,?_⟩,?_⟩
 ·have c1:=r.mp.drop pu;refine c1.chg t.chg (fun b g _=>?_) fun b f=>.inl f;rcases g with rfl | hb
  ·exact .inl ⟨_,_,o1.hp⟩
  ·exact .inr (o1.ord.blk hb)
 ·have:=t.ordr;rwa [order_drop r.mp.nd] at this
 ·exact .inl r.fp
 ·intro b hb;have h1:=t.ordr.ord.lt hb;rcases t.place b hb with hb | hb
  ·exact .inl (r.fo b hb)
  ·have:=pu.size;exact .inr ⟨by omega,h1⟩
 ·have h1:=t.chg.size;have h2:=pu.size;rintro b (hb | hb)
  ·have:=r.lt b hb;omega
  ·exact hb.2
 ·have:=rid_len no L;have:=r.len;omega
 ·exact fun x hx=>r.sm x (mem_rid.1 hx).1
 ·refine (pu.chg.mono fun b _ hb=>.inl hb).trans' t.chg fun b _ hb=>.inr hb
theorem CMap.bound {h:Heap} {F:Nat→Prop} {m:Nat} {L:List AP} {ks:List Int} {q:Int→Nat} (r:CMap h F m L ks q):CMap h (fun b=>F b∧b<h.size) m L ks q:=
 ⟨r.map,r.mem,r.nd,fun x hx=>by
  obtain ⟨⟨b,h1,h2,h3⟩,h4⟩:=r.pg x hx;exact ⟨⟨b,h1,h2,fun j hj=>⟨h3 j hj,h2.lt hj⟩⟩,h4,block_lt h1⟩,r.inj,r.own,r.map.lt⟩
theorem CMap.same {h:Heap} {F:Nat→Prop} {m:Nat} {L M:List AP} {ks:List Int} {q:Int→Nat} (r:CMap h F m L ks q) (hm:∀x,x∈M↔x∈L) (hn:(nos M).Nodup):CMap h F m M ks q:=
 ⟨r.map,fun k=>by
  rw [r.mem];unfold nos;simp only [List.mem_map,hm],hn,fun x hx=>r.pg x ((hm x).1 hx),fun x hx y hy=>r.inj x ((hm x).1 hx) y ((hm y).1 hy),r.own⟩
theorem nos_inj {L:List AP} (hn:(nos L).Nodup):∀ {x y:AP},x∈L→y∈L→x.no=y.no→x=y:=by
 induction L with
 | nil=>intro x y hx;simp at hx
 | cons a l ih=>
  have hn':(a.no::nos l).Nodup:=hn;rw [List.nodup_cons] at hn';intro x y hx0 hy0 e;rcases List.mem_cons.1 hx0 with rfl | hx<;>rcases List.mem_cons.1 hy0 with rfl | hy
  ·rfl
  ·exact absurd (List.mem_map.2 ⟨y,hy,e.symm⟩:x.no∈nos l) hn'.1
  ·exact absurd (List.mem_map.2 ⟨x,hx,e⟩:y.no∈nos l) hn'.1
  ·exact ih hn'.2 hx hy e
theorem touch_mem {L:List AP} (hn:(nos L).Nodup) {x:AP} (hx:x∈L):∀y,y∈x::rid x.no L↔y∈L:=fun y=>by
 rw [List.mem_cons,mem_rid];constructor
 ·rintro (rfl | h)
  ·exact hx
  ·exact h.1
 ·intro hy;by_cases e:y.no=x.no
  ·exact .inl (nos_inj hn hy hx e)
  ·exact .inr ⟨hy,e⟩
theorem CIn.mk' {h:Heap} {F:Nat→Prop} {p m:Nat} {ov:SV} {room:Int} {L:List AP} {ks:List Int} {q:Int→Nat} (mp:CMap h F m L ks q) (od:Ordr h p (.int .i64 room) (.map (some m)) ov (nos L).reverse) (fp:F p) (fo:∀b,blkC (sv ov) b→F b) (len:L.length≤100000001) (sm:∀x∈L,x.b.length≤1000000) :
  CIn h (fun b=>F b∧b<h.size) p m ov room L ks q:=
 ⟨mp.bound,od,⟨fp,od.lt⟩,fun b hb=>⟨fo b hb,od.ord.lt hb⟩,fun _ hb=>hb.2,len,sm⟩
theorem CIn.chg {h h':Heap} {F G:Nat→Prop} {p m:Nat} {ov:SV} {room:Int} {L:List AP} {ks:List Int} {q:Int→Nat} (r:CIn h F p m ov room L ks q) (c:Chg G h h') (hg:∀b,F b→¬G b):CIn h' F p m ov room L ks q:=
 ⟨r.mp.chg c (fun b g f=>absurd g (hg b f)) (fun _ f=>f),r.od.chg c (hg _ r.fp) (fun b hb=>hg _ (r.fo b hb)),r.fp,r.fo,fun b hb=>Nat.lt_of_lt_of_le (r.lt b hb) c.size,r.len,r.sm⟩
theorem CRep.chg {h h':Heap} {F G:Nat→Prop} {p:Nat} {room:Int} {L:List AP} (r:CRep h F p room L) (c:Chg G h h') (hg:∀b,F b→¬G b):CRep h' F p room L:=
 let ⟨m,ov,ks,q,r⟩:=r;⟨m,ov,ks,q,r.chg c hg⟩
theorem CRep.lt {h:Heap} {F:Nat→Prop} {p:Nat} {room:Int} {L:List AP} (r:CRep h F p room L):∀b,F b→b<h.size:=let ⟨_,_,_,_,r⟩:=r;r.lt
theorem CRep.nd {h:Heap} {F:Nat→Prop} {p:Nat} {room:Int} {L:List AP} (r:CRep h F p room L):(nos L).Nodup:=let ⟨_,_,_,_,r⟩:=r;r.mp.nd
def getL (no:Int) (L:List AP):List AP:=match hit no L with
 | some x=>x::rid no L
 | none=>L
def gotL (no:Int) (L:List AP):List UInt8:=((hit no L).map fun x=>x.b).getD []
def wasD (no:Int) (L:List AP):Bool:=((hit no L).map fun x=>x.d).getD false
def putL1 (no:Int) (b:List UInt8) (d:Bool) (L:List AP):List AP:=⟨no,b,d || wasD no L⟩::rid no L
def toldL (x:Option AP):List AFr:=match x with
 | some x=>if x.d then [⟨x.no,0,x.b⟩] else []
 | none=>[]
def putL (room no:Int) (b:List UInt8) (d:Bool) (L:List AP):List AP:=
 if no<1 then L else if ((putL1 no b d L).length:Int)≤room then putL1 no b d L else (putL1 no b d L).dropLast
def putA (room no:Int) (b:List UInt8) (d:Bool) (L:List AP):List AFr:=
 if no<1 then [] else if ((putL1 no b d L).length:Int)≤room then [] else toldL (putL1 no b d L).getLast?
theorem drop_last {L:List AP} {x:AP} (hn:(nos L).Nodup) (hx:L.getLast? = some x):rid x.no L=L.dropLast:=by
 obtain ⟨M,rfl⟩:=List.getLast?_eq_some_iff.1 hx;have h1:nos (M++[x])=nos M++[x.no]:=by simp [nos]
 rw [h1,List.nodup_append] at hn;unfold rid;rw [List.filter_append,List.dropLast_concat];have h2:List.filter (fun y=>decide (y.no≠x.no)) M=M:=by
  rw [List.filter_eq_self];intro y hy;simp only [decide_eq_true_eq];exact fun e=>hn.2.2 y.no (List.mem_map.2 ⟨y,hy,rfl⟩) x.no (by simp) e
 rw [h2];simp
theorem cnew_any {h:Heap} {room:Int} :
  HC Tryz.prog 133 #[.int .i64 room] h (fun v h'=>(¬(1≤room∧room≤1048576)∧v=.tuple #[.pointer none,.int .i64 1]∧h'=h)∨
   ((1≤room∧room≤1048576)∧∃p F,v=.tuple #[ptr p,.int .i64 0]∧CRep h' F p room []∧Ext h h'∧∀b,F b→h.size≤b)):=by
 refine HC.body Tryz.func133 rfl (by kernel_rfl) 14 rfl rfl ?_;refine HW.seq fun K1 hK1=>?_;refine HW.region ?_;refine HO.v (V.asP rfl) rfl 2 rfl rfl ?_;refine HO.v (V.asI rfl) rfl 3 rfl rfl ?_;refine HO.nil ?_;refine hK1 _ _ ?_;refine HW.seq fun K2 hK2=>?_;refine HW.seq fun K3 hK3=>?_;refine HW.region ?_;refine HO.v (V.mvI rfl) rfl 4 rfl rfl ?_;refine HO.v (V.lss rfl rfl rfl) rfl 5 rfl rfl ?_;refine HO.v (V.mvB rfl) rfl 6 rfl rfl ?_;refine HO.spl (fun hb2=>?_) (fun hb2=>?_)
 ·
  refine HO.no rfl 7 rfl rfl ?_;refine HO.no rfl 8 rfl rfl ?_;refine HO.v (V.pick_t rfl rfl) rfl 9 rfl rfl ?_;refine HO.nil ?_;refine hK3 _ _ ?_;refine HW.cond_t rfl ?_;refine HW.seq fun K4 hK4=>?_;refine HW.region ?_;refine HO.v (V.asP rfl) rfl 2 rfl rfl ?_;refine HO.v (V.asI rfl) rfl 3 rfl rfl ?_;refine HO.nil ?_;refine hK4 _ _ ?_;refine HW.ret ?_;refine ⟨.tuple #[.pointer none,.int .i64 1],Res.two rfl rfl rfl,.inl ⟨(by have:=of_decide_eq_true hb2;omega),rfl,rfl⟩⟩
 ·
  refine HO.v (V.mvI rfl) rfl 7 rfl rfl ?_;refine HO.v (V.gtr rfl rfl rfl) rfl 8 rfl rfl ?_;refine HO.v (V.pick_f rfl rfl) rfl 9 rfl rfl ?_;refine HO.nil ?_;refine hK3 _ _ ?_;refine HW.cond rfl (fun hc=>?_) (fun hc=>?_)
  ·
   refine HW.seq fun K5 hK5=>?_;refine HW.region ?_;refine HO.v (V.asP rfl) rfl 2 rfl rfl ?_;refine HO.v (V.asI rfl) rfl 3 rfl rfl ?_;refine HO.nil ?_;refine hK5 _ _ ?_;refine HW.ret ?_;refine ⟨.tuple #[.pointer none,.int .i64 1],Res.two rfl rfl rfl,.inl ⟨(by have:=of_decide_eq_true hc;omega),rfl,rfl⟩⟩
  refine HW.skip ?_;refine hK2 _ _ ?_;refine HW.seq fun K6 hK6=>?_;refine HW.region ?_;refine HO.v (V.mvI rfl) rfl 10 rfl rfl ?_;refine HO.e (V.makeMap) rfl 11 rfl rfl ?_;refine HO.v (V.build (cs:=#[.slice none 0 0,.int .i64 room,.map (some h.size)]) T.zr249 T.pl249 rfl) rfl 12 rfl rfl ?_;refine HO.e (V.boxA rfl) rfl 13 rfl rfl ?_;refine HO.v (V.asP rfl) rfl 2 rfl rfl ?_;refine HO.v (V.asI rfl) rfl 3 rfl rfl ?_;refine HO.nil ?_;refine hK6 _ _ ?_;refine HW.ret ?_;refine ⟨.tuple #[ptr (h.push (.map #[] 0)).size,.int .i64 0],Res.two rfl rfl rfl,.inr ⟨(by have:=of_decide_eq_false hc;have:=of_decide_eq_false hb2;omega),_,(fun b=>b=h.size∨b=(h.push (.map #[] 0)).size),rfl,⟨h.size,(none,0,0),[],fun _=>0,?_⟩,(Ext.push _ _).trans (Ext.push _ _),?_⟩⟩
  ·refine ⟨⟨MapT.new (push_other (push_same _ _)),fun k=>by simp [nos],by simp [nos],fun x hx=>by simp at hx,fun x hx=>by simp at hx,.inl rfl⟩,⟨push_same _ _,Cap.nil _ _ _⟩,.inr rfl,fun b hb=>?_,?_,by simp,fun x hx=>by simp at hx⟩
   ·obtain ⟨o,n,c,hv⟩:=hb;cases hv
   ·rintro b (rfl | rfl)<;>simp<;>omega
  ·rintro b (rfl | rfl)<;>simp
theorem get_any {h:Heap} {F:Nat→Prop} {p:Nat} {room:Int} {L:List AP} (r:CRep h F p room L) (no:Int) :
  HC Tryz.prog 287 #[ptr p,.int .i64 no] h (fun v h'=>∃(g:SV) (F':Nat→Prop),v=.tuple #[sv g,.bool (hit no L).isSome]∧CRep h' F' p room (getL no L)∧Step F h F' h'∧
   Cap h' 1 5 (sv g) ((gotL no L).map bv)∧∀b,blkC (sv g) b→h.size≤b∧¬F' b):=by
 obtain ⟨m,ov,ks,q,r⟩:=r;refine HC.body Tryz.func287 rfl (by kernel_rfl) 32 rfl rfl ?_;refine HW.seq fun K1 hK1=>?_;refine HW.region ?_;refine HO.v (V.asS rfl) rfl 4 rfl rfl ?_;refine HO.v (V.asB rfl) rfl 5 rfl rfl ?_;refine HO.nil ?_;refine hK1 _ _ ?_;refine HW.seq fun K2 hK2=>?_;refine HW.seq fun K3 hK3=>?_;refine HW.region ?_;refine HO.v (V.mvP rfl) rfl 6 rfl rfl ?_;refine HO.v (V.ptrEqNil rfl rfl T.pt194) rfl 7 rfl rfl ?_;refine HO.v (V.mvB rfl) rfl 8 rfl rfl ?_;refine HO.spl (fun hb2=>?_) (fun hb2=>?_)
 ·
  refine HO.no rfl 9 rfl rfl ?_;refine HO.no rfl 10 rfl rfl ?_;refine HO.no rfl 11 rfl rfl ?_;refine HO.no rfl 12 rfl rfl ?_;refine HO.no rfl 13 rfl rfl ?_;refine HO.no rfl 14 rfl rfl ?_;refine HO.no rfl 15 rfl rfl ?_;refine HO.v (V.pick_t rfl rfl) rfl 16 rfl rfl ?_;refine HO.nil ?_;refine hK3 _ _ ?_;refine HW.cond_t rfl ?_;refine HW.seq fun K4 hK4=>?_;refine HW.region ?_;refine HO.v (V.asS rfl) rfl 4 rfl rfl ?_;refine HO.v (V.asB rfl) rfl 5 rfl rfl ?_;refine HO.nil ?_;refine hK4 _ _ ?_;refine HW.ret ?_;refine ⟨.tuple #[.slice none 0 0,.bool false],Res.two rfl rfl rfl,(by simp at hb2)⟩
 ·
  refine HO.v (V.mvP rfl) rfl 9 rfl rfl ?_;refine HO.v (V.nilCheck rfl) rfl 10 rfl rfl ?_;refine HO.v (V.fieldAddr rfl T.fd249_2) rfl 11 rfl rfl ?_;refine HO.v (V.load rfl (load_one T.ag245 (v:=.map (some m)) (cell_of r.hp 2))) rfl 12 rfl rfl ?_;refine HO.v (V.mvI rfl) rfl 13 rfl rfl ?_;refine HO.v (V.lookupE (KV.int .i64) rfl rfl r.mp.map T.mp245 (inB_iff T.in3) T.zr339 (r.mp.get no)) rfl 14 rfl rfl ?_;refine HO.v (V.ptrEqNil rfl rfl T.pt339) rfl 15 rfl rfl ?_;refine HO.v (V.pick_f rfl rfl) rfl 16 rfl rfl ?_;refine HO.nil ?_;refine hK3 _ _ ?_;refine HW.cond rfl (fun hc=>?_) (fun hc=>?_)
  ·
   refine HW.seq fun K5 hK5=>?_;have hx:hit no L=none:=by simpa using hc
   refine HW.region ?_;refine HO.v (V.asS rfl) rfl 4 rfl rfl ?_;refine HO.v (V.asB rfl) rfl 5 rfl rfl ?_;refine HO.nil ?_;refine hK5 _ _ ?_;refine HW.ret ?_;refine ⟨.tuple #[.slice none 0 0,.bool false],Res.two rfl rfl rfl,(none,0,0),F,(by rw [hx];rfl),(by unfold getL;rw [hx];exact ⟨m,ov,ks,q,r⟩),⟨Chg.refl _ _,fun b hb=>.inl hb⟩,(by unfold gotL;rw [hx];exact Cap.nil _ _ _),(fun b hb=>by obtain ⟨o,n,c,hv⟩:=hb;cases hv)⟩
  refine HW.skip ?_;refine hK2 _ _ ?_;refine HW.seq fun K6 hK6=>?_;have hx:∃x,hit no L=some x:=by
   cases e:hit no L with
   | some x=>exact ⟨x,rfl⟩
   | none=>rw [e] at hc;simp at hc
  obtain ⟨x,hx⟩:=hx;refine HW.region ?_;refine HO.v (V.mvP rfl) rfl 17 rfl rfl ?_;refine HO.v (V.nilCheck rfl) rfl 18 rfl rfl ?_;refine HO.v (V.fieldAddr rfl T.fd249_0) rfl 19 rfl rfl ?_;refine HO.v (V.mvI rfl) rfl 20 rfl rfl ?_;refine HO.c OpC.func rfl 21 rfl rfl (touch_any r.od (by have:=r.len;simp [nos];omega)) ?_;rintro _ h1 ⟨ov1,rfl,t⟩;refine HO.nil ?_;refine hK6 _ _ ?_;refine HW.seq fun K7 hK7=>?_;obtain ⟨hxm,hxn⟩:=hit_some hx;have c1:CMap h1 (fun b=>F b∨h.size≤b) m L ks q:=r.mp.chg t.chg (fun b g _=>r.kind b g) fun b f=>.inl f;obtain ⟨⟨pb,hq,hb,hf⟩,ho⟩:=c1.pg x hxm;rw [hxn] at hq ho;refine HW.region ?_;refine HO.v (V.mvP rfl) rfl 22 rfl rfl ?_;refine HO.v (V.nilCheck rfl) rfl 23 rfl rfl ?_;refine HO.v (V.fieldAddr rfl T.fd249_2) rfl 24 rfl rfl ?_;refine HO.v (V.load rfl (load_one T.ag245 (v:=.map (some m)) (cell_of t.ordr.hp 2))) rfl 25 rfl rfl ?_;refine HO.v (V.mvI rfl) rfl 26 rfl rfl ?_;refine HO.v (V.lookupE (KV.int .i64) rfl rfl c1.map (v:=ptr (q no)) T.mp245 (inB_iff T.in3) T.zr339 ((c1.get no).trans (by rw [hx];rfl))) rfl 27 rfl rfl ?_;refine HO.v (V.nilCheck rfl) rfl 28 rfl rfl ?_;refine HO.v (V.fieldAddr rfl T.fd341_0) rfl 29 rfl rfl ?_;refine HO.v (V.load rfl (load_one T.ag44 (v:=sv pb) (cell_of hq 0))) rfl 30 rfl rfl ?_;refine HO.c OpC.func rfl 31 rfl rfl (cloneB_any hb.sl (by have:=r.sm x hxm;omega)) ?_;rintro _ h2 ow;obtain ⟨g,rfl⟩:=ow.cap.form;refine HO.v (V.asS rfl) rfl 4 rfl rfl ?_;refine HO.v (V.asB rfl) rfl 5 rfl rfl ?_;refine HO.nil ?_;refine hK7 _ _ ?_;refine HW.ret ?_;refine ⟨.tuple #[sv g,.bool true],Res.two rfl rfl rfl,g,(fun b=>(F b∨h.size≤b)∧b<h1.size),?_,⟨m,ov1,ks,q,?_⟩,⟨?_,?_⟩,?_,?_⟩
  ·rw [hx];rfl
  ·have e:getL no L=x::rid x.no L:=by unfold getL;rw [hx,hxn]
   rw [e];have hnd:=nd_touch (x:=x) r.mp.nd;have o1:Ordr h1 p (.int .i64 room) (.map (some m)) ov1 (nos (x::rid x.no L)).reverse:=by
    have:=t.ordr;rw [←hxn,order_touch r.mp.nd] at this;exact this
   have hmem:=touch_mem r.mp.nd hxm;have:=CIn.mk' (c1.same hmem hnd) o1 (.inl r.fp) (fun b hb=>(t.place b hb).imp (r.fo b) id) ?_ (fun y hy=>r.sm y ((hmem y).1 hy))
   ·exact this.chg ow.ext fun _ _ f=>f
   ·have h1:rid x.no L≠L:=fun e=>(mem_rid.1 (show x∈rid x.no L by rw [e];exact hxm)).2 rfl;have h2:=rid_len x.no L;have h3:(rid x.no L).length≠L.length:=fun e=>h1 ((List.filter_sublist (l:=L)).eq_of_length e);have:=r.len;simp only [List.length_cons];omega
  ·refine (t.chg.mono fun b _ hb=>?_).trans' ow.ext fun _ _ f=>f.elim;rcases hb with rfl | hb
   ·exact r.fp
   ·exact r.fo b hb
  ·exact fun b hb=>hb.1
  ·have e:gotL no L=x.b:=by unfold gotL;rw [hx];rfl
   rw [e];exact ow.cap
  ·intro b hb;have h1:=ow.fresh b hb;have h2:=t.chg.size;exact ⟨by omega,fun h=>by omega⟩
end Go.Proofs.YtndlpekckpdncaaGreat
