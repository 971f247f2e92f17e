/- A disk's power, what is there, a change that is done, what is made safe. Conditions: the disk is in order, its changes few. A disk's calls: Write, Truncate, Remove, Sync, Size, Dark, Changes, Cut, New. Conditions: the disk is in order, its changes few. A disk's calls: Read, Size, Dark, Changes, Cut, New, and the calls to no disk. Conditions: the disk is in order. tomeref10.SameInts, in and find answer as their plain lists say. Conditions: the slices are readable. tomeref10.SameFrames and front answer as their plain lists say. Conditions: the slices are readable. slices.Index, slices.Clone, bytes.Clone and slices.Delete over the types that the cache uses. Conditions: lengths below a bound. The order of a cache: forget and touch. Conditions: lengths below a bound. A cache in memory, and the method drop. Conditions: the cache is well laid. cache.New and the method Get. Conditions: the cache is well laid. The method Put of a cache. Conditions: the cache is well laid, lengths below a bound. slices.Reverse over ints and the method Pages of a cache. Conditions: the cache is well laid. The method Clean of a cache. Conditions: the cache is well laid, lengths below a bound. The method Drop of a cache, and what the methods answer for a nil cache. Conditions: the cache is well laid, lengths below a bound. -/
import Derived.Test.YtndlpekckpdncaaGreatPkK4
set_option maxRecDepth 100000
set_option maxHeartbeats 2000000
set_option linter.all false
namespace Go.Proofs.YtndlpekckpdncaaGreat
open Go Go.HL
def lfR (r:RD):Int:=if 0<r.left then r.left-1 else r.left
def powerR (r:RD):RD × Nat:=if r.left=0 then (⟨r.m,r.fs,true,r.left,r.chg⟩,13) else (⟨r.m,r.fs,r.dark,lfR r,r.chg+1⟩,0)
theorem powerR_0 {r:RD} (h:r.left=0):powerR r=(⟨r.m,r.fs,true,r.left,r.chg⟩,13):=by unfold powerR;rw [if_pos h]
theorem powerR_1 {r:RD} (h:¬r.left=0):powerR r=(⟨r.m,r.fs,r.dark,lfR r,r.chg+1⟩,0):=by unfold powerR;rw [if_neg h]
theorem powerR_abs (r:RD):(powerR r).1.abs=(powerN r.abs).1∧(powerR r).2=(powerN r.abs).2:=by
 by_cases h:r.left=0
 ·rw [powerR_0 h];unfold powerN;rw [if_pos (by exact h)];exact ⟨rfl,rfl⟩
 ·rw [powerR_1 h];unfold powerN;rw [if_neg (by exact h)];exact ⟨rfl,rfl⟩
theorem powerR_fs (r:RD):(powerR r).1.fs=r.fs:=by unfold powerR;split<;>rfl
theorem lfR_1 {r:RD} (h:0<r.left):lfR r=r.left-1:=by unfold lfR;rw [if_pos h]
theorem lfR_0 {r:RD} (h:¬0<r.left):lfR r=r.left:=by unfold lfR;rw [if_neg h]
theorem power_any {h:Heap} {d:Nat} {r:RD} (ok:Hp h (dskI d r).F [dskI d r] [] h) (hk:DkOk r.abs) (hcg:r.chg<1000000000) :
  HC Tryz.prog 228 #[.pointer (some ⟨d,0,none⟩)] h (fun v h'=>v=.int .i64 ((powerR r).2:Int)∧Hp h (dskI d r).F [dskI d (powerR r).1] [] h'):=by
 have hl:r.left≤9223372036854775807:=hk.left;have hc0:0≤r.chg:=hk.chg;have ok:=ok.dopn;refine HC.go Tryz.func228 30 ?_;refine .seq<|.r<|.z .asI<|.nil ?_;refine .seq<|.seq<|.r<|.z .mvP<|.z .nil<|.z (.fa T.fd137_2)<|.z (.ldx T.ag3 ok.m0)<|.z .eql<|.nil ?_;refine .cd (fun C0=>?_) (fun C0=>?_)
 ·
  refine .seq<|.r<|.z .mvP<|.z .nil<|.z (.fa T.fd137_1)<|.ur' (.stB T.sz4 ok) ?_;rintro η1 ⟨ok,cg⟩;refine .nil ?_;refine .seq<|.r<|.z .asI<|.nil ?_;refine .ret ⟨.int .i64 13,Res.one rfl rfl,(by rw [powerR_0 C0];exact ⟨rfl,Hp.dcls (r:=⟨r.m,r.fs,true,r.left,r.chg⟩) ok⟩)⟩
 refine .skip<|.seq<|.seq<|.r<|.z .mvP<|.z .nil<|.z (.fa T.fd137_2)<|.z (.ldx T.ag3 ok.m0)<|.z .gtr<|.nil ?_;refine .cd (fun C1=>?_) (fun C1=>?_)
 ·
  refine .r<|.z .mvP<|.z .nil<|.z (.fa T.fd137_2)<|.z (.ldx T.ag3 ok.m0)<|.z .sub<|.z .nil<|.z (.fa T.fd137_2)<|.ur' (.stI T.sz3 ok) ?_;rintro η2 ⟨ok,cg⟩;refine .nil ?_;refine .seq<|.r<|.z .mvP<|.z .nil<|.z (.fa T.fd137_3)<|.z (.ldx T.ag3 ok.m0)<|.z .add<|.z .nil<|.z (.fa T.fd137_3)<|.ur' (.stI T.sz3 ok) ?_;rintro η3 ⟨ok,cg⟩;refine .nil ?_;refine .seq<|.r<|.z .asI<|.nil ?_;refine .ret ⟨.int .i64 0,Res.one rfl rfl,(by rw [powerR_1 C0];refine ⟨rfl,Hp.dcls (r:=⟨r.m,r.fs,r.dark,lfR r,r.chg+1⟩) ?_⟩;show Hp _ _ (boxI d _ [_,_,.int .i64 (lfR r),_]::_) _ _;rw [lfR_1 C1];exact ok)⟩
 refine .skip<|.seq<|.r<|.z .mvP<|.z .nil<|.z (.fa T.fd137_3)<|.z (.ldx T.ag3 ok.m0)<|.z .add<|.z .nil<|.z (.fa T.fd137_3)<|.ur' (.stI T.sz3 ok) ?_;rintro η4 ⟨ok,cg⟩;refine .nil ?_;refine .seq<|.r<|.z .asI<|.nil ?_;refine .ret ⟨.int .i64 0,Res.one rfl rfl,(by rw [powerR_1 C0];refine ⟨rfl,Hp.dcls (r:=⟨r.m,r.fs,r.dark,lfR r,r.chg+1⟩) ?_⟩;show Hp _ _ (boxI d _ [_,_,.int .i64 (lfR r),_]::_) _ _;rw [lfR_0 C1];exact ok)⟩
theorem dsk_parts {h:Heap} {d:Nat} {r:RD} (hd:(dskI d r).p h):(dboxI d r).p h∧MapT kvB h r.m (ents r.fs)∧(r.fs.map (·.1)).Nodup∧∀n f,bget r.fs n=some f→(fboxI f).p h:=by
 have h1:=hd.1 _ List.mem_cons_self;have h2:MapT kvB h r.m (ents r.fs):=hd.1 _ (List.mem_cons_of_mem _ List.mem_cons_self);refine ⟨h1,h2,by have:=h2.nodup;rwa [ents_keys] at this,fun n f hg=>hd.1 _ (List.mem_cons_of_mem _ (List.mem_cons_of_mem _ (List.mem_flatMap.2 ⟨_,bget_mem hg,?_⟩)))⟩;simp [fileI]
def ptrN (f:Option RF):Option Addr:=f.map fun f=>⟨f.blk,0,none⟩
theorem ents_getD {fs:Fs} {n:List UInt8} : (aget (ents fs) n).getD (.pointer none)=.pointer (ptrN (bget fs n)):=by
 rw [ents_get];cases bget fs n<;>rfl
theorem there_no {r:RD} {n:List UInt8} (h:bget r.fs n=none):thereN r.abs n=false:=by simp [thereN,RD.abs,h]
theorem there_f {r:RD} {n:List UInt8} {f:RF} (h:bget r.fs n=some f):thereN r.abs n=f.here:=by simp [thereN,RD.abs,h,RF.abs]
theorem there_any {h:Heap} {d:Nat} {r:RD} {n:List UInt8} (hd:(dskI d r).p h) :
  HC Tryz.prog 175 #[.pointer (some ⟨d,0,none⟩),.string (BA n)] h (fun v h'=>((thereN r.abs n=false∧v=.pointer none)∨∃f,bget r.fs n=some f∧f.here=true∧v=.pointer (some ⟨f.blk,0,none⟩))∧h'=h):=by
 obtain ⟨hd1,hd2,hd3,hd4⟩:=dsk_parts hd;refine HC.go Tryz.func175 21 ?_;refine .seq<|.r<|.z .asP<|.nil ?_;refine .seq<|.seq<|.r<|.z .mvP<|.z .nil<|.z (.fa T.fd137_0)<|.z (.ldx T.ag135 hd1)<|.z .mvT<|.z (.lk KV.ba n (v:=.pointer (ptrN (bget r.fs n))) T.mp135 (stB_iff T.st9) T.zr153 hd2 (by exact ents_getD))<|.z .asP<|.nil ?_;refine .seq<|.r<|.z .mvP<|.z (.pNe T.pt153)<|.z .mvB<|.spl (fun G14=>?_) (fun G14=>?_)
 ·
  obtain ⟨f,hg⟩:∃f0,bget r.fs n=some f0:=by (cases hb:bget r.fs n with | none=>(rw [hb] at G14;simp [ptrN] at G14) | some x=>exact ⟨x,rfl⟩)
  rw [hg];simp only [ptrN,Option.map_some];have hfb:=hd4 n f hg;refine .z .mvP<|.z .nil<|.z (.fa T.fd156_2)<|.z (.ldx T.ag4 hfb)<|.z .pkt<|.nil ?_;refine .cond (fun C0=>?_) (fun C0=>?_)
  ·
   refine .seq<|.r<|.z .mvP<|.z .asP<|.nil ?_;refine .ret ⟨.pointer (some ⟨f.blk,0,none⟩),Res.one rfl rfl,⟨.inr ⟨f,(by first | exact hg | rfl),C0,rfl⟩,rfl⟩⟩
  refine .skip<|.seq<|.r<|.z .asP<|.nil ?_;refine .ret ⟨.pointer none,Res.one rfl rfl,⟨.inl ⟨by rw [there_f hg];exact C0,rfl⟩,rfl⟩⟩
 refine .y<|.y<|.y<|.y<|.z .pkf<|.nil ?_;refine .cf<|.skip<|.seq<|.r<|.z .asP<|.nil ?_;refine .ret ⟨.pointer none,Res.one rfl rfl,⟨.inl ⟨there_no (by cases hb:bget r.fs n with | none=>rfl | some x=>(rw [hb] at G14;simp [ptrN] at G14)),rfl⟩,rfl⟩⟩
theorem box_cell {h:Heap} {b o:Nat} {t:TypeId} {cs:List Value} {v:Value} (hb:(boxI b t cs).p h) (hv:cs[o]? = some v):cell h b o=some v:=by rw [cell_of hb];simpa using hv
def settleR (r:RD) (n:List UInt8) (f:RF):RD:=if f.here=true then ⟨r.m,bput r.fs n ⟨f.blk,f.na,f.nc,f.nl,f.na,f.nc,f.nl,true,true,none,0,[]⟩,r.dark,r.left,r.chg⟩ else ⟨r.m,bdel r.fs n,r.dark,r.left,r.chg⟩
theorem settleR_abs {r:RD} {n:List UInt8} {f:RF} : (settleR r n f).abs=⟨put1 r.abs.fs n (settleF f.abs),r.dark,r.left,r.chg⟩:=by
 unfold settleR settleF;by_cases h:f.here=true
 ·rw [if_pos h,if_pos (by exact h)];simp only [RD.abs];congr 1;funext m;rw [bget_put];by_cases hm:m=n
  ·simp [put1,hm,RF.abs]
  ·simp [put1,hm]
 ·rw [if_neg h,if_neg (by exact h)];simp only [RD.abs];congr 1;funext m;rw [bget_del];by_cases hm:m=n
  ·simp [put1,hm]
  ·simp [put1,hm]
theorem settle_end {h0 h:Heap} {D E:Nat→Prop} {M:List Itm} {d:Nat} {r:RD} {n:List UInt8} {f:RF} (hn:(r.fs.map (·.1)).Nodup) (hg:bget r.fs n=some f) (hh:f.here=true)
  (ok:Hp h0 D (boxI f.blk 156 [.slice f.na f.nl.length f.nc,.slice f.na f.nl.length f.nc,.bool f.here,.bool f.here,.slice none 0 0]::flsI (bdel r.fs n)::dboxI d r::mapI kvB r.m (ents r.fs)::M) [bysI E r.fs] h) :
  Hp h0 D (dskI d (settleR r n f)::M) [bysI E (settleR r n f).fs] h:=by
 have he:settleR r n f=⟨r.m,bput r.fs n ⟨f.blk,f.na,f.nc,f.nl,f.na,f.nc,f.nl,true,true,none,0,[]⟩,r.dark,r.left,r.chg⟩:=by unfold settleR;rw [if_pos hh]
 rw [he];have hb:=(Bys.get ok.r0 hg);rw [hh] at ok;have o1:=(ok.nilC (k:=3) (e:=158)).n1;have o2:=Hp.fcls (n:=n) (f:=⟨f.blk,f.na,f.nc,f.nl,f.na,f.nc,f.nl,true,true,none,0,[]⟩) hn o1;have o3:=Hp.dcls (r:=⟨r.m,bput r.fs n ⟨f.blk,f.na,f.nc,f.nl,f.na,f.nc,f.nl,true,true,none,0,[]⟩,r.dark,r.left,r.chg⟩) (d:=d) (M:=M) (by
  have o4:=o2.n2.n2;simp only;rw [ents_same hg (by rfl)];exact o4)
 exact (o3.d0 (bysI E (bput r.fs n ⟨f.blk,f.na,f.nc,f.nl,f.na,f.nc,f.nl,true,true,none,0,[]⟩)) (Bys.put ok.r0 ⟨hb.now,hb.now,fun c hc=>by cases hc⟩) (fun _ h=>h)).e1
theorem settle_end0 {h0 h:Heap} {D E:Nat→Prop} {M:List Itm} {d:Nat} {r:RD} {n:List UInt8} {f:RF} (hh:f.here=false)
  (ok:Hp h0 D (flsI (bdel r.fs n)::dboxI d r::mapI kvB r.m (adel (ents r.fs) n)::M) [bysI E r.fs] h) :
  Hp h0 D (dskI d (settleR r n f)::M) [bysI E (settleR r n f).fs] h:=by
 have he:settleR r n f=⟨r.m,bdel r.fs n,r.dark,r.left,r.chg⟩:=by unfold settleR;rw [if_neg (by rw [hh];decide)]
 rw [he];have o3:=Hp.dcls (r:=⟨r.m,bdel r.fs n,r.dark,r.left,r.chg⟩) (d:=d) (M:=M) (by
  have o4:=ok.n2.n2;simp only;rw [←ents_del];exact o4)
 exact (o3.d0 (bysI E (bdel r.fs n)) (Bys.del ok.r0) (fun _ h=>h)).e1
theorem settle_any {h:Heap} {d:Nat} {r:RD} {E:Nat→Prop} {n:List UInt8} {f:RF} (ok:Hp h (dskI d r).F [dskI d r] [bysI E r.fs] h) (hg:bget r.fs n=some f) :
  HC Tryz.prog 109 #[.pointer (some ⟨d,0,none⟩),.string (BA n),.pointer (some ⟨f.blk,0,none⟩)] h (fun v h'=>v=.tuple #[]∧Hp h (dskI d r).F [dskI d (settleR r n f)] [bysI E (settleR r n f).fs] h'):=by
 refine HC.go Tryz.func109 33 ?_;have hnd:(r.fs.map (·.1)).Nodup:=(dsk_parts ok.m0).2.2.1;have ok:=ok.dopn;have ok:=Hp.fopn hnd hg ok.n2;refine .seq<|.join (fun s hh=>Has s [(0,.pointer (some ⟨d,0,none⟩)),(1,.string (BA n)),(2,.pointer (some ⟨f.blk,0,none⟩))]∧Hp h (dskI d r).F [boxI f.blk 156 [.slice f.na f.nl.length f.nc,.slice f.na f.nl.length f.nc,.bool f.here,.bool f.here,.slice none 0 0],flsI (bdel r.fs n),boxI d 137 [.map (some r.m),.bool r.dark,.int .i64 r.left,.int .i64 r.chg],mapI kvB r.m (ents r.fs)] [bysI E r.fs] hh) ?_ ?_
 ·
  refine .a 13 (fun fl hh=>cond fl True (cell hh f.blk 0=some (.slice f.na f.nl.length f.nc)∧cell hh f.blk 2=some (.bool f.here))) mixed ?_;have hS:=(And.intro (box_cell (o:=0) (v:=.slice f.na f.nl.length f.nc) ok.m0 rfl) (box_cell (o:=2) (v:=.bool f.here) ok.m0 rfl));refine .g 0 false rfl 6 hS (fun _=>.mvP)<|.g 1 false rfl 7 hS (fun _=>.mvP)<|.g 2 false rfl 8 hS (fun _=>.mvP)<|.g 3 false rfl 9 hS (fun _=>.mvP)<|.g 4 false rfl 10 hS (fun _=>.nil)<|.g 5 false rfl 11 hS (fun _=>.fa T.fd156_0)<|.l 6 false rfl 12 hS (fun _ hS=>.ld T.ag44 hS.1)<|.g 7 false rfl 13 hS (fun _=>.mvP)<|.g 8 false rfl 14 hS (fun _=>.nil)<|.g 9 false rfl 15 hS (fun _=>.fa T.fd156_2)<|.l 10 false rfl 16 hS (fun _ hS=>.ld T.ag4 hS.2)<|.g 11 false rfl 17 hS (fun _=>.nil)<|.g 12 false rfl 18 hS (fun _=>.fa T.fd156_1)<|.o1 13<|.ur' true rfl (.stS T.sz44 ok) ?_;rintro η1 ⟨ok,cg⟩;refine ⟨trivial,?_⟩;refine .g 14 true rfl 19 trivial (fun _=>.nil)<|.g 15 true rfl 20 trivial (fun _=>.fa T.fd156_3)<|.o1 16<|.ur' true rfl (.stB T.sz4 ok) ?_;rintro η2 ⟨ok,cg⟩;refine ⟨trivial,?_⟩;refine .g 17 true rfl 21 trivial (fun _=>.nil)<|.g 18 true rfl 22 trivial (fun _=>.fa T.fd156_4)<|.o1 19<|.ur' true rfl (.stS T.sz154 ok) ?_;rintro η3 ⟨ok,cg⟩;refine ⟨trivial,?_⟩;refine .e ?_;refine .end<|⟨⟨rfl,rfl,rfl,trivial⟩,ok.n4.n4.n4.n3.k4⟩
 rintro s η4 ⟨hs,ok⟩;refine .frame hs fun τ=>?_;refine .seq<|.r<|.z .mvP<|.z .nil<|.z (.fa T.fd156_2)<|.z (.ldx T.ag4 ok.m0)<|.z .not<|.nil ?_;refine .cond (fun C0=>?_) (fun C0=>?_)
 ·
  refine .r<|.z .mvP<|.z .nil<|.z (.fa T.fd137_0)<|.z (.ldx T.ag135 ok.m2)<|.z .mvT<|.a0' (.del KV.ba n T.mp135 (stB_iff T.st9) ok.n3) ?_;rintro _ η5 ⟨rfl,ok⟩;refine .nil ?_;refine .end<|⟨.tuple #[],Res.none rfl,⟨rfl,settle_end0 (by simpa using C0) (ok.n3.n3.k3)⟩⟩
 refine .skip<|.end<|⟨.tuple #[],Res.none rfl,⟨rfl,settle_end hnd hg (by simpa using C0) (ok.n3.n3.n3.n3)⟩⟩
@[reducible] def byfI (E:Nat→Prop) (f:RF):Itm:=⟨fun h=>ByF h E f,E,fun _ _ _ c d b=>b.st c d⟩
def chgR (f:RF) (c:RC) (ya:Option Addr) (yc:Nat) (oa:Option Addr) (oc:Nat):RF:=⟨f.blk,ya,yc,(doneN c.abs f.nl f.here).1,f.sa,f.sc,f.sl,(doneN c.abs f.nl f.here).2,f.was,oa,oc,f.ol++[c]⟩
theorem chgR_abs {f:RF} {c:RC} {ya yc oa oc} : (chgR f c ya yc oa oc).abs=chgF f.abs c.abs:=by simp [chgR,RF.abs,chgF]
def newF (b:Nat):RF:=⟨b,none,0,[],none,0,[],false,false,none,0,[]⟩
def FileAt (r:RD) (n:List UInt8) (f:RF):Prop:=f.abs=((r.abs.fs n).getD noF)
theorem fileAt_some {r:RD} {n:List UInt8} {f:RF} (h:bget r.fs n=some f):FileAt r n f:=by simp [FileAt,RD.abs,h]
theorem fileAt_new {r:RD} {n:List UInt8} {b:Nat} (h:bget r.fs n=none):FileAt r n (newF b):=by simp [FileAt,RD.abs,h,newF,RF.abs,noF]
theorem ents_blk {fs:Fs} {n:List UInt8} {f g:RF} (h:f.blk=g.blk):ents (bput fs n f)=ents (bput fs n g):=by rw [←ents_put,←ents_put,ptrF,ptrF,h]
theorem do_end {h0 h:Heap} {D E:Nat→Prop} {M R:List Itm} {d:Nat} {r:RD} {n:List UInt8} {f:RF} {c:RC} {ya oa:Option Addr} {yc oc:Nat} (hl:¬r.left=0) (hn:(r.fs.map (·.1)).Nodup) (hf:FileAt r n f)
  (ok:Hp h0 D (boxI f.blk 156 [.slice ya (doneN c.abs f.nl f.here).1.length yc,.slice f.sa f.sl.length f.sc,.bool (doneN c.abs f.nl f.here).2,.bool f.was,.slice oa (f.ol++[c]).length oc]::capI 3 158 (oa,(f.ol++[c]).length,oc) ((f.ol++[c]).flatMap RC.cells)::flsI (bdel r.fs n)::boxI d 137 [.map (some r.m),.bool r.dark,.int .i64 (lfR r),.int .i64 (r.chg+1)]::mapI kvB r.m (ents (bput r.fs n f))::capI 1 5 (ya,(doneN c.abs f.nl f.here).1.length,yc) ((doneN c.abs f.nl f.here).1.map bv)::M)
   (byfI E f::bysI E r.fs::rdI E E (c.ba,c.bl.length,c.bc) c.bl::R) h) :
  ∃(r':RD) (E':Nat→Prop),r'.abs=(doN r.abs n c.abs).1∧Hp h0 D (dskI d r'::M) (bysI E' r'.fs::R) h∧∀j,E' j→E j∨blkC (sv (ya,(doneN c.abs f.nl f.here).1.length,yc)) j:=by
 refine ⟨⟨r.m,bput r.fs n (chgR f c ya yc oa oc),r.dark,lfR r,r.chg+1⟩,fun j=>E j∨blkC (sv (ya,(doneN c.abs f.nl f.here).1.length,yc)) j,?_,?_,fun _ h=>h⟩
 ·unfold doN;rw [if_neg (by exact hl)];simp only [RD.abs];congr 1
  ·funext m;rw [bget_put];by_cases hm:m=n
   ·subst hm;have:=hf;unfold FileAt at this;simp only [RD.abs] at this;rw [if_pos rfl,Option.map_some,chgR_abs,this];simp [put1]
   ·simp [put1,hm]
 ·have o1:=Hp.frzB (l:=(doneN c.abs f.nl f.here).1) (Hp.n5 ok) rfl;have o2:=Hp.fcls (n:=n) (f:=chgR f c ya yc oa oc) hn o1;have o3:=Hp.dcls (r:=⟨r.m,bput r.fs n (chgR f c ya yc oa oc),r.dark,lfR r,r.chg+1⟩) (d:=d) (M:=M) (by
   have o4:=o2.n2.n2;simp only;rw [ents_blk (f:=chgR f c ya yc oa oc) (g:=f) rfl];exact o4)
  have hby:Bys h (fun j=>E j∨blkC (sv (ya,(doneN c.abs f.nl f.here).1.length,yc)) j) (bput r.fs n (chgR f c ya yc oa oc)):=by
   refine Bys.put (Bys.mono (fun _ h=>.inl h) o3.r2) ⟨?_,?_,fun x hx=>?_⟩
   ·exact RdL.mono (fun _ h=>.inr h) (fun _ f=>f.elim) o3.r0
   ·exact RdL.mono (fun _ h=>.inl h) (fun _ h=>.inl h) o3.r1.safe
   ·rcases List.mem_append.1 hx with hx | hx
    ·exact RdL.mono (fun _ h=>.inl h) (fun _ h=>.inl h) (o3.r1.opn x hx)
    ·rw [List.mem_singleton.1 hx];exact RdL.mono (fun _ h=>.inl h) (fun _ h=>.inl h) o3.r3
  exact ((o3.or (r:=rdI (blkC (sv (ya,(doneN c.abs f.nl f.here).1.length,yc))) none_ (ya,(doneN c.abs f.nl f.here).1.length,yc) (doneN c.abs f.nl f.here).1) (r':=byfI E f) (by simp) (by simp) (bysI _ _) hby (fun j hj=>hj.elim .inr fun h=>.inl (.inl h))).sub (by
   intro i hi;simp only [List.mem_cons] at hi⊢;rcases hi with h | h
   ·exact .inl h
   ·exact .inr (.inr (.inr (.inr (.inr h))))))
theorem byfI_new {h:Heap} {E:Nat→Prop} {b:Nat} : ByF h E (newF b):=⟨RdL.nil _ _ _,RdL.nil _ _ _,fun _ h=>by cases h⟩
theorem do_any {h:Heap} {d:Nat} {r:RD} {E:Nat→Prop} {n:List UInt8} {kind pos:Nat} {ba:Option Addr} {bc:Nat} {bl:List UInt8} (ok:Hp h (dskI d r).F [dskI d r] [bysI E r.fs] h) (hk:DkOk r.abs) (hcg:r.chg<1000000000) (hb:RdL h E E (ba,bl.length,bc) bl) (hc:ChOk ⟨kind,pos,bl⟩) :
  HC Tryz.prog 227 #[.pointer (some ⟨d,0,none⟩),.string (BA n),.agg #[.int .i64 (kind:Int),.int .i64 (pos:Int),.slice ba bl.length bc]] h (fun v h'=>∃r' E',v=.int .i64 ((doN r.abs n ⟨kind,pos,bl⟩).2:Int)∧r'.abs=(doN r.abs n ⟨kind,pos,bl⟩).1∧DUp h h' d r r' E E'):=by
 have ok:=ok.d0 (rdI E E (ba,bl.length,bc) bl) hb (fun _ h=>h.elim id id);have hc0:0≤r.chg:=hk.chg;have hfit:pos+bl.length≤16777216:=hc.fit;refine HC.go Tryz.func227 59 ?_;refine .seq<|.r<|.a' 5 (.bxA (cs:=[.int .i64 (kind:Int),.int .i64 (pos:Int),.slice ba bl.length bc]) ok) ?_;rintro _ η1 ⟨pb1,rfl,ok,xe⟩;refine .z .asI<|.nil ?_;refine .seq<|.seq<|.r<|.z .mvP<|.c' 10 .func (power_any (ok.n1).loc0 hk hcg) ?_;rintro _ η2 ⟨rfl,q⟩;have ok:=(ok.n1).lift1 q;refine .z .asI<|.nil ?_;refine .seq<|.r<|.z .mvI<|.z .neq<|.nil ?_;refine .cd (fun C0=>?_) (fun C0=>?_)
 ·
  have hp0:r.left=0:=by by_cases h:r.left=0;exact h;exact absurd (by rw [powerR_1 h];rfl) C0
  refine .seq<|.r<|.z .mvI<|.z .asI<|.nil ?_;refine .ret ⟨.int .i64 ((powerR r).2:Int),Res.one rfl rfl,⟨(powerR r).1,E,by unfold doN powerN;rw [if_pos (by exact hp0),if_pos (by exact hp0),powerR_0 hp0],by unfold doN;rw [if_pos (by exact hp0),(powerR_abs r).1],⟨by rw [powerR_fs];exact ok.k1.tR,fun _ h=>.inl h⟩⟩⟩
 have hpl:¬r.left=0:=fun h=>by rw [powerR_0 h] at C0;exact C0 (by simp)
 have hnd:(r.fs.map (·.1)).Nodup:=by have:=(dsk_parts (ok).m0).2.2.1;rwa [powerR_fs] at this
 have ok:=ok;rw [powerR_1 hpl] at ok;have ok:=ok.dopn;refine .skip<|.seq<|.r<|.z .mvP<|.z .nil<|.z (.fa T.fd137_0)<|.z (.ldx T.ag135 ok.m0)<|.z .mvT<|.z (.lk KV.ba n (v:=.pointer (ptrN (bget r.fs n))) T.mp135 (stB_iff T.st9) T.zr153 ok.m1 (by exact ents_getD))<|.z .asP<|.nil ?_;refine .seq<|.seq<|.r<|.z .mvP<|.z (.pEq T.pt153)<|.nil ?_;refine .join (fun s hh=>∃(f:RF),Has s [(5,.pointer (some ⟨pb1,0,none⟩)),(8,.pointer (some ⟨f.blk,0,none⟩))]∧Hp h (dskI d r).F [boxI f.blk 156 [.slice f.na f.nl.length f.nc,.slice f.sa f.sl.length f.sc,.bool f.here,.bool f.was,.slice f.oa f.ol.length f.oc],capI 3 158 (f.oa,f.ol.length,f.oc) (f.ol.flatMap RC.cells),flsI (bdel r.fs n),boxI d 137 [.map (some r.m),.bool r.dark,.int .i64 (lfR r),.int .i64 (r.chg+1)],mapI kvB r.m (ents (bput r.fs n f)),boxI pb1 158 [.int .i64 (kind:Int),.int .i64 (pos:Int),.slice ba bl.length bc]] [byfI E f,rdI E E (ba,bl.length,bc) bl,bysI E r.fs] hh∧FileAt r n f) ?_ ?_
 ·
  refine .cond (fun C1=>?_) (fun C1=>?_)
  ·
   have hg:bget r.fs n=none:=by (cases hb:bget r.fs n with | none=>rfl | some x=>(rw [hb] at C1;simp [ptrN] at C1))
   refine .seq<|.r<|.z (.bd #[.slice none 0 0,.slice none 0 0,.bool false,.bool false,.slice none 0 0] T.zr156 T.pl156 rfl)<|.a' 23 (.bxA (cs:=[.slice none 0 0,.slice none 0 0,.bool false,.bool false,.slice none 0 0]) ok) ?_;rintro _ η3 ⟨pb2,rfl,ok,xe⟩;refine .z .asP<|.nil ?_;refine .r<|.z .mvP<|.z .nil<|.z (.fa T.fd137_0)<|.z (.ldx T.ag135 ok.m1)<|.z .mvT<|.z .mvP<|.ur' (.mpu KV.ba sbB n (v:=(ptrF (newF pb2))) T.mp135 (stB_iff T.st9) ok.n2) ?_;rintro η4 ok;refine .nil ?_;refine .end<|⟨(newF pb2),⟨rfl,rfl,trivial⟩,(by rw [show ents (bput r.fs n (newF pb2))=aput (ents r.fs) n (ptrF (newF pb2)) from ents_put.symm,bdel_none hg];exact (Hp.n1 (Hp.nilC (k:=3) (e:=158) (ok.n4.n1.n3.n4.n4))).d1 (byfI E (newF pb2)) byfI_new (fun _ h=>h)),fileAt_new hg⟩
  obtain ⟨f,hg⟩:∃f0,bget r.fs n=some f0:=by (cases hb:bget r.fs n with | none=>(rw [hb] at C1;simp [ptrN] at C1) | some x=>exact ⟨x,rfl⟩)
  rw [hg];simp only [ptrN,Option.map_some];have ok:=Hp.fopn hnd hg (ok.n2);have ok:=ok.d1 (byfI E f) (Bys.get ok.r1 hg) (fun _ h=>h);refine .skip<|.end<|⟨f,⟨rfl,rfl,trivial⟩,(by rw [show ents (bput r.fs n f)=ents r.fs from ents_same hg rfl];exact ok.n5.n5.n5.n5.n5.n5),fileAt_some hg⟩
 rintro s η5 ⟨f,hs,ok,hfa⟩;refine .frame hs fun τ=>?_;have hnl:f.nl.length≤16777216:=by have:=(hk.getD n).1.now;rw [←hfa] at this;exact this
 have hol:(f.ol.flatMap RC.cells).length=f.ol.length*3:=flat_len RC.cells_len _;have hoc:(f.ol.length:Int)≤r.chg:=by have h9:=(hk.getD n).2;rw [←hfa] at h9;simpa [RF.abs] using (show _≤r.chg from h9)
 refine .seq<|?_;have ok:=ok.d0 (rdI E E (f.na,f.nl.length,f.nc) f.nl) (ok.r0).now (fun _ h=>h.elim id id);refine .a 11 (fun fl hh=>cond fl True (Hp h (dskI d r).F [boxI f.blk 156 [.slice f.na f.nl.length f.nc,.slice f.sa f.sl.length f.sc,.bool f.here,.bool f.was,.slice f.oa f.ol.length f.oc],capI 3 158 (f.oa,f.ol.length,f.oc) (f.ol.flatMap RC.cells),flsI (bdel r.fs n),boxI d 137 [.map (some r.m),.bool r.dark,.int .i64 (lfR r),.int .i64 (r.chg+1)],mapI kvB r.m (ents (bput r.fs n f)),boxI pb1 158 [.int .i64 (kind:Int),.int .i64 (pos:Int),.slice ba bl.length bc]] [rdI E E (f.na,f.nl.length,f.nc) f.nl,byfI E f,rdI E E (ba,bl.length,bc) bl,bysI E r.fs] hh)) mixed ?_;have hS:=ok;refine .g 0 false rfl 31 hS (fun _=>.mvP)<|.g 1 false rfl 32 hS (fun _=>.mvP)<|.l 2 false rfl 33 hS (fun _ hS=>.ldb T.ag158 hS.m5 T.sz158)<|.g 3 false rfl 34 hS (fun _=>.mvP)<|.g 4 false rfl 35 hS (fun _=>.nil)<|.g 5 false rfl 36 hS (fun _=>.fa T.fd156_0)<|.l 6 false rfl 37 hS (fun _ hS=>.ldx T.ag44 hS.m0)<|.g 7 false rfl 38 hS (fun _=>.mvP)<|.g 8 false rfl 39 hS (fun _=>.nil)<|.g 9 false rfl 40 hS (fun _=>.fa T.fd156_2)<|.l 10 false rfl 41 hS (fun _ hS=>.ldx T.ag4 hS.m0)<|.o1 11<|.c' true rfl 42 .func (done_any (kind:=kind) (pos:=pos) (ba:=ba) (bc:=bc) (bl:=bl) (a:=f.na) (c:=f.nc) (l:=f.nl) (here:=f.here) ok.r2 ok.r0 (by omega) (by omega)) ?_;rintro _ η6 ⟨_,rfl,own⟩;obtain ⟨ya1,yc1,rfl⟩:=own.formB;have hyf:=fun j hj=>Nat.le_trans ok.chg.size (own.fresh j hj);have ok:=ok.own own;refine ⟨trivial,?_⟩;refine .g 12 true rfl 30 trivial (fun _=>.mvU)<|.g 13 true rfl 43 trivial (fun _=>.ex)<|.g 14 true rfl 44 trivial (fun _=>.ex)<|.g 15 true rfl 45 trivial (fun _=>.nil)<|.g 16 true rfl 46 trivial (fun _=>.fa T.fd156_0)<|.o1 17<|.ur' true rfl (.stS T.sz44 ok.n1) ?_;rintro η7 ⟨ok,cg⟩;refine ⟨trivial,?_⟩;refine .g 18 true rfl 47 trivial (fun _=>.nil)<|.g 19 true rfl 48 trivial (fun _=>.fa T.fd156_2)<|.o1 20<|.ur' true rfl (.stB T.sz4 ok) ?_;rintro η8 ⟨ok,cg⟩;refine ⟨trivial,?_⟩;refine .e ?_;refine .seq<|.a 10 (fun fl hh=>cond fl True (Hp h (dskI d r).F [boxI f.blk 156 [.slice ya1 ((doneN ⟨kind,pos,bl⟩ f.nl f.here).1.length) yc1,.slice f.sa f.sl.length f.sc,.bool ((doneN ⟨kind,pos,bl⟩ f.nl f.here).2),.bool f.was,.slice f.oa f.ol.length f.oc],capI 1 5 (ya1,(doneN ⟨kind,pos,bl⟩ f.nl f.here).1.length,yc1) ((doneN ⟨kind,pos,bl⟩ f.nl f.here).1.map bv),flsI (bdel r.fs n),boxI d 137 [.map (some r.m),.bool r.dark,.int .i64 (lfR r),.int .i64 (r.chg+1)],mapI kvB r.m (ents (bput r.fs n f)),boxI pb1 158 [.int .i64 (kind:Int),.int .i64 (pos:Int),.slice ba bl.length bc]] [rdI E E (f.na,f.nl.length,f.nc) f.nl,byfI E f,rdI E E (ba,bl.length,bc) bl,bysI E r.fs] hh)) mixed ?_;have hS:=ok.n6.n6.n6.n6.n5.n5.k6;refine .g 0 false rfl 49 hS (fun _=>.mvP)<|.g 1 false rfl 50 hS (fun _=>.mvP)<|.g 2 false rfl 51 hS (fun _=>.nil)<|.g 3 false rfl 52 hS (fun _=>.fa T.fd156_4)<|.l 4 false rfl 53 hS (fun _ hS=>.ldx T.ag154 hS.m0)<|.l 5 false rfl 54 hS (fun _ hS=>.ldb T.ag158 hS.m5 T.sz158)<|.o1 6<|.a' false rfl 55 (.lit [.tmp 54] (cs:=[.int .i64 (kind:Int),.int .i64 (pos:Int),.slice ba bl.length bc]) T.el154 T.sz158 T.zr158 ok ⟨rfl,trivial⟩) ?_;rintro _ η9 ⟨pb3,rfl,ok,xe⟩;refine ⟨ok.n7.n7.n7.n7.n6.n6.k6,?_⟩;have hS:=ok.n7.n7.n7.n7.n6.n6.k6;refine .o1 7<|.a' false rfl 56 (.app (news:=[.int .i64 (kind:Int),.int .i64 (pos:Int),.slice ba bl.length bc]) T.el154 T.sz158 T.by158 T.zr158 ok.n3 (ok.n3.m1).sl (oneL rfl) (by rw [hol];simp only [List.length_cons,List.length_nil];omega)) ?_;rintro _ η10 ⟨ya2,yn1,yc2,rfl,ok,ap⟩;refine ⟨ok.n7.n7.n7.n7.n7.n7.k6,?_⟩;have hS:=ok.n7.n7.n7.n7.n7.n7.k6;refine .g 8 false rfl 57 hS (fun _=>.nil)<|.g 9 false rfl 58 hS (fun _=>.fa T.fd156_4)<|.o1 10<|.ur' true rfl (.stS T.sz154 ok.n2) ?_;rintro η11 ⟨ok,cg⟩;refine ⟨trivial,?_⟩;refine .e ?_;refine .seq<|.r<|.z .asI<|.nil ?_;have ok:=(ok.n1).cx (ys:=(f.ol++[(⟨kind,pos,ba,bc,bl⟩:RC)]).flatMap RC.cells) (by simp [RC.cells]);obtain rfl:yn1=(f.ol++[(⟨kind,pos,ba,bc,bl⟩:RC)]).length:=(Sl.sz (Cap.sl ok.m0) RC.cells_len (by decide)).1.symm;refine .ret ⟨.int .i64 0,Res.one rfl rfl,(by obtain ⟨r2,E2,h1,h2,h3⟩:=do_end (n:=n) (f:=f) (c:=⟨kind,pos,ba,bc,bl⟩) hpl hnd hfa (ok.n3.n6.n6.n6.n4.n5.f2.f3.f3);exact ⟨r2,E2,by unfold doN;rw [if_neg (by exact hpl)];rfl,h1,h2.k1.up fun j hj=>(h3 j hj).imp id (fun h9=>hyf j h9)⟩)⟩
end Go.Proofs.YtndlpekckpdncaaGreat
namespace Go.HL
open Go Go.Proofs.YtndlpekckpdncaaGreat
theorem Hp.byX {h0 h:Heap} {D E F2:Nat→Prop} {M R:List Itm} {fs:Fs} {a:Option Addr} {c:Nat} {l:List UInt8} (ok:Hp h0 D M (rdI F2 none_ (a,l.length,c) l::bysI E fs::R) h):Hp h0 D M (bysI (fun j=>E j∨F2 j) fs::rdI (fun j=>E j∨F2 j) (fun j=>E j∨F2 j) (a,l.length,c) l::R) h:=by
 have o1:=ok.or (r:=rdI F2 none_ (a,l.length,c) l) (r':=bysI E fs) (by simp) (by simp) (rdI (fun j=>E j∨F2 j) (fun j=>E j∨F2 j) (a,l.length,c) l) (RdL.mono (fun _ h=>.inr h) (fun _ f=>f.elim) ok.r0) (fun j hj=>(hj.elim id id).elim .inr (fun h=>.inl (.inl h)));have o2:=o1.or (r:=rdI F2 none_ (a,l.length,c) l) (r':=bysI E fs) (by simp) (by simp) (bysI (fun j=>E j∨F2 j) fs) (Bys.mono (fun _ h=>.inl h) ok.r1) (fun j hj=>hj.elim .inr (fun h=>.inl (.inl h)));exact o2.sub (by
  intro i hi;simp only [List.mem_cons] at hi⊢;rcases hi with h | h | h
  ·exact .inl h
  ·exact .inr (.inl h)
  ·exact .inr (.inr (.inr (.inr h))))
end Go.HL
namespace Go.Proofs.YtndlpekckpdncaaGreat
open Go Go.HL
theorem write_w {d:Dk} {n:List UInt8} {z:Int} {l:List UInt8} (h:¬(wrongN d n [z]:Int)=0):writeN d n z l=(d,wrongN d n [z]):=by unfold writeN;rw [if_pos (by omega)]
theorem write_f {d:Dk} {n:List UInt8} {z:Int} {l:List UInt8} (h:wrongN d n [z]=0) (h2:16777216<z∨16777216-z<l.length):writeN d n z l=(d,5):=by unfold writeN;rw [if_neg (by omega),if_pos h2]
theorem write_d {d:Dk} {n:List UInt8} {p:Nat} {l:List UInt8} (h:wrongN d n [(p:Int)]=0) (h2:¬(16777216<(p:Int)∨16777216-(p:Int)<l.length)):writeN d n (p:Int) l=doN d n ⟨0,p,l⟩:=by unfold writeN;rw [if_neg (by omega),if_neg h2];rfl
theorem write_any {h:Heap} {d:Nat} {r:RD} {E:Nat→Prop} {n:List UInt8} {F2 E2:Nat→Prop} {z:Int} {a:Option Addr} {c:Nat} {l:List UInt8} (ok:Hp h (dskI d r).F [dskI d r] [bysI E r.fs,rdI F2 E2 (a,l.length,c) l] h) (hk:DkOk r.abs) (hcg:r.chg<1000000000) (hz : -9223372036854775808≤z∧z≤9223372036854775807) :
  HC Tryz.prog 207 #[.pointer (some ⟨d,0,none⟩),.string (BA n),.int .i64 z,.slice a l.length c] h (fun v h'=>∃r' E',v=.int .i64 ((writeN r.abs n z l).2:Int)∧r'.abs=(writeN r.abs n z l).1∧DUp h h' d r r' E E'):=by
 refine HC.go Tryz.func207 34 ?_;refine .seq<|.r<|.z .asI<|.nil ?_;refine .seq<|.seq<|.r<|.z .mvP<|.z .mvT<|.z .mvI<|.a' 13 (.lit [.tmp 12] (cs:=[.int .i64 z]) T.el24 T.sz3 T.zr3 ok ⟨rfl,trivial⟩) ?_;rintro _ η1 ⟨pb1,rfl,ok,xe⟩;refine .k 14 .func (wrong_any (d:=d) (r:=r) (n:=n) (dsk_parts (ok.m1)).1 (a:=some ⟨pb1,0,none⟩) (c:=1) (l:=[z]) (RdL.ofCapI ok.m0))<|.z .asI<|.nil ?_;refine .seq<|.r<|.z .mvI<|.z .neq<|.nil ?_;refine .cd (fun C0=>?_) (fun C0=>?_)
 ·
  refine .seq<|.r<|.z .mvI<|.z .asI<|.nil ?_;refine .ret ⟨.int .i64 (wrongN r.abs n [z]:Int),Res.one rfl rfl,⟨r,E,(by rw [write_w C0]<;>rfl),(by rw [write_w C0]<;>rfl),(ok.n1).k1.up fun _ h=>.inl h⟩⟩
 have hw0:wrongN r.abs n [z]=0:=by omega
 obtain ⟨p,rfl⟩:∃p:Nat,z=(p:Int):=⟨z.toNat,by have:=(wrongN_ok hw0).2.2.1 z (by simp);omega⟩;have ok:=(ok).tM;refine .skip<|.seq<|.seq<|.r<|.z .mvI<|.z .gtr<|.z .mvB<|.sd (fun G20=>?_) (fun G20=>?_)
 ·
  refine .y<|.y<|.y<|.y<|.y<|.z .pkt<|.nil ?_;refine .ct<|.seq<|.r<|.z .asI<|.nil ?_;refine .ret ⟨.int .i64 5,Res.one rfl rfl,⟨r,E,(by rw [write_f hw0 (by omega)]<;>rfl),(by rw [write_f hw0 (by omega)]<;>rfl),(ok).k1.up fun _ h=>.inl h⟩⟩
 refine .z .mvS<|.z (.len T.el44)<|.z .mvI<|.z .sub<|.z .gtr<|.z .pkf<|.nil ?_;refine .cd (fun C1=>?_) (fun C1=>?_)
 ·
  refine .seq<|.r<|.z .asI<|.nil ?_;refine .ret ⟨.int .i64 5,Res.one rfl rfl,⟨r,E,(by rw [write_f hw0 (by omega)]<;>rfl),(by rw [write_f hw0 (by omega)]<;>rfl),(ok).k1.up fun _ h=>.inl h⟩⟩
 refine .skip<|.seq<|.r<|.z .mvP<|.z .mvT<|.z .mvI<|.z .mvS<|?_;have hsy:=ok.chg.size;refine .c' 31 .func (bclone_any (a:=a) (c:=c) (l:=l) ok.r1 (by omega)) ?_;rintro _ η2 own;obtain ⟨ya1,yc1,rfl⟩:=own.formB;have ok:=ok.own own;have hyf:=own.fresh;have ok:=(ok.frzB rfl).f1.f1.byX;refine .z (.bd #[.int .i64 0,.int .i64 (p:Int),.slice ya1 ((l).length) yc1] T.zr158 T.pl158 rfl)<|.c' 33 .func (do_any (d:=d) (r:=r) (E:=fun j=>E j∨blkC (sv (ya1,(l).length,yc1)) j) (n:=n) (kind:=0) (pos:=p) (ba:=ya1) (bc:=yc1) (bl:=l) (ok).loc1 hk hcg ok.r1 ⟨by simp,by simp only;omega⟩) ?_;rintro _ η3 ⟨rdk1,Edk1,rfl,hadk1,updk1⟩;have hszdk1:=ok.chg.size;have ok:=(ok).dsk (d:=d) (r:=r) updk1;refine .z .asI<|.nil ?_;refine .ret ⟨.int .i64 ((doN r.abs n ⟨0,p,l⟩).2:Int),Res.one rfl rfl,⟨rdk1,Edk1,by rw [write_d hw0 (by omega)],by rw [write_d hw0 (by omega)];exact hadk1,(ok).k1.up fun j hj=>(updk1.new j hj).elim (fun h=>h.imp id fun h=>Nat.le_trans hsy (hyf j h)) fun h=>.inr (Nat.le_trans hszdk1 h)⟩⟩
theorem trunc_w {d:Dk} {n:List UInt8} {z:Int} (h:¬(wrongN d n [z]:Int)=0):truncN d n z=(d,wrongN d n [z]):=by unfold truncN;rw [if_pos (by omega)]
theorem trunc_n {d:Dk} {n:List UInt8} {z:Int} (h:wrongN d n [z]=0) (h1:thereN d n=false):truncN d n z=(d,4):=by unfold truncN;rw [if_neg (by omega),if_pos h1]
theorem trunc_f {d:Dk} {n:List UInt8} {z:Int} (h:wrongN d n [z]=0) (h1:thereN d n=true) (h2:16777216<z):truncN d n z=(d,5):=by unfold truncN;rw [if_neg (by omega),if_neg (by rw [h1];decide),if_pos h2]
theorem trunc_d {d:Dk} {n:List UInt8} {p:Nat} (h:wrongN d n [(p:Int)]=0) (h1:thereN d n=true) (h2:¬16777216<(p:Int)):truncN d n (p:Int)=doN d n ⟨1,p,[]⟩:=by unfold truncN;rw [if_neg (by omega),if_neg (by rw [h1];decide),if_neg h2];rfl
theorem rem_w {d:Dk} {n:List UInt8} (h:¬(wrongN d n []:Int)=0):removeN d n=(d,wrongN d n []):=by unfold removeN;rw [if_pos (by omega)]
theorem rem_n {d:Dk} {n:List UInt8} (h:wrongN d n []=0) (h1:thereN d n=false):removeN d n=(d,4):=by unfold removeN;rw [if_neg (by omega),if_pos h1]
theorem rem_d {d:Dk} {n:List UInt8} (h:wrongN d n []=0) (h1:thereN d n=true):removeN d n=doN d n ⟨2,0,[]⟩:=by unfold removeN;rw [if_neg (by omega),if_neg (by rw [h1];decide)]
theorem sync_w {d:Dk} {n:List UInt8} (h:¬(wrongN d n []:Int)=0):syncN d n=(d,wrongN d n []):=by unfold syncN;rw [if_pos (by omega)]
theorem sync_n {d:Dk} {n:List UInt8} (h:wrongN d n []=0) (h1:d.fs n=none):syncN d n=(d,4):=by unfold syncN;rw [if_neg (by omega),h1]
theorem sync_0 {d:Dk} {n:List UInt8} {f:Fl} (h:wrongN d n []=0) (h1:d.fs n=some f) (h2:f.here=false∧f.opn=[]):syncN d n=(d,4):=by unfold syncN;rw [if_neg (by omega),h1];simp only;rw [if_pos h2]
theorem sync_p {d:Dk} {n:List UInt8} {f:Fl} (h:wrongN d n []=0) (h1:d.fs n=some f) (h2:¬(f.here=false∧f.opn=[])) (h3:d.left=0):syncN d n=powerN d:=by unfold syncN;rw [if_neg (by omega),h1];simp only;rw [if_neg h2,if_pos h3]
theorem sync_d {d:Dk} {n:List UInt8} {f:Fl} (h:wrongN d n []=0) (h1:d.fs n=some f) (h2:¬(f.here=false∧f.opn=[])) (h3:¬d.left=0):syncN d n=(⟨put1 d.fs n (settleF f),d.dark,if 0<d.left then d.left-1 else d.left,d.chg+1⟩,0):=by unfold syncN;rw [if_neg (by omega),h1];simp only;rw [if_neg h2,if_neg h3]
theorem trunc_any {h:Heap} {d:Nat} {r:RD} {E:Nat→Prop} {n:List UInt8} {z:Int} (ok:Hp h (dskI d r).F [dskI d r] [bysI E r.fs] h) (hk:DkOk r.abs) (hcg:r.chg<1000000000) (hz : -9223372036854775808≤z∧z≤9223372036854775807) :
  HC Tryz.prog 208 #[.pointer (some ⟨d,0,none⟩),.string (BA n),.int .i64 z] h (fun v h'=>∃r' E',v=.int .i64 ((truncN r.abs n z).2:Int)∧r'.abs=(truncN r.abs n z).1∧DUp h h' d r r' E E'):=by
 refine HC.go Tryz.func208 29 ?_;refine .seq<|.r<|.z .asI<|.nil ?_;refine .seq<|.seq<|.r<|.z .mvP<|.z .mvT<|.z .mvI<|.a' 11 (.lit [.tmp 10] (cs:=[.int .i64 z]) T.el24 T.sz3 T.zr3 ok ⟨rfl,trivial⟩) ?_;rintro _ η1 ⟨pb1,rfl,ok,xe⟩;refine .k 12 .func (wrong_any (d:=d) (r:=r) (n:=n) (dsk_parts (ok.m1)).1 (a:=some ⟨pb1,0,none⟩) (c:=1) (l:=[z]) (RdL.ofCapI ok.m0))<|.z .asI<|.nil ?_;refine .seq<|.r<|.z .mvI<|.z .neq<|.nil ?_;refine .cd (fun C0=>?_) (fun C0=>?_)
 ·
  refine .seq<|.r<|.z .mvI<|.z .asI<|.nil ?_;refine .ret ⟨.int .i64 (wrongN r.abs n [z]:Int),Res.one rfl rfl,⟨r,E,(by rw [trunc_w C0]<;>rfl),(by rw [trunc_w C0]<;>rfl),(ok.n1).k1.up fun _ h=>.inl h⟩⟩
 have hw0:wrongN r.abs n [z]=0:=by omega
 obtain ⟨p,rfl⟩:∃p:Nat,z=(p:Int):=⟨z.toNat,by have:=(wrongN_ok hw0).2.2.1 z (by simp);omega⟩;have ok:=(ok).tM;refine .skip<|.seq<|.block fun K0 hK0=>.seq<|.r<|.z .mvP<|.z .mvT<|.c' 19 .func (there_any (d:=d) (r:=r) (n:=n) (ok.m0)) ?_;rintro _ _ ⟨(⟨hnotf1,rfl⟩ | ⟨tf1,hgtf1,hhtf1,rfl⟩),heq⟩
 ·
  obtain rfl:=heq.symm;refine .z (.pEqN T.pt153)<|.z .asB<|.nil ?_;refine .ct<|.seq<|.r<|.z .asI<|.nil ?_;refine .ret ⟨.int .i64 4,Res.one rfl rfl,⟨r,E,(by rw [trunc_n hw0 hnotf1]<;>rfl),(by rw [trunc_n hw0 hnotf1]<;>rfl),(ok).k1.up fun _ h=>.inl h⟩⟩
 obtain rfl:=heq.symm;refine .z (.pEqS T.pt153)<|.z .asB<|.nil ?_;refine .cf<|.seq<|.r<|.z .mvI<|.z .gtr<|.z .asB<|.nil ?_;refine .cd (fun C2=>?_) (fun C2=>?_)
 ·
  refine .seq<|.r<|.z .asI<|.nil ?_;refine .ret ⟨.int .i64 5,Res.one rfl rfl,⟨r,E,(by rw [trunc_f hw0 (by rw [there_f hgtf1];exact hhtf1) C2]<;>rfl),(by rw [trunc_f hw0 (by rw [there_f hgtf1];exact hhtf1) C2]<;>rfl),(ok).k1.up fun _ h=>.inl h⟩⟩
 refine .skip<|.end<|hK0 _ _<|.seq<|.r<|.z .mvP<|.z .mvT<|.z .mvI<|.z (.bd #[.int .i64 1,.int .i64 (p:Int),.slice none 0 0] T.zr158 T.pl158 rfl)<|.c' 28 .func (do_any (d:=d) (r:=r) (E:=E) (n:=n) (kind:=1) (pos:=p) (ba:=none) (bc:=0) (bl:=([]:List UInt8)) (ok).loc1 hk hcg (RdL.nil _ _ _) ⟨by simp,by simp only [List.length_nil];omega⟩) ?_;rintro _ η2 ⟨rdk1,Edk1,rfl,hadk1,updk1⟩;have hszdk1:=ok.chg.size;have ok:=(ok).dsk (d:=d) (r:=r) updk1;refine .z .asI<|.nil ?_;refine .ret ⟨.int .i64 ((doN r.abs n ⟨1,p,([]:List UInt8)⟩).2:Int),Res.one rfl rfl,⟨rdk1,Edk1,(by rw [trunc_d hw0 (by rw [there_f hgtf1];exact hhtf1) C2]<;>rfl),(by rw [trunc_d hw0 (by rw [there_f hgtf1];exact hhtf1) C2];exact hadk1),(ok).k1.up fun j hj=>(updk1.new j hj).elim .inl fun h=>.inr (Nat.le_trans hszdk1 h)⟩⟩
theorem remove_any {h:Heap} {d:Nat} {r:RD} {E:Nat→Prop} {n:List UInt8} (ok:Hp h (dskI d r).F [dskI d r] [bysI E r.fs] h) (hk:DkOk r.abs) (hcg:r.chg<1000000000) :
  HC Tryz.prog 210 #[.pointer (some ⟨d,0,none⟩),.string (BA n)] h (fun v h'=>∃r' E',v=.int .i64 ((removeN r.abs n).2:Int)∧r'.abs=(removeN r.abs n).1∧DUp h h' d r r' E E'):=by
 refine HC.go Tryz.func210 20 ?_;refine .seq<|.r<|.z .asI<|.nil ?_;refine .seq<|.seq<|.r<|.z .mvP<|.z .mvT<|.k 8 .func (wrong_any (d:=d) (r:=r) (n:=n) (dsk_parts (ok.m0)).1 (a:=none) (c:=0) (l:=([]:List Int)) (RdL.nil _ none_ none_))<|.z .asI<|.nil ?_;refine .seq<|.r<|.z .mvI<|.z .neq<|.nil ?_;refine .cd (fun C0=>?_) (fun C0=>?_)
 ·
  refine .seq<|.r<|.z .mvI<|.z .asI<|.nil ?_;refine .ret ⟨.int .i64 (wrongN r.abs n ([]:List Int):Int),Res.one rfl rfl,⟨r,E,(by rw [rem_w C0]<;>rfl),(by rw [rem_w C0]<;>rfl),(ok).k1.up fun _ h=>.inl h⟩⟩
 have hw0:wrongN r.abs n []=0:=by omega
 refine .skip<|.seq<|.seq<|.r<|.z .mvP<|.z .mvT<|.c' 14 .func (there_any (d:=d) (r:=r) (n:=n) (ok.m0)) ?_;rintro _ _ ⟨(⟨hnotf1,rfl⟩ | ⟨tf1,hgtf1,hhtf1,rfl⟩),heq⟩
 ·
  obtain rfl:=heq.symm;refine .z (.pEqN T.pt153)<|.nil ?_;refine .ct<|.seq<|.r<|.z .asI<|.nil ?_;refine .ret ⟨.int .i64 4,Res.one rfl rfl,⟨r,E,(by rw [rem_n hw0 hnotf1]<;>rfl),(by rw [rem_n hw0 hnotf1]<;>rfl),(ok).k1.up fun _ h=>.inl h⟩⟩
 obtain rfl:=heq.symm;refine .z (.pEqS T.pt153)<|.nil ?_;refine .cf<|.skip<|.seq<|.r<|.z .mvP<|.z .mvT<|.z (.bd #[.int .i64 2,.int .i64 0,.slice none 0 0] T.zr158 T.pl158 rfl)<|.c' 19 .func (do_any (d:=d) (r:=r) (E:=E) (n:=n) (kind:=2) (pos:=0) (ba:=none) (bc:=0) (bl:=([]:List UInt8)) (ok).loc1 hk hcg (RdL.nil _ _ _) ⟨by simp,by simp⟩) ?_;rintro _ η1 ⟨rdk1,Edk1,rfl,hadk1,updk1⟩;have hszdk1:=ok.chg.size;have ok:=(ok).dsk (d:=d) (r:=r) updk1;refine .z .asI<|.nil ?_;refine .ret ⟨.int .i64 ((doN r.abs n ⟨2,0,([]:List UInt8)⟩).2:Int),Res.one rfl rfl,⟨rdk1,Edk1,(by rw [rem_d hw0 (by rw [there_f hgtf1];exact hhtf1)]<;>rfl),(by rw [rem_d hw0 (by rw [there_f hgtf1];exact hhtf1)];exact hadk1),(ok).k1.up fun j hj=>(updk1.new j hj).elim .inl fun h=>.inr (Nat.le_trans hszdk1 h)⟩⟩
theorem sync_any {h:Heap} {d:Nat} {r:RD} {E:Nat→Prop} {n:List UInt8} (ok:Hp h (dskI d r).F [dskI d r] [bysI E r.fs] h) (hk:DkOk r.abs) (hcg:r.chg<1000000000) :
  HC Tryz.prog 209 #[.pointer (some ⟨d,0,none⟩),.string (BA n)] h (fun v h'=>∃r' E',v=.int .i64 ((syncN r.abs n).2:Int)∧r'.abs=(syncN r.abs n).1∧DUp h h' d r r' E E'):=by
 refine HC.go Tryz.func209 46 ?_;refine .seq<|.r<|.z .asI<|.nil ?_;refine .seq<|.seq<|.r<|.z .mvP<|.z .mvT<|.k 10 .func (wrong_any (d:=d) (r:=r) (n:=n) (dsk_parts (ok.m0)).1 (a:=none) (c:=0) (l:=([]:List Int)) (RdL.nil _ none_ none_))<|.z .asI<|.nil ?_;refine .seq<|.r<|.z .mvI<|.z .neq<|.nil ?_;refine .cd (fun C0=>?_) (fun C0=>?_)
 ·
  refine .seq<|.r<|.z .mvI<|.z .asI<|.nil ?_;refine .ret ⟨.int .i64 (wrongN r.abs n ([]:List Int):Int),Res.one rfl rfl,⟨r,E,(by rw [sync_w C0]<;>rfl),(by rw [sync_w C0]<;>rfl),(ok).k1.up fun _ h=>.inl h⟩⟩
 have hw0:wrongN r.abs n []=0:=by omega
 refine .skip<|.seq<|?_;obtain ⟨hd1,hd2,hd3,hd4⟩:=dsk_parts (ok.m0);refine .r<|.z .mvP<|.z .nil<|.z (.fa T.fd137_0)<|.z (.ldx T.ag135 hd1)<|.z .mvT<|.z (.lk KV.ba n (v:=.pointer (ptrN (bget r.fs n))) T.mp135 (stB_iff T.st9) T.zr153 hd2 (by exact ents_getD))<|.z .asP<|.nil ?_;refine .seq<|.seq<|.r<|.z .mvP<|.z (.pEq T.pt153)<|.z .mvB<|.spl (fun G22=>?_) (fun G22=>?_)
 ·
  refine .y<|.y<|.y<|.y<|.y<|.y<|.y<|.y<|.y<|.y<|.y<|.y<|.y<|.z .pkt<|.nil ?_;refine .ct<|.seq<|.r<|.z .asI<|.nil ?_;refine .ret ⟨.int .i64 4,Res.one rfl rfl,⟨r,E,(by rw [sync_n hw0 (by simp only [RD.abs];cases hb:bget r.fs n with | none=>rfl | some x=>(rw [hb] at G22;simp [ptrN] at G22))]<;>rfl),(by rw [sync_n hw0 (by simp only [RD.abs];cases hb:bget r.fs n with | none=>rfl | some x=>(rw [hb] at G22;simp [ptrN] at G22))]<;>rfl),(ok).k1.up fun _ h=>.inl h⟩⟩
 obtain ⟨f,hg⟩:∃f0,bget r.fs n=some f0:=by (cases hb:bget r.fs n with | none=>(rw [hb] at G22;simp [ptrN] at G22) | some x=>exact ⟨x,rfl⟩)
 rw [hg];simp only [ptrN,Option.map_some];have hfb:=hd4 n f hg;refine .z .mvP<|.z .nil<|.z (.fa T.fd156_2)<|.z (.ldx T.ag4 hfb)<|.z .not<|.z .mvB<|.spl (fun G28=>?_) (fun G28=>?_)
 ·
  refine .z .mvP<|.z .nil<|.z (.fa T.fd156_4)<|.z (.ldx T.ag154 hfb)<|.z (.len T.el154)<|.z .eql<|.z .pkt<|.z .pkf<|.nil ?_;refine .cd (fun C1=>?_) (fun C1=>?_)
  ·
   refine .seq<|.r<|.z .asI<|.nil ?_;refine .ret ⟨.int .i64 4,Res.one rfl rfl,⟨r,E,(by rw [sync_0 hw0 (show r.abs.fs n=some f.abs by simp [RD.abs,hg]) ⟨by show f.here=false;simpa using G28,by have h2:f.ol=[]:=List.eq_nil_of_length_eq_zero (by omega);simp [RF.abs,h2]⟩]<;>rfl),(by rw [sync_0 hw0 (show r.abs.fs n=some f.abs by simp [RD.abs,hg]) ⟨by show f.here=false;simpa using G28,by have h2:f.ol=[]:=List.eq_nil_of_length_eq_zero (by omega);simp [RF.abs,h2]⟩]<;>rfl),(ok).k1.up fun _ h=>.inl h⟩⟩
  have hne:¬(f.abs.here=false∧f.abs.opn=[]):=by rintro ⟨_,h1⟩;exact absurd (show f.ol=[] by simpa [RF.abs] using h1) (fun h2=>C1 (by rw [h2];rfl))
  refine .skip<|.seq<|.seq<|.r<|.z .mvP<|.c' 38 .func (power_any (ok).loc0 hk hcg) ?_;rintro _ η1 ⟨rfl,q⟩;have ok:=(ok).lift1 q;refine .z .asI<|.nil ?_;refine .seq<|.r<|.z .mvI<|.z .neq<|.nil ?_;refine .cd (fun C2=>?_) (fun C2=>?_)
  ·
   have hp0:r.left=0:=by by_cases h:r.left=0;exact h;exact absurd (by rw [powerR_1 h];rfl) C2
   refine .seq<|.r<|.z .mvI<|.z .asI<|.nil ?_;refine .ret ⟨.int .i64 ((powerR r).2:Int),Res.one rfl rfl,⟨(powerR r).1,E,(by rw [sync_p hw0 (show r.abs.fs n=some f.abs by simp [RD.abs,hg]) hne hp0,(powerR_abs r).2]),(by rw [sync_p hw0 (show r.abs.fs n=some f.abs by simp [RD.abs,hg]) hne hp0,(powerR_abs r).1]),(by rw [powerR_fs];exact ok.k1:Hp _ _ [dskI d (powerR r).1] [bysI E (powerR r).1.fs] _).up fun _ h=>.inl h⟩⟩
  have hpl:¬r.left=0:=fun h=>by rw [powerR_0 h] at C2;exact C2 (by simp)
  have ok:=ok;rw [powerR_1 hpl] at ok;refine .skip<|.seq<|.r<|.z .mvP<|.z .mvT<|.z .mvP<|.c' 45 .func (settle_any (d:=d) (r:=⟨r.m,r.fs,r.dark,lfR r,r.chg+1⟩) (E:=E) (f:=f) (ok).loc1 hg) ?_;rintro _ η2 ⟨rfl,q⟩;have ok:=(ok).dsk (d:=d) (r:=⟨r.m,r.fs,r.dark,lfR r,r.chg+1⟩) (r':=(settleR ⟨r.m,r.fs,r.dark,lfR r,r.chg+1⟩ n f)) (E':=E) ⟨q,fun _ h=>.inl h⟩;refine .nil ?_;refine .seq<|.r<|.z .asI<|.nil ?_;refine .ret ⟨.int .i64 0,Res.one rfl rfl,⟨settleR ⟨r.m,r.fs,r.dark,lfR r,r.chg+1⟩ n f,E,(by rw [sync_d hw0 (show r.abs.fs n=some f.abs by simp [RD.abs,hg]) hne (by exact hpl)];rfl),(by rw [sync_d hw0 (show r.abs.fs n=some f.abs by simp [RD.abs,hg]) hne (by exact hpl),settleR_abs];rfl),ok.k1.up fun _ h=>.inl h⟩⟩
 have hne:¬(f.abs.here=false∧f.abs.opn=[]):=by rintro ⟨h1,_⟩;have h2:f.here=false:=h1;rw [h2] at G28;cases G28
 refine .y<|.y<|.y<|.y<|.y<|.y<|.z .pkf<|.z .pkf<|.nil ?_;refine .cf<|.skip<|.seq<|.seq<|.r<|.z .mvP<|.c' 38 .func (power_any (ok).loc0 hk hcg) ?_;rintro _ η3 ⟨rfl,q⟩;have ok:=(ok).lift1 q;refine .z .asI<|.nil ?_;refine .seq<|.r<|.z .mvI<|.z .neq<|.nil ?_;refine .cd (fun C2=>?_) (fun C2=>?_)
 ·
  have hp0:r.left=0:=by by_cases h:r.left=0;exact h;exact absurd (by rw [powerR_1 h];rfl) C2
  refine .seq<|.r<|.z .mvI<|.z .asI<|.nil ?_;refine .ret ⟨.int .i64 ((powerR r).2:Int),Res.one rfl rfl,⟨(powerR r).1,E,(by rw [sync_p hw0 (show r.abs.fs n=some f.abs by simp [RD.abs,hg]) hne hp0,(powerR_abs r).2]),(by rw [sync_p hw0 (show r.abs.fs n=some f.abs by simp [RD.abs,hg]) hne hp0,(powerR_abs r).1]),(by rw [powerR_fs];exact ok.k1:Hp _ _ [dskI d (powerR r).1] [bysI E (powerR r).1.fs] _).up fun _ h=>.inl h⟩⟩
 have hpl:¬r.left=0:=fun h=>by rw [powerR_0 h] at C2;exact C2 (by simp)
 have ok:=ok;rw [powerR_1 hpl] at ok;refine .skip<|.seq<|.r<|.z .mvP<|.z .mvT<|.z .mvP<|.c' 45 .func (settle_any (d:=d) (r:=⟨r.m,r.fs,r.dark,lfR r,r.chg+1⟩) (E:=E) (f:=f) (ok).loc1 hg) ?_;rintro _ η4 ⟨rfl,q⟩;have ok:=(ok).dsk (d:=d) (r:=⟨r.m,r.fs,r.dark,lfR r,r.chg+1⟩) (r':=(settleR ⟨r.m,r.fs,r.dark,lfR r,r.chg+1⟩ n f)) (E':=E) ⟨q,fun _ h=>.inl h⟩;refine .nil ?_;refine .seq<|.r<|.z .asI<|.nil ?_;refine .ret ⟨.int .i64 0,Res.one rfl rfl,⟨settleR ⟨r.m,r.fs,r.dark,lfR r,r.chg+1⟩ n f,E,(by rw [sync_d hw0 (show r.abs.fs n=some f.abs by simp [RD.abs,hg]) hne (by exact hpl)];rfl),(by rw [sync_d hw0 (show r.abs.fs n=some f.abs by simp [RD.abs,hg]) hne (by exact hpl),settleR_abs];rfl),ok.k1.up fun _ h=>.inl h⟩⟩
theorem take_min {α:Type} (l:List α) (q:Nat):l.take (min q l.length)=l.take q:=by
 rw [List.take_eq_take_iff];omega
theorem size_0 {r:RD} {n:List UInt8} (h:r.dark=true∨thereN r.abs n=false):sizeN r.abs n=(0,false):=by unfold sizeN;rw [if_pos (by exact h)]
theorem size_1 {r:RD} {n:List UInt8} {f:RF} (h:¬r.dark=true) (hg:bget r.fs n=some f) (hh:f.here=true):sizeN r.abs n=(f.nl.length,true):=by
 unfold sizeN;rw [if_neg]
 ·simp [RD.abs,hg,RF.abs]
 ·rintro (h1 | h1)
  ·exact h h1
  ·rw [there_f hg,hh] at h1;cases h1
theorem read_w {d:Dk} {n:List UInt8} {y z:Int} (h:¬(wrongN d n [y,z]:Int)=0):readN d n y z=([],wrongN d n [y,z]):=by unfold readN;rw [if_pos (by omega)]
theorem read_n {r:RD} {n:List UInt8} {y z:Int} (h:wrongN r.abs n [y,z]=0) (h1:thereN r.abs n=false):readN r.abs n y z=([],4):=by
 unfold readN thereN at *;rw [if_neg (by omega)];cases hf:r.abs.fs n with
 | none=>rfl
 | some f=>rw [hf] at h1;simp only at h1⊢;rw [if_pos h1]
theorem read_f {r:RD} {n:List UInt8} {p q:Nat} {f:RF} (h:wrongN r.abs n [(p:Int),(q:Int)]=0) (hg:bget r.fs n=some f) (hh:f.here=true):readN r.abs n p q=((f.nl.drop p).take q,0):=by
 unfold readN;rw [if_neg (by omega)];simp only [RD.abs,hg,Option.map_some];rw [if_neg (by show ¬f.here=false;rw [hh];decide)];rfl
theorem flsNil {h0 h:Heap} {D:Nat→Prop} {M R:List Itm} (ok:Hp h0 D M R h):Hp h0 D (flsI []::M) R h:=Hp.star (l:=[]) ok
theorem size_anyD {h:Heap} {d:Nat} {r:RD} (hd:(dskI d r).p h) {n:List UInt8} :
  HC Tryz.prog 136 #[.pointer (some ⟨d,0,none⟩),.string (BA n)] h (fun v h'=>v=.tuple #[.int .i64 ((sizeN r.abs n).1:Int),.bool (sizeN r.abs n).2]∧h'=h):=by
 obtain ⟨hd1,hd2,hd3,hd4⟩:=dsk_parts hd;refine HC.go Tryz.func136 30 ?_;refine .seq<|.r<|.z .asI<|.z .asB<|.nil ?_;refine .seq<|.seq<|.r<|.z .mvP<|.z (.pEqS T.pt63)<|.z .mvB<|.z .mvP<|.z .nil<|.z (.fa T.fd137_1)<|.z (.ldx T.ag4 hd1)<|.z .pkf<|.z .mvB<|.spl (fun G14=>?_) (fun G14=>?_)
 ·
  refine .y<|.y<|.y<|.y<|.z .pkt<|.nil ?_;refine .ct<|.seq<|.r<|.z .asI<|.z .asB<|.nil ?_;refine .ret ⟨.tuple #[.int .i64 0,.bool false],Res.two rfl rfl rfl,⟨by first | rw [size_0 (.inl (by assumption))];rfl | rw [size_0 (.inr hnotf1)];rfl,rfl⟩⟩
 refine .z .mvP<|.z .mvT<|.c' 17 .func (there_any (d:=d) (r:=r) (n:=n) hd) ?_;rintro _ _ ⟨(⟨hnotf1,rfl⟩ | ⟨tf1,hgtf1,hhtf1,rfl⟩),heq⟩
 ·
  obtain rfl:=heq.symm;refine .z (.pEqN T.pt153)<|.z .pkf<|.nil ?_;refine .ct<|.seq<|.r<|.z .asI<|.z .asB<|.nil ?_;refine .ret ⟨.tuple #[.int .i64 0,.bool false],Res.two rfl rfl rfl,⟨by first | rw [size_0 (.inl (by assumption))];rfl | rw [size_0 (.inr hnotf1)];rfl,rfl⟩⟩
 obtain rfl:=heq.symm;refine .z (.pEqS T.pt153)<|.z .pkf<|.nil ?_;refine .cf<|.skip<|.seq<|?_;have hfb:=hd4 n tf1 hgtf1;refine .r<|.z .mvP<|.z .nil<|.z (.fa T.fd137_0)<|.z (.ldx T.ag135 hd1)<|.z .mvT<|.z (.lk KV.ba n (v:=.pointer (some ⟨tf1.blk,0,none⟩)) T.mp135 (stB_iff T.st9) T.zr153 hd2 (by rw [ents_get,hgtf1];rfl))<|.z .nil<|.z (.fa T.fd156_0)<|.z (.ldx T.ag44 hfb)<|.z (.len T.el44)<|.z .asI<|.z .asB<|.nil ?_;refine .ret ⟨.tuple #[.int .i64 (tf1.nl.length:Int),.bool true],Res.two rfl rfl rfl,⟨by rw [size_1 (by intro h9;simp [h9] at *) hgtf1 hhtf1],rfl⟩⟩
theorem read_anyD {h:Heap} {d:Nat} {r:RD} {E:Nat→Prop} {n:List UInt8} {y z:Int} (ok:Hp h none_ [] [dskI d r,bysI E r.fs] h) (hk:DkOk r.abs) (hy : -9223372036854775808≤y∧y≤9223372036854775807) (hz : -9223372036854775808≤z∧z≤9223372036854775807) :
  HC Tryz.prog 180 #[.pointer (some ⟨d,0,none⟩),.string (BA n),.int .i64 y,.int .i64 z] h (fun v h'=>∃w,v=.tuple #[w,.int .i64 ((readN r.abs n y z).2:Int)]∧Own h h' 1 5 w ((readN r.abs n y z).1.map bv)):=by
 refine HC.go Tryz.func180 53 ?_;refine .seq<|.r<|.z .asS<|.z .asI<|.nil ?_;refine .seq<|.seq<|.r<|.z .mvP<|.z .mvT<|.z .mvI<|.z .mvI<|.a' 16 (.lit [.tmp 14,.tmp 15] (cs:=[.int .i64 y,.int .i64 z]) T.el24 T.sz3 T.zr3 ok ⟨rfl,rfl,trivial⟩) ?_;rintro _ η1 ⟨pb1,rfl,ok,xe⟩;refine .k 17 .func (wrong_any (d:=d) (r:=r) (n:=n) (dsk_parts (ok.r0)).1 (a:=some ⟨pb1,0,none⟩) (c:=2) (l:=[y,z]) (RdL.ofCapI ok.m0))<|.z .asI<|.nil ?_;refine .seq<|.r<|.z .mvI<|.z .neq<|.nil ?_;refine .cd (fun C0=>?_) (fun C0=>?_)
 ·
  refine .seq<|.r<|.z .mvI<|.z .asS<|.z .asI<|.nil ?_;refine .ret ⟨.tuple #[.slice none 0 0,.int .i64 (wrongN r.abs n [y,z]:Int)],Res.two rfl rfl rfl,⟨_,(by rw [read_w C0]<;>rfl),by rw [read_w C0];exact (ok.nilC (k:=1) (e:=5)).toOwn⟩⟩
 have hw0:wrongN r.abs n [y,z]=0:=by omega
 obtain ⟨p,rfl⟩:∃p:Nat,y=(p:Int):=⟨y.toNat,by have:=(wrongN_ok hw0).2.2.1 y (by simp);omega⟩;obtain ⟨q,rfl⟩:∃q:Nat,z=(q:Int):=⟨z.toNat,by have:=(wrongN_ok hw0).2.2.1 z (by simp);omega⟩;have ok:=(ok).tM;refine .skip<|.seq<|.r<|.z .mvP<|.z .mvT<|.c' 23 .func (there_any (d:=d) (r:=r) (n:=n) (ok.r0)) ?_;rintro _ _ ⟨(⟨hnotf1,rfl⟩ | ⟨tf1,hgtf1,hhtf1,rfl⟩),heq⟩
 ·
  obtain rfl:=heq.symm;refine .z .asP<|.nil ?_;refine .seq<|.block fun K0 hK0=>.seq<|.r<|.z .mvP<|.z (.pEqN T.pt153)<|.z .asB<|.nil ?_;refine .ct<|.seq<|.r<|.z .asS<|.z .asI<|.nil ?_;refine .ret ⟨.tuple #[.slice none 0 0,.int .i64 4],Res.two rfl rfl rfl,⟨_,(by rw [read_n hw0 hnotf1]<;>rfl),by rw [read_n hw0 hnotf1];exact (ok.nilC (k:=1) (e:=5)).toOwn⟩⟩
 obtain rfl:=heq.symm;refine .z .asP<|.nil ?_;refine .seq<|.block fun K0 hK0=>.seq<|?_;obtain ⟨hd1,hd2,hd3,hd4⟩:=dsk_parts (ok.r0);have hfb:=hd4 n tf1 hgtf1;have hnl:tf1.nl.length≤16777216:=(hk.fs n tf1.abs (by simp [RD.abs,hgtf1])).1.now;have ok:=ok.d1 (rdI E E (tf1.na,tf1.nl.length,tf1.nc) tf1.nl) (Bys.get ok.r1 hgtf1).now (fun _ h=>h.elim id id);have hnc:tf1.nl.length≤tf1.nc:=ok.r0.c;refine .r<|.z .mvP<|.z (.pEqS T.pt153)<|.z .asB<|.nil ?_;refine .cf<|.seq<|.r<|.z .mvI<|.z .mvP<|.z .nil<|.z (.fa T.fd156_0)<|.z (.ldx T.ag44 hfb)<|.z (.len T.el44)<|.z .geq<|.z .asB<|.nil ?_;refine .cd (fun C2=>?_) (fun C2=>?_)
 ·
  refine .seq<|.r<|.z .asS<|.z .asI<|.nil ?_;refine .ret ⟨.tuple #[.slice none 0 0,.int .i64 0],Res.two rfl rfl rfl,⟨_,(by rw [show readN r.abs n p q=([],0) from by rw [read_f hw0 hgtf1 hhtf1,List.drop_eq_nil_of_le (by omega),List.take_nil]]<;>rfl),by rw [show readN r.abs n p q=([],0) from by rw [read_f hw0 hgtf1 hhtf1,List.drop_eq_nil_of_le (by omega),List.take_nil]];exact (ok.nilC (k:=1) (e:=5)).toOwn⟩⟩
 refine .skip<|.end<|hK0 _ _<|.seq<|.t 17 mixed ?_;simp only [List.take_succ_cons,List.take_zero,List.drop_succ_cons,List.drop_zero];refine .z .mvP<|.z .nil<|.z (.fa T.fd156_0)<|.z (.ldx T.ag44 hfb)<|.z .mvI<|.z .mvI<|.z .mvI<|.z .mvP<|.z .nil<|.z (.fa T.fd156_0)<|.z (.ldx T.ag44 hfb)<|.z (.len T.el44)<|.z .mvI<|.z .sub<|.z .min2<|.z .add<|?_;rw [show ((p:Int)+(min (q:Int) ((tf1.nl.length:Int)-(p:Int))))=(((p+min q (tf1.nl.length-p)):Nat):Int) from by omega];refine .z (.slh p (p+min q (tf1.nl.length-p)) T.el44 T.sz5)<|?_;generalize hc1:cutA tf1.na p tf1.nc 1=ca1;generalize hn1:(p+min q (tf1.nl.length-p))-p=cn1;obtain rfl:cn1=((tf1.nl.drop p).take q).length:=by rw [←hn1];rw [List.length_take,List.length_drop];omega
 have ok:=ok.d0 (rdI E E (ca1,((tf1.nl.drop p).take q).length,tf1.nc-p) ((tf1.nl.drop p).take q)) (by have h1:=ok.r0.cut (i:=p) (j:=(p+min q (tf1.nl.length-p))) (by omega) (by omega);rw [show ((tf1.nl).drop p).take ((p+min q (tf1.nl.length-p))-p)=(tf1.nl.drop p).take q from by rw [Nat.add_sub_cancel_left,←List.length_drop,take_min]] at h1;rw [←hc1,←hn1];exact h1) (fun _ h=>h);refine .nil ?_;refine .c' 52 .func (bclone_any (a:=ca1) (c:=tf1.nc-p) (l:=(tf1.nl.drop p).take q) ok.r0 (by simp;omega)) ?_;rintro _ η2 own;obtain ⟨ya1,yc1,rfl⟩:=own.formB;have ok:=ok.own own;refine .z .asS<|.z .asI<|.nil ?_;refine .ret ⟨.tuple #[.slice ya1 (((tf1.nl.drop p).take q).length) yc1,.int .i64 0],Res.two rfl rfl rfl,⟨_,(by rw [read_f hw0 hgtf1 hhtf1]<;>rfl),by rw [read_f hw0 hgtf1 hhtf1];exact (ok).toOwn⟩⟩
theorem dark_any {h:Heap} {d:Nat} {r:RD} (hd:(dboxI d r).p h) :
  HC Tryz.prog 135 #[.pointer (some ⟨d,0,none⟩)] h (fun v h'=>v=.bool r.dark∧h'=h):=by
 have hd1:=hd;refine HC.go Tryz.func135 11 ?_;refine .seq<|.r<|.z .asB<|.nil ?_;refine .seq<|.r<|.z .mvP<|.z (.pNeS T.pt63)<|.z .mvB<|.z .mvP<|.z .nil<|.z (.fa T.fd137_1)<|.z (.ldx T.ag4 hd1)<|.z .pkt<|.z .asB<|.nil ?_;refine .ret ⟨.bool r.dark,Res.one rfl rfl,⟨rfl,rfl⟩⟩
theorem changes_any {h:Heap} {d:Nat} {r:RD} (hd:(dboxI d r).p h) :
  HC Tryz.prog 268 #[.pointer (some ⟨d,0,none⟩)] h (fun v h'=>v=.int .i64 r.chg∧h'=h):=by
 have hd1:=hd;refine HC.go Tryz.func268 9 ?_;refine .seq<|.r<|.z .asI<|.nil ?_;refine .seq<|.seq<|.r<|.z .mvP<|.z (.pEqS T.pt63)<|.nil ?_;refine .cf<|.skip<|.seq<|.r<|.z .mvP<|.z .nil<|.z (.fa T.fd137_3)<|.z (.ldx T.ag3 hd1)<|.z .asI<|.nil ?_;refine .ret ⟨.int .i64 r.chg,Res.one rfl rfl,⟨rfl,rfl⟩⟩
theorem new_any {h:Heap} :
  HC Tryz.prog 35 #[] h (fun v h'=>∃d r,v=.pointer (some ⟨d,0,none⟩)∧r.abs=newN∧Hp h none_ [dskI d r] [bysI none_ r.fs] h'):=by
 have ok:=Hp.nil h none_;refine HC.go Tryz.func35 4 ?_;refine .seq<|.r<|.z .asP<|.nil ?_;refine .seq<|.r<|.a' 1 (.mkm kvB ok) ?_;rintro _ η1 ⟨mb1,rfl,ok⟩;refine .z (.bd #[.map (some mb1),.bool false,.int .i64 (-1),.int .i64 0] T.zr137 T.pl137 rfl)<|.a' 3 (.bxA (cs:=[.map (some mb1),.bool false,.int .i64 (-1),.int .i64 0]) ok) ?_;rintro _ η2 ⟨pb1,rfl,ok,xe⟩;refine .z .asP<|.nil ?_;refine .ret ⟨.pointer (some ⟨pb1,0,none⟩),Res.one rfl rfl,⟨pb1,⟨mb1,[],false,-1,0⟩,rfl,rfl,((Hp.dcls (r:=⟨mb1,[],false,-1,0⟩) (flsNil ok).n2.n2).dE (bysI none_ []) (fun _ h=>by cases h) (fun _ f=>f))⟩⟩
theorem iv_one (x:Int):∀u∈[iv x],u.oneCell'=true:=by
 intro u hu;simp at hu;subst hu;rfl
structure CFr where
 page:Int
 commit:Int
 b:SV
@[reducible] def fr (f:CFr):List Value:=[.int .i64 f.page,.int .i64 f.commit,sv f.b]
theorem fr_len (f:CFr):(fr f).length=3:=rfl
theorem fr_one (f:CFr):∀u∈fr f,u.oneCell'=true:=by
 intro u hu;simp [fr] at hu;rcases hu with rfl | rfl | rfl<;>rfl
structure AFr where
 page:Int
 commit:Int
 b:List UInt8
 deriving DecidableEq
structure FrIs (h:Heap) (f:CFr) (x:AFr):Prop where
 page:f.page=x.page
 commit:f.commit=x.commit
 b:Bytes h (sv f.b) x.b
def Frames (h:Heap) (v:Value) (L:List AFr):Prop:=∃l:List CFr,Sl h 3 v (l.flatMap fr)∧All2 (FrIs h) l L
theorem Frames.nil (h:Heap):Frames h (.slice none 0 0) []:=⟨[],Sl.nil h 3,All2.nil⟩
def ixOf (v:Int):List Int→Int
 | []=>-1
 | x::l=>if x=v then 0 else (if ixOf v l<0 then -1 else ixOf v l+1)
theorem ixOf_none {v:Int} : ∀ {l:List Int},v∉l→ixOf v l = -1
 | [],_=>rfl
 | x::l,h=>by
  simp only [List.mem_cons,not_or] at h;unfold ixOf;rw [if_neg (fun e=>h.1 e.symm),ixOf_none h.2];rfl
theorem ixOf_some {v:Int} : ∀ {l:List Int} {k:Nat} (hk:k<l.length),v∉l.take k→l[k]=v→ixOf v l=k
 | x::l,0,_,_,h=>by simp at h;simp [ixOf,h]
 | x::l,k+1,hk,ha,h=>by
  simp only [List.take_succ_cons,List.mem_cons,not_or] at ha;have:=ixOf_some (l:=l) (k:=k) (by simpa using hk) ha.2 (by simpa using h);unfold ixOf;rw [if_neg (fun e=>ha.1 e.symm),this,if_neg (by omega)];omega
theorem zc_int {n:Nat} : ∀u∈(Builtin.zeroCells (Value.cells (.int .i64 0)) n).toList,u=.int .i64 0:=by
 intro u hu;simp [Builtin.zeroCells,Value.cells] at hu;obtain ⟨i,_,hi⟩:=hu;rw [←hi];simp [Nat.mod_one]
theorem iv_ones (l:List Int):∀u∈l.map iv,u.oneCell'=true:=by
 intro u hu;obtain ⟨x,_,rfl⟩:=List.mem_map.1 hu;rfl
theorem bv_ones (l:List UInt8):∀u∈l.map bv,u.oneCell'=true:=by
 intro u hu;obtain ⟨x,_,rfl⟩:=List.mem_map.1 hu;rfl
theorem index_any {h:Heap} {a:Option Addr} {n c:Nat} {v:Int} {l:List Int} (hl:Sl h 1 (.slice a n c) (l.map iv)) :
  HC Tryz.prog 130 #[.slice a n c,.int .i64 v] h (fun r h'=>r=.int .i64 (ixOf v l)∧h'=h):=by
 have hra:=hl.cells;have hcm:=hl.bd;have hla:l.length=n:=by simpa using hra.len
 refine HC.body Tryz.func130 rfl (by kernel_rfl) 19 rfl rfl ?_;refine HW.seq fun K1 hK1=>?_;refine HW.region ?_;refine HO.v (V.asI rfl) rfl 4 rfl rfl ?_;refine HO.nil ?_;refine hK1 _ _ ?_;refine HW.seq fun K2 hK2=>?_;refine HW.seq fun K3 hK3=>?_;refine HW.region ?_;refine HO.v (V.mvS rfl) rfl 6 rfl rfl ?_;refine HO.v (V.len rfl T.el24) rfl 7 rfl rfl ?_;refine HO.v (V.mvI rfl) rfl 8 rfl rfl ?_;refine HO.nil ?_;refine hK3 _ _ ?_;refine HW.block ?_;refine HW.loopm (fun m s hh=>∃k:Nat,Has s [(0,.slice a n c),(1,.int .i64 v),(7,.int .i64 n),(8,.int .i64 k)]∧hh=h∧k≤n∧m=n-k∧v∉l.take k) ?_ ?_
 ·exact ⟨_,0,⟨rfl,rfl,rfl,rfl,trivial⟩,rfl,Nat.zero_le _,rfl,by simp⟩
 rintro m s hh ⟨k,hs,rfl,hk,rfl,hp⟩ J4 hJ4;refine HW.frame hs fun τ=>?_;refine HW.seq fun K5 hK5=>?_;refine HW.region ?_;refine HO.v (V.lss rfl rfl rfl) rfl 9 rfl rfl ?_;refine HO.nil ?_;refine hK5 _ _ ?_;refine HW.seq fun K6 hK6=>?_;refine HW.condr rfl (fun hc=>?_) (fun hc=>?_)
 ·
  have hkn:=of_decide_eq_false hc;refine HW.exit ?_;have hkn:=of_decide_eq_false hc;refine hK2 _ _ ?_;refine HW.seq fun K7 hK7=>?_;refine HW.region ?_;refine HO.v (V.asI rfl) rfl 4 rfl rfl ?_;refine HO.nil ?_;refine hK7 _ _ ?_;refine HW.ret ?_;refine ⟨.int .i64 (-1),Res.one rfl rfl,(by have h1:k=n:=(by omega);rw [h1,List.take_of_length_le (by omega)] at hp;rw [ixOf_none hp]),rfl⟩
 refine HW.skip ?_;refine hK6 _ _ ?_;refine HW.seq fun K8 hK8=>?_;have hkn:=of_decide_eq_true hc;have hkl:k<l.length:=by omega
 obtain ⟨b,o,rfl,hcell⟩:=hra.pos (by omega);refine HW.block ?_;refine HW.seq fun K9 hK9=>?_;refine HW.region ?_;refine HO.v (V.mvI rfl) rfl 10 rfl rfl ?_;refine HO.v (V.asI rfl) rfl 5 rfl rfl ?_;refine HO.nil ?_;refine hK9 _ _ ?_;refine HW.seq fun K10 hK10=>?_;refine HW.region ?_;refine HO.v (V.mvI rfl) rfl 11 rfl rfl ?_;refine HO.v (V.mvS rfl) rfl 12 rfl rfl ?_;refine HO.v (V.mvI rfl) rfl 13 rfl rfl ?_;refine HO.v (V.indexAddr1 rfl rfl T.el24 T.sz3 (by omega)) rfl 14 rfl rfl ?_;refine HO.v (V.load rfl (load_one T.ag3 (v:=iv l[k]) (hcell _ _ (map_at (by omega))))) rfl 15 rfl rfl ?_;refine HO.v (V.eql rfl rfl rfl) rfl 16 rfl rfl ?_;refine HO.nil ?_;refine hK10 _ _ ?_;refine HW.cond rfl (fun hc=>?_) (fun hc=>?_)
 ·
  refine HW.seq fun K11 hK11=>?_;refine HW.region ?_;refine HO.v (V.mvI rfl) rfl 17 rfl rfl ?_;refine HO.v (V.asI rfl) rfl 4 rfl rfl ?_;refine HO.nil ?_;refine hK11 _ _ ?_;refine HW.ret ?_;refine ⟨.int .i64 k,Res.one rfl rfl,(by rw [ixOf_some (k:=k) (by omega) hp (of_decide_eq_true hc).symm]),rfl⟩
 refine HW.skip ?_;refine hK8 _ _ ?_;refine HW.region ?_;refine HO.v (V.add rfl rfl (by omega)) rfl 18 rfl rfl ?_;refine HO.v (V.mvI rfl) rfl 8 rfl rfl ?_;refine HO.nil ?_;refine hJ4 _ _ _ ⟨k+1,⟨rfl,rfl,rfl,rfl,trivial⟩,rfl,by omega,rfl,(by rw [take_next (by omega)];have:=of_decide_eq_false hc;simp only [List.mem_append,List.mem_singleton,not_or];exact ⟨hp,this⟩)⟩ (by omega)
theorem cloneI_any {h:Heap} {a:Option Addr} {n c:Nat} {l:List Int} (hl:Sl h 1 (.slice a n c) (l.map iv)) (hN:l.length≤1000000000000) :
  HC Tryz.prog 289 #[.slice a n c] h (fun r h'=>Own h h' 1 3 r (l.map iv)):=by
 have hra:=hl.cells;have hla:l.length=n:=by simpa using hra.len
 have hown:Own h (h.push (.cells #[] 3 (0,0))) 1 3 (.slice (some ⟨h.size,0,none⟩) 0 0) []:=Own.new (cs:=#[]) (Ext.refl h) rfl (by omega);refine HC.body Tryz.func289 rfl (by kernel_rfl) 8 rfl rfl ?_;refine HW.seq fun K1 hK1=>?_;refine HW.region ?_;refine HO.v (V.asS rfl) rfl 2 rfl rfl ?_;refine HO.nil ?_;refine hK1 _ _ ?_;refine HW.seq fun K2 hK2=>?_;refine HW.seq fun K3 hK3=>?_;refine HW.region ?_;refine HO.v (V.mvS rfl) rfl 3 rfl rfl ?_;refine HO.v (V.slEqNil rfl rfl T.el24) rfl 4 rfl rfl ?_;refine HO.nil ?_;refine hK3 _ _ ?_;refine HW.cond rfl (fun hc=>?_) (fun hc=>?_)
 ·
  refine HW.seq fun K4 hK4=>?_;refine HW.region ?_;refine HO.v (V.asS rfl) rfl 2 rfl rfl ?_;refine HO.nil ?_;refine hK4 _ _ ?_;refine HW.ret ?_;refine ⟨.slice none 0 0,Res.one rfl rfl,(by cases a with | none=>(have:n=0:=(by cases Nat.eq_zero_or_pos n with | inl e=>exact e | inr e=>(obtain ⟨b,o,hb,_⟩:=hra.pos e;cases hb));have:l=[]:=List.eq_nil_of_length_eq_zero (by omega);subst this;exact Own.nil (Ext.refl h) _ _) | some _=>cases hc)⟩
 refine HW.skip ?_;refine hK2 _ _ ?_;refine HW.seq fun K5 hK5=>?_;refine HW.region ?_;refine HO.e (V.buildSlice [] (cs:=#[]) T.el24 T.sz3 T.zr3 rfl rfl rfl trivial rfl) rfl 5 rfl rfl ?_;refine HO.v (V.mvS rfl) rfl 6 rfl rfl ?_;refine HO.a (V.append rfl rfl T.el24 T.sz3 T.by3 T.zr3 rfl hown.cap (hl.ext (Ext.push _ _)) (iv_ones l) (by simp;omega)) rfl 7 rfl rfl ?_;rintro _ _ hap;obtain ⟨ov,rfl⟩:=hap.cap.form;refine HO.v (V.asS rfl) rfl 2 rfl rfl ?_;refine HO.nil ?_;refine hK5 _ _ ?_;refine HW.ret ?_;refine ⟨sv ov,Res.one rfl rfl,(by have:=hown.app hap;simpa using this)⟩
theorem cloneB_any {h:Heap} {a:Option Addr} {n c:Nat} {l:List UInt8} (hl:Sl h 1 (.slice a n c) (l.map bv)) (hN:l.length≤1000000000000) :
  HC Tryz.prog 84 #[.slice a n c] h (fun r h'=>Own h h' 1 5 r (l.map bv)):=by
 have hra:=hl.cells;have hla:l.length=n:=by simpa using hra.len
 have hown:Own h (h.push (.cells #[] 5 (0,0))) 1 5 (.slice (some ⟨h.size,0,none⟩) 0 0) []:=Own.new (cs:=#[]) (Ext.refl h) rfl (by omega);refine HC.body Tryz.func84 rfl (by kernel_rfl) 8 rfl rfl ?_;refine HW.seq fun K1 hK1=>?_;refine HW.region ?_;refine HO.v (V.asS rfl) rfl 2 rfl rfl ?_;refine HO.nil ?_;refine hK1 _ _ ?_;refine HW.seq fun K2 hK2=>?_;refine HW.seq fun K3 hK3=>?_;refine HW.region ?_;refine HO.v (V.mvS rfl) rfl 3 rfl rfl ?_;refine HO.v (V.slEqNil rfl rfl T.el44) rfl 4 rfl rfl ?_;refine HO.nil ?_;refine hK3 _ _ ?_;refine HW.cond rfl (fun hc=>?_) (fun hc=>?_)
 ·
  refine HW.seq fun K4 hK4=>?_;refine HW.region ?_;refine HO.v (V.asS rfl) rfl 2 rfl rfl ?_;refine HO.nil ?_;refine hK4 _ _ ?_;refine HW.ret ?_;refine ⟨.slice none 0 0,Res.one rfl rfl,(by cases a with | none=>(have:n=0:=(by cases Nat.eq_zero_or_pos n with | inl e=>exact e | inr e=>(obtain ⟨b,o,hb,_⟩:=hra.pos e;cases hb));have:l=[]:=List.eq_nil_of_length_eq_zero (by omega);subst this;exact Own.nil (Ext.refl h) _ _) | some _=>cases hc)⟩
 refine HW.skip ?_;refine hK2 _ _ ?_;refine HW.seq fun K5 hK5=>?_;refine HW.region ?_;refine HO.e (V.buildSlice [] (cs:=#[]) T.el44 T.sz5 T.zr5 rfl rfl rfl trivial rfl) rfl 5 rfl rfl ?_;refine HO.v (V.mvS rfl) rfl 6 rfl rfl ?_;refine HO.a (V.append rfl rfl T.el44 T.sz5 T.by5 T.zr5 rfl hown.cap (hl.ext (Ext.push _ _)) (bv_ones l) (by simp;omega)) rfl 7 rfl rfl ?_;rintro _ _ hap;obtain ⟨ov,rfl⟩:=hap.cap.form;refine HO.v (V.asS rfl) rfl 2 rfl rfl ?_;refine HO.nil ?_;refine hK5 _ _ ?_;refine HW.ret ?_;refine ⟨sv ov,Res.one rfl rfl,(by have:=hown.app hap;simpa using this)⟩
theorem delete_any {h:Heap} {a:Option Addr} {n c i j:Nat} {l:List Int} (hcap:Cap h 1 3 (.slice a n c) (l.map iv)) (hij:i≤j) (hj:j≤n) (hN:l.length≤1000000000000) :
  HC Tryz.prog 293 #[.slice a n c,.int .i64 i,.int .i64 j] h (fun r h'=>r=.slice a (n-(j-i)) c∧Cap h' 1 3 (.slice a (n-(j-i)) c) ((l.take i++l.drop j).map iv)∧Chg (blkC (.slice a n c)) h h'):=by
 have hsl:=hcap.sl;have hra:=hsl.cells;have hcm:=hsl.bd;have hla:l.length=n:=by simpa using hra.len
 have hnc:n≤c:=hcap.le;refine HC.body Tryz.func293 rfl (by kernel_rfl) 33 rfl rfl ?_;refine HW.seq fun K1 hK1=>?_;refine HW.region ?_;refine HO.v (V.asS rfl) rfl 6 rfl rfl ?_;refine HO.nil ?_;refine hK1 _ _ ?_;refine HW.seq fun K2 hK2=>?_;refine HW.region ?_;refine HO.v (V.mvS rfl) rfl 8 rfl rfl ?_;refine HO.v (V.mvI rfl) rfl 9 rfl rfl ?_;refine HO.v (V.mvI rfl) rfl 10 rfl rfl ?_;refine HO.v (V.mvS rfl) rfl 11 rfl rfl ?_;refine HO.v (V.len rfl T.el24) rfl 12 rfl rfl ?_;refine HO.v (V.slice_lhm rfl rfl rfl rfl T.el24 T.sz3 (by omega) (by omega) (by omega)) rfl 13 rfl rfl ?_;refine HO.nil ?_;refine hK2 _ _ ?_;refine HW.seq fun K3 hK3=>?_;refine HW.seq fun K4 hK4=>?_;refine HW.region ?_;refine HO.v (V.mvI rfl) rfl 14 rfl rfl ?_;refine HO.v (V.mvI rfl) rfl 15 rfl rfl ?_;refine HO.v (V.eql rfl rfl rfl) rfl 16 rfl rfl ?_;refine HO.nil ?_;refine hK4 _ _ ?_;refine HW.cond rfl (fun hc=>?_) (fun hc=>?_)
 ·
  refine HW.seq fun K5 hK5=>?_;refine HW.region ?_;refine HO.v (V.mvS rfl) rfl 17 rfl rfl ?_;refine HO.v (V.asS rfl) rfl 6 rfl rfl ?_;refine HO.nil ?_;refine hK5 _ _ ?_;refine HW.ret ?_;refine ⟨.slice a n c,Res.one rfl rfl,(by have:=of_decide_eq_true hc;have e:i=j:=(by omega);subst e;simp),(by have:=of_decide_eq_true hc;have e:i=j:=(by omega);subst e;simpa using hcap),Chg.refl _ _⟩
 refine HW.skip ?_;refine hK3 _ _ ?_;refine HW.seq fun K6 hK6=>?_;refine HW.region ?_;refine HO.v (V.mvS rfl) rfl 18 rfl rfl ?_;refine HO.v (V.len rfl T.el24) rfl 19 rfl rfl ?_;refine HO.v (V.asI rfl) rfl 7 rfl rfl ?_;refine HO.nil ?_;refine hK6 _ _ ?_;refine HW.seq fun K7 hK7=>?_;have hne:=of_decide_eq_false hc;obtain ⟨b,o,rfl,_⟩:=hra.pos (by omega);have hcut:=hsl.cut (l:=j) (q:=n-j) (by omega);have hij2:i<j:=by omega
 refine HW.tail 6 mixed (by kernel_rfl) ?_;simp only [List.take_succ_cons,List.take_zero,List.drop_succ_cons,List.drop_zero];refine HT.v (V.mvS rfl) rfl 20 rfl rfl ?_;refine HT.v (V.mvI rfl) rfl 21 rfl rfl ?_;refine HT.v (V.slice_h rfl rfl T.el24 T.sz3 (by omega)) rfl 22 rfl rfl ?_;refine HT.v (V.mvS rfl) rfl 23 rfl rfl ?_;refine HT.v (V.mvI rfl) rfl 24 rfl rfl ?_;refine HT.v (V.slice_l rfl rfl T.el24 T.sz3 (by omega)) rfl 25 rfl rfl ?_;refine HT.nil ?_;refine HO.a (V.append rfl rfl T.el24 T.sz3 T.by3 T.zr3 rfl (hcap.pre (by omega)) hcut (fun u hu=>iv_ones l u (List.mem_of_mem_drop (List.mem_of_mem_take hu))) (by simp;omega)) rfl 26 rfl rfl ?_;rintro _ _ hap;obtain rfl:=hap.inplace (some ⟨b,o,none⟩) i c (n-(j-i)) rfl (by simp;omega) (by omega);obtain ⟨zs,hsub⟩:=hap.cap.sub (l:=n-(j-i)) (q:=j-i) (by omega) (by omega);rw [cutA_some (by omega),show j-i=(j-i-1)+1 by omega] at hsub;refine HO.v (V.asS rfl) rfl 0 rfl rfl ?_;refine HO.nil ?_;refine hK7 _ _ ?_;refine HW.seq fun K8 hK8=>?_;refine HW.region ?_;refine HO.v (V.mvS rfl) rfl 27 rfl rfl ?_;refine HO.v (V.mvS rfl) rfl 28 rfl rfl ?_;refine HO.v (V.len rfl T.el24) rfl 29 rfl rfl ?_;refine HO.v (V.mvI rfl) rfl 30 rfl rfl ?_;refine HO.v (V.slice_lh rfl rfl rfl T.el24 T.sz3 (by omega) (by omega)) rfl 31 rfl rfl ?_;have hx31:Value.slice (cutA (some ⟨b,o,none⟩) (n-(j-i)) c 1) (n-(n-(j-i))) (c-(n-(j-i)))=.slice (some ⟨b,o+(n-(j-i-1+1))*1,none⟩) (j-i-1+1) (c-(n-(j-i-1+1))):=by rw [cutA_some (by omega)];congr<;>omega
 refine HO.a0 (V.clear hx31 T.el24 T.zr3 rfl (fun u hu=>by have:u=.int .i64 0:=zc_int u hu;subst this;rfl) hsub) rfl rfl ?_;rintro _ _ ⟨_,ys,hst⟩;refine HO.nil ?_;refine hK8 _ _ ?_;refine HW.seq fun K9 hK9=>?_;refine HW.region ?_;refine HO.v (V.mvS rfl) rfl 32 rfl rfl ?_;refine HO.v (V.asS rfl) rfl 6 rfl rfl ?_;refine HO.nil ?_;refine hK9 _ _ ?_;refine HW.ret ?_;refine ⟨.slice (some ⟨b,o,none⟩) (n-(j-i)) c,Res.one rfl rfl,rfl,?_,?_⟩
 ·have h1:=hap.cap.re hst.shape (fun b' o' j' v hb' hj' hv=>hst.kept b' (o'+j') v hv (fun o2 n2 c2 e2=>by
   injection hb' with e;injection e with e3 e4;injection e2 with e5 e6 e7;injection e5 with e5;injection e5 with e8 e9;left;omega))
  have e:(List.map iv l).take (i*1)++List.take ((n-j)*1) (List.drop (j*1) (List.map iv l))=(l.take i++l.drop j).map iv:=by
   rw [Nat.mul_one,Nat.mul_one,Nat.mul_one,List.map_append,←List.map_take,←List.map_drop];congr 1;exact List.take_of_length_le (by simp;omega)
  rw [e] at h1;exact h1
 ·refine (hap.chg.mono fun x _ hx=>?_).trans (hst.chg.mono fun x _ hx=>?_)
  ·obtain ⟨o2,n2,c2,e2⟩:=hx;injection e2 with e5;injection e5 with e5;injection e5 with e8;subst e8;exact ⟨_,_,_,rfl⟩
  ·obtain ⟨o2,n2,c2,e2⟩:=hx;injection e2 with e5;injection e5 with e5;injection e5 with e8;subst e8;exact ⟨_,_,_,rfl⟩
theorem index_is {h:Heap} {a:Option Addr} {n c:Nat} {v z:Int} {l:List Int} (hz:z=ixOf v l) (hl:Sl h 1 (.slice a n c) (l.map iv)) :
  HC Tryz.prog 130 #[.slice a n c,.int .i64 v] h (fun r h'=>r=.int .i64 z∧h'=h):=by
 subst hz;exact index_any hl
theorem ixOf_ge {v:Int} : ∀ {l:List Int},0≤ixOf v l→∃k:Nat,ixOf v l=(k:Int)∧k<l.length∧l.take k++l.drop (k+1)=l.erase v
 | [],h=>by simp [ixOf] at h
 | x::l,h=>by
  unfold ixOf at h⊢;by_cases hx:x=v
  ·subst hx;rw [if_pos rfl];exact ⟨0,rfl,by simp,by simp⟩
  ·rw [if_neg hx] at h⊢;by_cases hn:ixOf v l<0
   ·rw [if_pos hn] at h;omega
   ·rw [if_neg hn] at h⊢;obtain ⟨k,h1,h2,h3⟩:=ixOf_ge (v:=v) (l:=l) (by omega);refine ⟨k+1,by omega,by simpa using h2,?_⟩;rw [List.take_succ_cons,List.drop_succ_cons,List.cons_append,h3,List.erase_cons_tail (by simpa using hx)]
theorem ixOf_lt {v:Int} {l:List Int} (h:ixOf v l<0):v∉l:=by
 intro hm;obtain ⟨k,hk,hl⟩:=List.mem_iff_getElem.1 hm;have:∃k,∃(hk:k<l.length),l[k]=v∧v∉l.take k:=by
  obtain ⟨m,hm1,hm2⟩:=exists_least (p:=fun k=>∃(hk:k<l.length),l[k]=v) ⟨k,hk,hl⟩;obtain ⟨h1,h2⟩:=hm1;refine ⟨m,h1,h2,fun hx=>?_⟩;obtain ⟨j,hj,hj2⟩:=List.mem_iff_getElem.1 hx;simp at hj hj2;exact absurd (hm2 j ⟨by omega,hj2⟩) (by omega)
 obtain ⟨k,hk,h1,h2⟩:=this;rw [ixOf_some hk h2 h1] at h;omega
structure Ordr (h:Heap) (p:Nat) (rm mp:Value) (ov:SV) (xs:List Int):Prop where
 hp:h[p]? = some (.cells #[sv ov,rm,mp] 249 (0,0))
 ord:Cap h 1 3 (sv ov) (xs.map iv)
theorem Ordr.ne {h:Heap} {p:Nat} {rm mp:Value} {ov:SV} {xs:List Int} (r:Ordr h p rm mp ov xs):∀b,blkC (sv ov) b→b≠p:=fun b hb e=>by
 subst e;obtain ⟨cs,fz,h1⟩:=r.ord.blk hb;rw [r.hp] at h1;injection h1 with h1;injection h1 with _ h1;cases h1
theorem Ordr.lt {h:Heap} {p:Nat} {rm mp:Value} {ov:SV} {xs:List Int} (r:Ordr h p rm mp ov xs):p<h.size:=block_lt r.hp
structure Turned (h:Heap) (p:Nat) (rm mp:Value) (ov:SV) (ys:List Int) (h':Heap) (ov':SV):Prop where
 ordr:Ordr h' p rm mp ov' ys
 chg:Chg (fun b=>b=p∨blkC (sv ov) b) h h'
 place:∀b,blkC (sv ov') b→blkC (sv ov) b∨h.size≤b
theorem forget_any {h:Heap} {p:Nat} {rm mp:Value} {ov:SV} {xs:List Int} {no:Int} (r:Ordr h p rm mp ov xs) (hN:xs.length≤1000000000000) :
  HC Tryz.prog 292 #[.pointer (some ⟨p,0,none⟩),.int .i64 no] h (fun v h'=>∃ov',v=.tuple #[]∧Turned h p rm mp ov (xs.erase no) h' ov'):=by
 obtain ⟨a,n,c⟩:=ov;obtain ⟨z,hz⟩:∃z,z=ixOf no xs:=⟨_,rfl⟩;have hord:Cap h 1 3 (.slice a n c) (xs.map iv):=r.ord;have hla:xs.length=n:=by simpa using hord.sl.cells.len
 have hnc:n≤c:=hord.le;have hbd:c≤9223372036854775807:=hord.bd;refine HC.body Tryz.func292 rfl (by kernel_rfl) 24 rfl rfl ?_;refine HW.seq fun K1 hK1=>?_;refine HW.region ?_;refine HO.v (V.mvP rfl) rfl 5 rfl rfl ?_;refine HO.v (V.nilCheck rfl) rfl 6 rfl rfl ?_;refine HO.v (V.fieldAddr rfl T.fd247_0) rfl 7 rfl rfl ?_;refine HO.v (V.load rfl (load_one T.ag24 (v:=sv (a,n,c)) (cell_of r.hp 0))) rfl 8 rfl rfl ?_;refine HO.v (V.mvI rfl) rfl 9 rfl rfl ?_;refine HO.c OpC.func rfl 10 rfl rfl (index_is hz hord.sl) ?_;rintro _ _ ⟨rfl,rfl⟩;refine HO.v (V.asI rfl) rfl 4 rfl rfl ?_;refine HO.nil ?_;refine hK1 _ _ ?_;refine HW.seq fun K2 hK2=>?_;refine HW.region ?_;refine HO.v (V.mvI rfl) rfl 11 rfl rfl ?_;refine HO.v (V.geq rfl rfl rfl) rfl 12 rfl rfl ?_;refine HO.nil ?_;refine hK2 _ _ ?_;refine HW.condr rfl (fun hc=>?_) (fun hc=>?_)
 ·
  refine HW.skip ?_;refine ⟨.tuple #[],Res.none rfl,(a,n,c),rfl,⟨(by have h1:=of_decide_eq_false hc;rw [List.erase_of_not_mem (ixOf_lt (by omega))];exact r),Chg.refl _ _,fun b hb=>.inl hb⟩⟩
 have hge:=of_decide_eq_true hc;obtain ⟨k,hk1,hk2,hk3⟩:=ixOf_ge (v:=no) (l:=xs) (by omega);obtain rfl:z=(k:Int):=by omega
 refine HW.region ?_;refine HO.v (V.mvP rfl) rfl 13 rfl rfl ?_;refine HO.v (V.mvP rfl) rfl 14 rfl rfl ?_;refine HO.v (V.nilCheck rfl) rfl 15 rfl rfl ?_;refine HO.v (V.fieldAddr rfl T.fd247_0) rfl 16 rfl rfl ?_;refine HO.v (V.load rfl (load_one T.ag24 (v:=sv (a,n,c)) (cell_of r.hp 0))) rfl 17 rfl rfl ?_;refine HO.v (V.mvI rfl) rfl 18 rfl rfl ?_;refine HO.v (V.mvI rfl) rfl 19 rfl rfl ?_;refine HO.v (V.add rfl rfl (by omega)) rfl 20 rfl rfl ?_;refine HO.c OpC.func rfl 21 rfl rfl (delete_any (n:=n) (c:=c) (i:=k) (j:=k+1) hord (by omega) (by omega) hN) ?_;rintro _ h2 ⟨rfl,hcap,hchg⟩;refine HO.v (V.nilCheck rfl) rfl 22 rfl rfl ?_;refine HO.v (V.fieldAddr rfl T.fd247_0) rfl 23 rfl rfl ?_;have hb2:h2[p]? = some (.cells #[sv (a,n,c),rm,mp] 249 (0,0)):=hchg.block r.hp (fun hb=>r.ne _ hb rfl);refine HO.u (V.storeS (cs':=#[sv (a,n-(k+1-k),c),rm,mp]) rfl rfl T.sz24 hb2 (by simp) (by simp) rfl) rfl rfl ?_;refine HO.nil ?_;refine ⟨.tuple #[],Res.none rfl,(a,n-(k+1-k),c),rfl,⟨?_,?_,?_⟩⟩
 ·refine ⟨hput_same hb2,?_⟩;rw [←hk3];exact hcap.chg (hput_chg _ _ _) (fun b hb e=>r.ne b (by obtain ⟨o,n',c',hv⟩:=hb;injection hv with h1 h2 h3;subst h1;exact ⟨_,_,_,rfl⟩) e)
 ·exact (hchg.mono fun x _ hx=>.inr hx).trans ((hput_chg _ _ _).mono fun x _ hx=>.inl hx)
 ·intro b hb;left;obtain ⟨o,n',c',hv⟩:=hb;injection hv with h1 h2 h3;subst h1;exact ⟨_,_,_,rfl⟩
theorem touch_any {h:Heap} {p:Nat} {rm mp:Value} {ov:SV} {xs:List Int} {no:Int} (r:Ordr h p rm mp ov xs) (hN:xs.length≤1000000000) :
  HC Tryz.prog 291 #[.pointer (some ⟨p,0,none⟩),.int .i64 no] h (fun v h'=>∃ov',v=.tuple #[]∧Turned h p rm mp ov (xs.erase no++[no]) h' ov'):=by
 refine HC.body Tryz.func291 rfl (by kernel_rfl) 17 rfl rfl ?_;refine HW.seq fun K1 hK1=>?_;refine HW.region ?_;refine HO.v (V.mvP rfl) rfl 4 rfl rfl ?_;refine HO.v (V.mvI rfl) rfl 5 rfl rfl ?_;refine HO.c OpC.func rfl 6 rfl rfl (forget_any r (by omega)) ?_;rintro _ h1 ⟨ov1,rfl,t1⟩;refine HO.nil ?_;refine hK1 _ _ ?_;refine HW.region ?_;refine HO.v (V.mvP rfl) rfl 7 rfl rfl ?_;refine HO.v (V.mvP rfl) rfl 8 rfl rfl ?_;refine HO.v (V.nilCheck rfl) rfl 9 rfl rfl ?_;refine HO.v (V.fieldAddr rfl T.fd247_0) rfl 10 rfl rfl ?_;refine HO.v (V.load rfl (load_one T.ag24 (v:=sv ov1) (cell_of t1.ordr.hp 0))) rfl 11 rfl rfl ?_;refine HO.v (V.mvI rfl) rfl 12 rfl rfl ?_;refine HO.e (V.buildSlice [.tmp 12] (cs:=#[.int .i64 no]) T.el24 T.sz3 T.zr3 rfl rfl rfl ⟨rfl,trivial⟩ rfl) rfl 13 rfl rfl ?_;refine HO.a (V.append rfl rfl T.el24 T.sz3 T.by3 T.zr3 rfl (t1.ordr.ord.ext (Ext.push _ _)) (sl_new (n:=1) rfl (by omega)) (iv_one no) (by have:=List.length_erase_le (a:=no) (l:=xs);simp;omega)) rfl 14 rfl rfl ?_;rintro _ h2 hap;obtain ⟨ov2,rfl⟩:=hap.cap.form;have hb2:=hap.chg.block (push_other t1.ordr.hp) (fun hb=>t1.ordr.ne _ hb rfl);refine HO.v (V.nilCheck rfl) rfl 15 rfl rfl ?_;refine HO.v (V.fieldAddr rfl T.fd247_0) rfl 16 rfl rfl ?_;refine HO.u (V.storeS (cs':=#[sv ov2,rm,mp]) rfl rfl T.sz24 hb2 (by simp) (by simp) rfl) rfl rfl ?_;refine HO.nil ?_;refine ⟨.tuple #[],Res.none rfl,ov2,rfl,⟨?_,?_,?_⟩⟩
 ·refine ⟨hput_same hb2,?_⟩;have:=hap.cap.chg (hput_chg _ p #[sv ov2,rm,mp]) (fun b hb e=>by
   subst e;obtain ⟨cs,fz,h1⟩:=hap.cap.blk hb;rw [hb2] at h1;injection h1 with h1;injection h1 with _ h1;cases h1)
  simpa [iv] using this
 ·have c1:Chg (fun b=>b=p∨blkC (sv ov) b) h h2:=(t1.chg.trans (Ext.push h1 _).to).trans' hap.chg (fun b hb hk=>by
   rcases t1.place b hk with hk | hk
   ·exact .inr hk
   ·omega)
  exact c1.trans ((hput_chg _ _ _).mono fun x _ hx=>.inl hx)
 ·intro b hb;rcases hap.place b hb with hb | hb
  ·exact t1.place b hb
  ·right;have:=t1.chg.size;simp at hb;omega
structure AP where
 no:Int
 b:List UInt8
 d:Bool
 deriving DecidableEq
def nos (L:List AP):List Int:=L.map fun x=>x.no
def rid (no:Int) (L:List AP):List AP:=L.filter fun x=>decide (x.no≠no)
def hit (no:Int) (L:List AP):Option AP:=L.find? fun x=>decide (x.no=no)
theorem nos_rid (no:Int) (L:List AP):nos (rid no L)=(nos L).filter fun k=>decide (k≠no):=by
 unfold nos rid;rw [List.filter_map];rfl
theorem mem_rid {no:Int} {L:List AP} {x:AP} : x∈rid no L↔x∈L∧x.no≠no:=by simp [rid]
theorem rid_len (no:Int) (L:List AP):(rid no L).length≤L.length:=List.length_filter_le _ _
theorem hit_some {no:Int} {L:List AP} {x:AP} (h:hit no L=some x):x∈L∧x.no=no:=
 ⟨List.mem_of_find?_eq_some h,by have:=List.find?_some h;simpa using this⟩
theorem hit_none {no:Int} {L:List AP} (h:hit no L=none):∀x∈L,x.no≠no:=fun x hx=>by
 have:=List.find?_eq_none.1 h x hx;simpa using this
theorem hit_mem {no:Int} {L:List AP} (h:no∈nos L):∃x,hit no L=some x:=by
 cases e:hit no L with
 | some x=>exact ⟨x,rfl⟩
 | none=>
  obtain ⟨x,hx,hxn⟩:=List.mem_map.1 h;exact absurd hxn (hit_none e x hx)
theorem hit_not {no:Int} {L:List AP} (h:no∉nos L):hit no L=none:=by
 cases e:hit no L with
 | none=>rfl
 | some x=>exact absurd (List.mem_map.2 ⟨x,(hit_some e).1,(hit_some e).2⟩) h
theorem order_drop {no:Int} {L:List AP} (hn:(nos L).Nodup):(nos L).reverse.erase no=(nos (rid no L)).reverse:=by
 have hr:(nos L).reverse.Nodup:=by
  unfold List.Nodup;rw [List.pairwise_reverse];exact hn.imp fun h=>Ne.symm h
 rw [nos_rid,←List.filter_reverse,List.Nodup.erase_eq_filter hr];apply List.filter_congr;intro x _;by_cases e:x=no<;>simp [e]
theorem order_touch {x:AP} {L:List AP} (hn:(nos L).Nodup):(nos L).reverse.erase x.no++[x.no]=(nos (x::rid x.no L)).reverse:=by
 rw [order_drop hn];simp [nos]
theorem nd_rid {no:Int} {L:List AP} (hn:(nos L).Nodup):(nos (rid no L)).Nodup:=by rw [nos_rid];exact hn.filter _
theorem nd_touch {x:AP} {L:List AP} (hn:(nos L).Nodup):(nos (x::rid x.no L)).Nodup:=by
 have:nos (x::rid x.no L)=x.no::nos (rid x.no L):=rfl;rw [this,List.nodup_cons];exact ⟨by rw [nos_rid];simp,nd_rid hn⟩
def isT (h:Heap) (b:Nat) (t:TypeId):Prop:=∃cs fz,h[b]? = some (.cells cs t fz)
theorem isT.eq {h:Heap} {b:Nat} {t u:TypeId} (x:isT h b t) (y:isT h b u):t=u:=by
 obtain ⟨_,_,x⟩:=x;obtain ⟨_,_,y⟩:=y;rw [x] at y;injection y with y;injection y
def wd (F:Nat→Prop) (a z:Nat) (b:Nat):Prop:=F b∨(a≤b∧b<z)
structure PgAt (h:Heap) (F:Nat→Prop) (q:Nat) (x:AP):Prop where
 cells:∃b:SV,h[q]? = some (.cells #[sv b,.bool x.d] 341 (0,0))∧Cap h 1 5 (sv b) (x.b.map bv)∧∀j,blkC (sv b) j→F j
 own:F q
theorem PgAt.chg {h h':Heap} {F F' G:Nat→Prop} {q:Nat} {x:AP} (r:PgAt h F q x) (c:Chg G h h') (hg:∀b,G b→F b→isT h b 341∨isT h b 5→False) (hF:∀b,F b→F' b):PgAt h' F' q x:=by
 obtain ⟨⟨b,hq,hb,hf⟩,ho⟩:=r;refine ⟨⟨b,c.block hq fun g=>hg _ g ho (.inl ⟨_,_,hq⟩),hb.chg c fun j hj g=>?_,fun j hj=>hF _ (hf j hj)⟩,hF _ ho⟩;obtain ⟨cs,fz,h1⟩:=hb.blk hj;exact hg j g (hf j hj) (.inr ⟨cs,fz,h1⟩)
structure CMap (h:Heap) (F:Nat→Prop) (m:Nat) (L:List AP) (ks:List Int) (q:Int→Nat):Prop where
 map:MapT (Value.int .i64) h m (ks.map fun k=>(k,ptr (q k)))
 mem:∀k,k∈ks↔k∈nos L
 nd:(nos L).Nodup
 pg:∀x∈L,PgAt h F (q x.no) x
 inj:∀x∈L,∀y∈L,q x.no=q y.no→x.no=y.no
 own:F m
theorem CMap.chg {h h':Heap} {F F' G:Nat→Prop} {m:Nat} {L:List AP} {ks:List Int} {q:Int→Nat} (r:CMap h F m L ks q) (c:Chg G h h') (hg:∀b,G b→F b→isT h b 249∨isT h b 3) (hF:∀b,F b→F' b):CMap h' F' m L ks q:=by
 refine ⟨r.map.chg c fun g=>?_,r.mem,r.nd,fun x hx=>(r.pg x hx).chg c (fun b g f t=>?_) hF,r.inj,hF _ r.own⟩
 ·obtain ⟨es,cl,hb,_⟩:=r.map;rcases hg _ g r.own with ⟨cs,fz,h1⟩ | ⟨cs,fz,h1⟩<;>(rw [hb] at h1;injection h1 with h1;cases h1)
 ·rcases hg _ g f with h1 | h1<;>rcases t with h2 | h2<;>exact absurd (h1.eq h2) (by decide)
theorem CMap.keys {h:Heap} {F:Nat→Prop} {m:Nat} {L:List AP} {ks:List Int} {q:Int→Nat} (r:CMap h F m L ks q):ks.Nodup:=by
 have h1:=r.map.nodup;rw [List.map_map] at h1;have h2:((fun x:Int × Value=>x.1)∘fun k=>(k,ptr (q k)))=id:=rfl;rwa [h2,List.map_id] at h1
theorem aget_map {f:Int→Value} {ks:List Int} {k:Int} (h:k∈ks):aget (ks.map fun k=>(k,f k)) k=some (f k):=by
 induction ks with
 | nil=>simp at h
 | cons a l ih=>
  unfold aget;rw [List.map_cons,List.find?_cons];by_cases e:a=k
  ·subst e;simp
  ·have hm:k∈l:=by rcases List.mem_cons.1 h with h | h;exact absurd h.symm e;exact h
   have:=ih hm;unfold aget at this;simpa [e] using this
theorem aget_not {f:Int→Value} {ks:List Int} {k:Int} (h:k∉ks):aget (ks.map fun k=>(k,f k)) k=none:=by
 refine aget_none fun p hp=>?_;obtain ⟨j,hj,rfl⟩:=List.mem_map.1 hp;rintro rfl;exact h hj
theorem adel_map {f:Int→Value} {ks:List Int} {k:Int} : adel (ks.map fun k=>(k,f k)) k=(ks.filter fun j=>decide (j≠k)).map fun k=>(k,f k):=by
 unfold adel;rw [List.filter_map];rfl
def kput (ks:List Int) (k:Int):List Int:=if k∈ks then ks else ks++[k]
theorem mem_kput {ks:List Int} {k j:Int} : j∈kput ks k↔j=k∨j∈ks:=by
 unfold kput;by_cases h:k∈ks
 ·rw [if_pos h];constructor
  ·exact .inr
  ·rintro (rfl | hj)
   ·exact h
   ·exact hj
 ·rw [if_neg h];simp [or_comm]
def fput (q:Int→Nat) (k:Int) (n:Nat) (j:Int):Nat:=if j=k then n else q j
theorem caput_map {q:Int→Nat} {ks:List Int} {k:Int} {n:Nat} (hn:ks.Nodup):aput (ks.map fun k=>(k,ptr (q k))) k (ptr n)=(kput ks k).map fun j=>(j,ptr (fput q k n j)):=by
 unfold kput;by_cases h:k∈ks
 ·rw [if_pos h];induction ks with
  | nil=>simp at h
  | cons a l ih=>
   rw [List.nodup_cons] at hn;by_cases e:a=k
   ·subst e;simp only [List.map_cons,aput,if_pos,fput];congr 1;apply List.map_congr_left;intro j hj;rw [if_neg (by rintro rfl;exact hn.1 hj)]
   ·have hm:k∈l:=by rcases List.mem_cons.1 h with h | h;exact absurd h.symm e;exact h
    simp only [List.map_cons,aput,if_neg e,ih hn.2 hm,fput]
 ·rw [if_neg h,aput_none]
  ·rw [List.map_append];congr 1
   ·apply List.map_congr_left;intro j hj;unfold fput;rw [if_neg (by rintro rfl;exact h hj)]
   ·simp [fput]
  ·intro p hp;obtain ⟨j,hj,rfl⟩:=List.mem_map.1 hp;rintro rfl;exact h hj
theorem CMap.get {h:Heap} {F:Nat→Prop} {m:Nat} {L:List AP} {ks:List Int} {q:Int→Nat} (r:CMap h F m L ks q) (no:Int) :
  (aget (ks.map fun k=>(k,ptr (q k))) no).getD (.pointer none)=.pointer ((hit no L).map fun _=>⟨q no,0,none⟩):=by
 by_cases hm:no∈nos L
 ·obtain ⟨x,hx⟩:=hit_mem hm;rw [aget_map ((r.mem no).2 hm),hx];rfl
 ·rw [aget_not (fun k=>hm ((r.mem no).1 k)),hit_not hm];rfl
theorem CMap.drop {h:Heap} {F:Nat→Prop} {m:Nat} {L:List AP} {ks:List Int} {q:Int→Nat} (r:CMap h F m L ks q) {no:Int} {h':Heap} (p:V.Put (Value.int .i64) h m (adel (ks.map fun k=>(k,ptr (q k))) no) h') :
  CMap h' F m (rid no L) (ks.filter fun j=>decide (j≠no)) q:=by
 refine ⟨by have:=p.map;rwa [adel_map] at this,fun k=>?_,nd_rid r.nd,fun x hx=>(r.pg x (mem_rid.1 hx).1).chg p.chg ?_ (fun _ f=>f),fun x hx y hy=>r.inj x (mem_rid.1 hx).1 y (mem_rid.1 hy).1,r.own⟩
 ·rw [nos_rid,List.mem_filter,List.mem_filter,r.mem]
 ·rintro b rfl _ t;obtain ⟨es,cl,hb,_⟩:=r.map;rcases t with ⟨cs,fz,h1⟩ | ⟨cs,fz,h1⟩<;>(rw [hb] at h1;injection h1 with h1;cases h1)
theorem CMap.put {h:Heap} {F:Nat→Prop} {m:Nat} {L:List AP} {ks:List Int} {q:Int→Nat} (r:CMap h F m L ks q) {x:AP} {n:Nat} {h':Heap} {F':Nat→Prop} (hn:PgAt h F' n x) (hnew:∀y∈L,q y.no≠n) (hFF:∀b,F b→F' b)
  (p:V.Put (Value.int .i64) h m (aput (ks.map fun k=>(k,ptr (q k))) x.no (ptr n)) h') :
  CMap h' F' m (x::rid x.no L) (kput ks x.no) (fput q x.no n):=by
 have hmp:∀b,b=m→F' b→isT h b 341∨isT h b 5→False:=by
  rintro b rfl _ t;obtain ⟨es,cl,hb,_⟩:=r.map;rcases t with ⟨cs,fz,h1⟩ | ⟨cs,fz,h1⟩<;>(rw [hb] at h1;injection h1 with h1;cases h1)
 refine ⟨by have:=p.map;rwa [caput_map r.keys] at this,fun k=>?_,nd_touch r.nd,?_,?_,hFF _ r.own⟩
 ·rw [mem_kput,r.mem];have:nos (x::rid x.no L)=x.no::nos (rid x.no L):=rfl;rw [this,nos_rid,List.mem_cons,List.mem_filter];by_cases e:k=x.no<;>simp [e]
 ·intro y hy;rcases List.mem_cons.1 hy with rfl | hy
  ·simp only [fput,if_pos];exact hn.chg p.chg hmp (fun _ f=>f)
  ·obtain ⟨h1,h2⟩:=mem_rid.1 hy;simp only [fput,if_neg h2];exact ((r.pg y h1).chg (Chg.refl none_ h) (fun _ g _ _=>g) hFF).chg p.chg hmp (fun _ f=>f)
 ·intro y hy z hz e;unfold fput at e;rcases List.mem_cons.1 hy with rfl | hy<;>rcases List.mem_cons.1 hz with rfl | hz
  ·rfl
  ·obtain ⟨h1,h2⟩:=mem_rid.1 hz;rw [if_pos rfl,if_neg h2] at e;exact absurd e.symm (hnew z h1)
  ·obtain ⟨h1,h2⟩:=mem_rid.1 hy;rw [if_neg h2,if_pos rfl] at e;exact absurd e (hnew y h1)
  ·obtain ⟨h1,h2⟩:=mem_rid.1 hy;obtain ⟨h3,h4⟩:=mem_rid.1 hz;rw [if_neg h2,if_neg h4] at e;exact r.inj y h1 z h3 e
theorem Ordr.chg {h h':Heap} {G:Nat→Prop} {p:Nat} {rm mp:Value} {ov:SV} {xs:List Int} (r:Ordr h p rm mp ov xs) (c:Chg G h h') (hp:¬G p) (hb:∀b,blkC (sv ov) b→¬G b):Ordr h' p rm mp ov xs:=
 ⟨c.block r.hp hp,r.ord.chg c hb⟩
structure CIn (h:Heap) (F:Nat→Prop) (p m:Nat) (ov:SV) (room:Int) (L:List AP) (ks:List Int) (q:Int→Nat):Prop where
 mp:CMap h F m L ks q
 od:Ordr h p (.int .i64 room) (.map (some m)) ov (nos L).reverse
 fp:F p
 fo:∀b,blkC (sv ov) b→F b
 lt:∀b,F b→b<h.size
 len:L.length≤100000001
 sm:∀x∈L,x.b.length≤1000000
def CRep (h:Heap) (F:Nat→Prop) (p:Nat) (room:Int) (L:List AP):Prop:=∃m ov ks q,CIn h F p m ov room L ks q
structure Step (F:Nat→Prop) (h:Heap) (F':Nat→Prop) (h':Heap):Prop where
 chg:Chg F h h'
 place:∀b,F' b→F b∨h.size≤b
theorem CIn.hp {h:Heap} {F:Nat→Prop} {p m:Nat} {ov:SV} {room:Int} {L:List AP} {ks:List Int} {q:Int→Nat} (r:CIn h F p m ov room L ks q):h[p]? = some (.cells #[sv ov,.int .i64 room,.map (some m)] 249 (0,0)):=r.od.hp
theorem CIn.kind {h:Heap} {F:Nat→Prop} {p m:Nat} {ov:SV} {room:Int} {L:List AP} {ks:List Int} {q:Int→Nat} (r:CIn h F p m ov room L ks q):∀b,(b=p∨blkC (sv ov) b)→isT h b 249∨isT h b 3:=by
 rintro b (rfl | hb)
 ·exact .inl ⟨_,_,r.hp⟩
 ·exact .inr (r.od.ord.blk hb)
theorem CIn.ne_p {h:Heap} {F:Nat→Prop} {p m:Nat} {ov:SV} {room:Int} {L:List AP} {ks:List Int} {q:Int→Nat} (r:CIn h F p m ov room L ks q):p≠m:=fun e=>by
 obtain ⟨es,cl,hb,_⟩:=r.mp.map;have:=r.hp;rw [e,hb] at this;injection this with this;cases this
theorem CIn.ne_o {h:Heap} {F:Nat→Prop} {p m:Nat} {ov:SV} {room:Int} {L:List AP} {ks:List Int} {q:Int→Nat} (r:CIn h F p m ov room L ks q):∀b,blkC (sv ov) b→b≠m:=fun b hb e=>by
 subst e;obtain ⟨es,cl,h1,_⟩:=r.mp.map;obtain ⟨cs,fz,h2⟩:=r.od.ord.blk hb;rw [h1] at h2;injection h2 with h2;cases h2
theorem drop_in {h:Heap} {F:Nat→Prop} {p m:Nat} {ov:SV} {room:Int} {L:List AP} {ks:List Int} {q:Int→Nat} (r:CIn h F p m ov room L ks q) (no:Int) :
  HC Tryz.prog 290 #[ptr p,.int .i64 no] h (fun v h'=>∃ov',v=.tuple #[]∧CIn h' (wd F h.size h'.size) p m ov' room (rid no L) (ks.filter fun j=>decide (j≠no)) q∧Chg (fun b=>b=m∨b=p∨blkC (sv ov) b) h h'):=by
 refine HC.body Tryz.func290 rfl (by kernel_rfl) 14 rfl rfl ?_;refine HW.seq fun K1 hK1=>?_;refine HW.region ?_;refine HO.v (V.mvP rfl) rfl 4 rfl rfl ?_;refine HO.v (V.nilCheck rfl) rfl 5 rfl rfl ?_;refine HO.v (V.fieldAddr rfl T.fd249_2) rfl 6 rfl rfl ?_;refine HO.v (V.load rfl (load_one T.ag245 (v:=.map (some m)) (cell_of r.hp 2))) rfl 7 rfl rfl ?_;refine HO.v (V.mvI rfl) rfl 8 rfl rfl ?_;refine HO.a0 (V.delete (KV.int .i64) rfl rfl r.mp.map T.mp245 (inB_iff T.in3)) rfl rfl ?_;rintro _ h1 ⟨rfl,pu⟩;refine HO.nil ?_;refine hK1 _ _ ?_;refine HW.region ?_;refine HO.v (V.mvP rfl) rfl 9 rfl rfl ?_;refine HO.v (V.nilCheck rfl) rfl 10 rfl rfl ?_;refine HO.v (V.fieldAddr rfl T.fd249_0) rfl 11 rfl rfl ?_;refine HO.v (V.mvI rfl) rfl 12 rfl rfl ?_;have o1:Ordr h1 p (.int .i64 room) (.map (some m)) ov (nos L).reverse:=r.od.chg pu.chg r.ne_p r.ne_o;refine HO.c OpC.func rfl 13 rfl rfl (forget_any o1 (by have:=r.len;simp [nos];omega)) ?_;rintro _ h2 ⟨ov2,rfl,t⟩;refine HO.nil ?_;refine ⟨.tuple #[],Res.none rfl,ov2,rfl,⟨?_,?_,?_,?_,?_,?_,?_⟩,?_⟩
 ·have c1:=r.mp.drop pu;refine c1.chg t.chg (fun b g _=>?_) fun b f=>.inl f;rcases g with rfl | hb
  ·exact .inl ⟨_,_,o1.hp⟩
  ·exact .inr (o1.ord.blk hb)
 ·have:=t.ordr;rwa [order_drop r.mp.nd] at this
 ·exact .inl r.fp
 ·intro b hb;have h1:=t.ordr.ord.lt hb;rcases t.place b hb with hb | hb
  ·exact .inl (r.fo b hb)
  ·have:=pu.size;exact .inr ⟨by omega,h1⟩
 ·have h1:=t.chg.size;have h2:=pu.size;rintro b (hb | hb)
  ·have:=r.lt b hb;omega
  ·exact hb.2
 ·have:=rid_len no L;have:=r.len;omega
 ·exact fun x hx=>r.sm x (mem_rid.1 hx).1
 ·refine (pu.chg.mono fun b _ hb=>.inl hb).trans' t.chg fun b _ hb=>.inr hb
theorem CMap.bound {h:Heap} {F:Nat→Prop} {m:Nat} {L:List AP} {ks:List Int} {q:Int→Nat} (r:CMap h F m L ks q):CMap h (fun b=>F b∧b<h.size) m L ks q:=
 ⟨r.map,r.mem,r.nd,fun x hx=>by
  obtain ⟨⟨b,h1,h2,h3⟩,h4⟩:=r.pg x hx;exact ⟨⟨b,h1,h2,fun j hj=>⟨h3 j hj,h2.lt hj⟩⟩,h4,block_lt h1⟩,r.inj,r.own,r.map.lt⟩
theorem CMap.same {h:Heap} {F:Nat→Prop} {m:Nat} {L M:List AP} {ks:List Int} {q:Int→Nat} (r:CMap h F m L ks q) (hm:∀x,x∈M↔x∈L) (hn:(nos M).Nodup):CMap h F m M ks q:=
 ⟨r.map,fun k=>by
  rw [r.mem];unfold nos;simp only [List.mem_map,hm],hn,fun x hx=>r.pg x ((hm x).1 hx),fun x hx y hy=>r.inj x ((hm x).1 hx) y ((hm y).1 hy),r.own⟩
theorem nos_inj {L:List AP} (hn:(nos L).Nodup):∀ {x y:AP},x∈L→y∈L→x.no=y.no→x=y:=by
 induction L with
 | nil=>intro x y hx;simp at hx
 | cons a l ih=>
  have hn':(a.no::nos l).Nodup:=hn;rw [List.nodup_cons] at hn';intro x y hx0 hy0 e;rcases List.mem_cons.1 hx0 with rfl | hx<;>rcases List.mem_cons.1 hy0 with rfl | hy
  ·rfl
  ·exact absurd (List.mem_map.2 ⟨y,hy,e.symm⟩:x.no∈nos l) hn'.1
  ·exact absurd (List.mem_map.2 ⟨x,hx,e⟩:y.no∈nos l) hn'.1
  ·exact ih hn'.2 hx hy e
theorem touch_mem {L:List AP} (hn:(nos L).Nodup) {x:AP} (hx:x∈L):∀y,y∈x::rid x.no L↔y∈L:=fun y=>by
 rw [List.mem_cons,mem_rid];constructor
 ·rintro (rfl | h)
  ·exact hx
  ·exact h.1
 ·intro hy;by_cases e:y.no=x.no
  ·exact .inl (nos_inj hn hy hx e)
  ·exact .inr ⟨hy,e⟩
theorem CIn.mk' {h:Heap} {F:Nat→Prop} {p m:Nat} {ov:SV} {room:Int} {L:List AP} {ks:List Int} {q:Int→Nat} (mp:CMap h F m L ks q) (od:Ordr h p (.int .i64 room) (.map (some m)) ov (nos L).reverse) (fp:F p) (fo:∀b,blkC (sv ov) b→F b) (len:L.length≤100000001) (sm:∀x∈L,x.b.length≤1000000) :
  CIn h (fun b=>F b∧b<h.size) p m ov room L ks q:=
 ⟨mp.bound,od,⟨fp,od.lt⟩,fun b hb=>⟨fo b hb,od.ord.lt hb⟩,fun _ hb=>hb.2,len,sm⟩
theorem CIn.chg {h h':Heap} {F G:Nat→Prop} {p m:Nat} {ov:SV} {room:Int} {L:List AP} {ks:List Int} {q:Int→Nat} (r:CIn h F p m ov room L ks q) (c:Chg G h h') (hg:∀b,F b→¬G b):CIn h' F p m ov room L ks q:=
 ⟨r.mp.chg c (fun b g f=>absurd g (hg b f)) (fun _ f=>f),r.od.chg c (hg _ r.fp) (fun b hb=>hg _ (r.fo b hb)),r.fp,r.fo,fun b hb=>Nat.lt_of_lt_of_le (r.lt b hb) c.size,r.len,r.sm⟩
theorem CRep.chg {h h':Heap} {F G:Nat→Prop} {p:Nat} {room:Int} {L:List AP} (r:CRep h F p room L) (c:Chg G h h') (hg:∀b,F b→¬G b):CRep h' F p room L:=
 let ⟨m,ov,ks,q,r⟩:=r;⟨m,ov,ks,q,r.chg c hg⟩
theorem CRep.lt {h:Heap} {F:Nat→Prop} {p:Nat} {room:Int} {L:List AP} (r:CRep h F p room L):∀b,F b→b<h.size:=let ⟨_,_,_,_,r⟩:=r;r.lt
theorem CRep.nd {h:Heap} {F:Nat→Prop} {p:Nat} {room:Int} {L:List AP} (r:CRep h F p room L):(nos L).Nodup:=let ⟨_,_,_,_,r⟩:=r;r.mp.nd
def getL (no:Int) (L:List AP):List AP:=match hit no L with
 | some x=>x::rid no L
 | none=>L
def gotL (no:Int) (L:List AP):List UInt8:=((hit no L).map fun x=>x.b).getD []
def wasD (no:Int) (L:List AP):Bool:=((hit no L).map fun x=>x.d).getD false
def putL1 (no:Int) (b:List UInt8) (d:Bool) (L:List AP):List AP:=⟨no,b,d || wasD no L⟩::rid no L
def toldL (x:Option AP):List AFr:=match x with
 | some x=>if x.d then [⟨x.no,0,x.b⟩] else []
 | none=>[]
def putL (room no:Int) (b:List UInt8) (d:Bool) (L:List AP):List AP:=
 if no<1 then L else if ((putL1 no b d L).length:Int)≤room then putL1 no b d L else (putL1 no b d L).dropLast
def putA (room no:Int) (b:List UInt8) (d:Bool) (L:List AP):List AFr:=
 if no<1 then [] else if ((putL1 no b d L).length:Int)≤room then [] else toldL (putL1 no b d L).getLast?
theorem drop_last {L:List AP} {x:AP} (hn:(nos L).Nodup) (hx:L.getLast? = some x):rid x.no L=L.dropLast:=by
 obtain ⟨M,rfl⟩:=List.getLast?_eq_some_iff.1 hx;have h1:nos (M++[x])=nos M++[x.no]:=by simp [nos]
 rw [h1,List.nodup_append] at hn;unfold rid;rw [List.filter_append,List.dropLast_concat];have h2:List.filter (fun y=>decide (y.no≠x.no)) M=M:=by
  rw [List.filter_eq_self];intro y hy;simp only [decide_eq_true_eq];exact fun e=>hn.2.2 y.no (List.mem_map.2 ⟨y,hy,rfl⟩) x.no (by simp) e
 rw [h2];simp
theorem cnew_any {h:Heap} {room:Int} :
  HC Tryz.prog 133 #[.int .i64 room] h (fun v h'=>(¬(1≤room∧room≤1048576)∧v=.tuple #[.pointer none,.int .i64 1]∧h'=h)∨
   ((1≤room∧room≤1048576)∧∃p F,v=.tuple #[ptr p,.int .i64 0]∧CRep h' F p room []∧Ext h h'∧∀b,F b→h.size≤b)):=by
 refine HC.body Tryz.func133 rfl (by kernel_rfl) 14 rfl rfl ?_;refine HW.seq fun K1 hK1=>?_;refine HW.region ?_;refine HO.v (V.asP rfl) rfl 2 rfl rfl ?_;refine HO.v (V.asI rfl) rfl 3 rfl rfl ?_;refine HO.nil ?_;refine hK1 _ _ ?_;refine HW.seq fun K2 hK2=>?_;refine HW.seq fun K3 hK3=>?_;refine HW.region ?_;refine HO.v (V.mvI rfl) rfl 4 rfl rfl ?_;refine HO.v (V.lss rfl rfl rfl) rfl 5 rfl rfl ?_;refine HO.v (V.mvB rfl) rfl 6 rfl rfl ?_;refine HO.spl (fun hb2=>?_) (fun hb2=>?_)
 ·
  refine HO.no rfl 7 rfl rfl ?_;refine HO.no rfl 8 rfl rfl ?_;refine HO.v (V.pick_t rfl rfl) rfl 9 rfl rfl ?_;refine HO.nil ?_;refine hK3 _ _ ?_;refine HW.cond_t rfl ?_;refine HW.seq fun K4 hK4=>?_;refine HW.region ?_;refine HO.v (V.asP rfl) rfl 2 rfl rfl ?_;refine HO.v (V.asI rfl) rfl 3 rfl rfl ?_;refine HO.nil ?_;refine hK4 _ _ ?_;refine HW.ret ?_;refine ⟨.tuple #[.pointer none,.int .i64 1],Res.two rfl rfl rfl,.inl ⟨(by have:=of_decide_eq_true hb2;omega),rfl,rfl⟩⟩
 ·
  refine HO.v (V.mvI rfl) rfl 7 rfl rfl ?_;refine HO.v (V.gtr rfl rfl rfl) rfl 8 rfl rfl ?_;refine HO.v (V.pick_f rfl rfl) rfl 9 rfl rfl ?_;refine HO.nil ?_;refine hK3 _ _ ?_;refine HW.cond rfl (fun hc=>?_) (fun hc=>?_)
  ·
   refine HW.seq fun K5 hK5=>?_;refine HW.region ?_;refine HO.v (V.asP rfl) rfl 2 rfl rfl ?_;refine HO.v (V.asI rfl) rfl 3 rfl rfl ?_;refine HO.nil ?_;refine hK5 _ _ ?_;refine HW.ret ?_;refine ⟨.tuple #[.pointer none,.int .i64 1],Res.two rfl rfl rfl,.inl ⟨(by have:=of_decide_eq_true hc;omega),rfl,rfl⟩⟩
  refine HW.skip ?_;refine hK2 _ _ ?_;refine HW.seq fun K6 hK6=>?_;refine HW.region ?_;refine HO.v (V.mvI rfl) rfl 10 rfl rfl ?_;refine HO.e (V.makeMap) rfl 11 rfl rfl ?_;refine HO.v (V.build (cs:=#[.slice none 0 0,.int .i64 room,.map (some h.size)]) T.zr249 T.pl249 rfl) rfl 12 rfl rfl ?_;refine HO.e (V.boxA rfl) rfl 13 rfl rfl ?_;refine HO.v (V.asP rfl) rfl 2 rfl rfl ?_;refine HO.v (V.asI rfl) rfl 3 rfl rfl ?_;refine HO.nil ?_;refine hK6 _ _ ?_;refine HW.ret ?_;refine ⟨.tuple #[ptr (h.push (.map #[] 0)).size,.int .i64 0],Res.two rfl rfl rfl,.inr ⟨(by have:=of_decide_eq_false hc;have:=of_decide_eq_false hb2;omega),_,(fun b=>b=h.size∨b=(h.push (.map #[] 0)).size),rfl,⟨h.size,(none,0,0),[],fun _=>0,?_⟩,(Ext.push _ _).trans (Ext.push _ _),?_⟩⟩
  ·refine ⟨⟨MapT.new (push_other (push_same _ _)),fun k=>by simp [nos],by simp [nos],fun x hx=>by simp at hx,fun x hx=>by simp at hx,.inl rfl⟩,⟨push_same _ _,Cap.nil _ _ _⟩,.inr rfl,fun b hb=>?_,?_,by simp,fun x hx=>by simp at hx⟩
   ·obtain ⟨o,n,c,hv⟩:=hb;cases hv
   ·rintro b (rfl | rfl)<;>simp<;>omega
  ·rintro b (rfl | rfl)<;>simp
theorem get_any {h:Heap} {F:Nat→Prop} {p:Nat} {room:Int} {L:List AP} (r:CRep h F p room L) (no:Int) :
  HC Tryz.prog 287 #[ptr p,.int .i64 no] h (fun v h'=>∃(g:SV) (F':Nat→Prop),v=.tuple #[sv g,.bool (hit no L).isSome]∧CRep h' F' p room (getL no L)∧Step F h F' h'∧
   Cap h' 1 5 (sv g) ((gotL no L).map bv)∧∀b,blkC (sv g) b→h.size≤b∧¬F' b):=by
 obtain ⟨m,ov,ks,q,r⟩:=r;refine HC.body Tryz.func287 rfl (by kernel_rfl) 32 rfl rfl ?_;refine HW.seq fun K1 hK1=>?_;refine HW.region ?_;refine HO.v (V.asS rfl) rfl 4 rfl rfl ?_;refine HO.v (V.asB rfl) rfl 5 rfl rfl ?_;refine HO.nil ?_;refine hK1 _ _ ?_;refine HW.seq fun K2 hK2=>?_;refine HW.seq fun K3 hK3=>?_;refine HW.region ?_;refine HO.v (V.mvP rfl) rfl 6 rfl rfl ?_;refine HO.v (V.ptrEqNil rfl rfl T.pt194) rfl 7 rfl rfl ?_;refine HO.v (V.mvB rfl) rfl 8 rfl rfl ?_;refine HO.spl (fun hb2=>?_) (fun hb2=>?_)
 ·
  refine HO.no rfl 9 rfl rfl ?_;refine HO.no rfl 10 rfl rfl ?_;refine HO.no rfl 11 rfl rfl ?_;refine HO.no rfl 12 rfl rfl ?_;refine HO.no rfl 13 rfl rfl ?_;refine HO.no rfl 14 rfl rfl ?_;refine HO.no rfl 15 rfl rfl ?_;refine HO.v (V.pick_t rfl rfl) rfl 16 rfl rfl ?_;refine HO.nil ?_;refine hK3 _ _ ?_;refine HW.cond_t rfl ?_;refine HW.seq fun K4 hK4=>?_;refine HW.region ?_;refine HO.v (V.asS rfl) rfl 4 rfl rfl ?_;refine HO.v (V.asB rfl) rfl 5 rfl rfl ?_;refine HO.nil ?_;refine hK4 _ _ ?_;refine HW.ret ?_;refine ⟨.tuple #[.slice none 0 0,.bool false],Res.two rfl rfl rfl,(by simp at hb2)⟩
 ·
  refine HO.v (V.mvP rfl) rfl 9 rfl rfl ?_;refine HO.v (V.nilCheck rfl) rfl 10 rfl rfl ?_;refine HO.v (V.fieldAddr rfl T.fd249_2) rfl 11 rfl rfl ?_;refine HO.v (V.load rfl (load_one T.ag245 (v:=.map (some m)) (cell_of r.hp 2))) rfl 12 rfl rfl ?_;refine HO.v (V.mvI rfl) rfl 13 rfl rfl ?_;refine HO.v (V.lookupE (KV.int .i64) rfl rfl r.mp.map T.mp245 (inB_iff T.in3) T.zr339 (r.mp.get no)) rfl 14 rfl rfl ?_;refine HO.v (V.ptrEqNil rfl rfl T.pt339) rfl 15 rfl rfl ?_;refine HO.v (V.pick_f rfl rfl) rfl 16 rfl rfl ?_;refine HO.nil ?_;refine hK3 _ _ ?_;refine HW.cond rfl (fun hc=>?_) (fun hc=>?_)
  ·
   refine HW.seq fun K5 hK5=>?_;have hx:hit no L=none:=by simpa using hc
   refine HW.region ?_;refine HO.v (V.asS rfl) rfl 4 rfl rfl ?_;refine HO.v (V.asB rfl) rfl 5 rfl rfl ?_;refine HO.nil ?_;refine hK5 _ _ ?_;refine HW.ret ?_;refine ⟨.tuple #[.slice none 0 0,.bool false],Res.two rfl rfl rfl,(none,0,0),F,(by rw [hx];rfl),(by unfold getL;rw [hx];exact ⟨m,ov,ks,q,r⟩),⟨Chg.refl _ _,fun b hb=>.inl hb⟩,(by unfold gotL;rw [hx];exact Cap.nil _ _ _),(fun b hb=>by obtain ⟨o,n,c,hv⟩:=hb;cases hv)⟩
  refine HW.skip ?_;refine hK2 _ _ ?_;refine HW.seq fun K6 hK6=>?_;have hx:∃x,hit no L=some x:=by
   cases e:hit no L with
   | some x=>exact ⟨x,rfl⟩
   | none=>rw [e] at hc;simp at hc
  obtain ⟨x,hx⟩:=hx;refine HW.region ?_;refine HO.v (V.mvP rfl) rfl 17 rfl rfl ?_;refine HO.v (V.nilCheck rfl) rfl 18 rfl rfl ?_;refine HO.v (V.fieldAddr rfl T.fd249_0) rfl 19 rfl rfl ?_;refine HO.v (V.mvI rfl) rfl 20 rfl rfl ?_;refine HO.c OpC.func rfl 21 rfl rfl (touch_any r.od (by have:=r.len;simp [nos];omega)) ?_;rintro _ h1 ⟨ov1,rfl,t⟩;refine HO.nil ?_;refine hK6 _ _ ?_;refine HW.seq fun K7 hK7=>?_;obtain ⟨hxm,hxn⟩:=hit_some hx;have c1:CMap h1 (fun b=>F b∨h.size≤b) m L ks q:=r.mp.chg t.chg (fun b g _=>r.kind b g) fun b f=>.inl f;obtain ⟨⟨pb,hq,hb,hf⟩,ho⟩:=c1.pg x hxm;rw [hxn] at hq ho;refine HW.region ?_;refine HO.v (V.mvP rfl) rfl 22 rfl rfl ?_;refine HO.v (V.nilCheck rfl) rfl 23 rfl rfl ?_;refine HO.v (V.fieldAddr rfl T.fd249_2) rfl 24 rfl rfl ?_;refine HO.v (V.load rfl (load_one T.ag245 (v:=.map (some m)) (cell_of t.ordr.hp 2))) rfl 25 rfl rfl ?_;refine HO.v (V.mvI rfl) rfl 26 rfl rfl ?_;refine HO.v (V.lookupE (KV.int .i64) rfl rfl c1.map (v:=ptr (q no)) T.mp245 (inB_iff T.in3) T.zr339 ((c1.get no).trans (by rw [hx];rfl))) rfl 27 rfl rfl ?_;refine HO.v (V.nilCheck rfl) rfl 28 rfl rfl ?_;refine HO.v (V.fieldAddr rfl T.fd341_0) rfl 29 rfl rfl ?_;refine HO.v (V.load rfl (load_one T.ag44 (v:=sv pb) (cell_of hq 0))) rfl 30 rfl rfl ?_;refine HO.c OpC.func rfl 31 rfl rfl (cloneB_any hb.sl (by have:=r.sm x hxm;omega)) ?_;rintro _ h2 ow;obtain ⟨g,rfl⟩:=ow.cap.form;refine HO.v (V.asS rfl) rfl 4 rfl rfl ?_;refine HO.v (V.asB rfl) rfl 5 rfl rfl ?_;refine HO.nil ?_;refine hK7 _ _ ?_;refine HW.ret ?_;refine ⟨.tuple #[sv g,.bool true],Res.two rfl rfl rfl,g,(fun b=>(F b∨h.size≤b)∧b<h1.size),?_,⟨m,ov1,ks,q,?_⟩,⟨?_,?_⟩,?_,?_⟩
  ·rw [hx];rfl
  ·have e:getL no L=x::rid x.no L:=by unfold getL;rw [hx,hxn]
   rw [e];have hnd:=nd_touch (x:=x) r.mp.nd;have o1:Ordr h1 p (.int .i64 room) (.map (some m)) ov1 (nos (x::rid x.no L)).reverse:=by
    have:=t.ordr;rw [←hxn,order_touch r.mp.nd] at this;exact this
   have hmem:=touch_mem r.mp.nd hxm;have:=CIn.mk' (c1.same hmem hnd) o1 (.inl r.fp) (fun b hb=>(t.place b hb).imp (r.fo b) id) ?_ (fun y hy=>r.sm y ((hmem y).1 hy))
   ·exact this.chg ow.ext fun _ _ f=>f
   ·have h1:rid x.no L≠L:=fun e=>(mem_rid.1 (show x∈rid x.no L by rw [e];exact hxm)).2 rfl;have h2:=rid_len x.no L;have h3:(rid x.no L).length≠L.length:=fun e=>h1 ((List.filter_sublist (l:=L)).eq_of_length e);have:=r.len;simp only [List.length_cons];omega
  ·refine (t.chg.mono fun b _ hb=>?_).trans' ow.ext fun _ _ f=>f.elim;rcases hb with rfl | hb
   ·exact r.fp
   ·exact r.fo b hb
  ·exact fun b hb=>hb.1
  ·have e:gotL no L=x.b:=by unfold gotL;rw [hx];rfl
   rw [e];exact ow.cap
  ·intro b hb;have h1:=ow.fresh b hb;have h2:=t.chg.size;exact ⟨by omega,fun h=>by omega⟩
theorem Step.trans {F F1 F2:Nat→Prop} {h h1 h2:Heap} (x:Step F h F1 h1) (y:Step F1 h1 F2 h2):Step F h F2 h2:=
 ⟨x.chg.trans' y.chg fun b hb hk=>by
  rcases x.place b hk with hk | hk
  ·exact hk
  ·omega,fun b hb=>by
  rcases y.place b hb with hk | hk
  ·exact x.place b hk
  ·exact .inr (Nat.le_trans x.chg.size hk)⟩
theorem CIn.hpage {h:Heap} {F:Nat→Prop} {p m:Nat} {ov:SV} {room:Int} {L:List AP} {ks:List Int} {q:Int→Nat} (r:CIn h F p m ov room L ks q) {x:AP} (hx:x∈L) :
  ∃b:SV,h[q x.no]? = some (.cells #[sv b,.bool x.d] 341 (0,0))∧Cap h 1 5 (sv b) (x.b.map bv)∧∀j,blkC (sv b) j→F j:=(r.mp.pg x hx).cells
theorem told_no {x:AP} (h:x.d=false):toldL (some x)=[]:=by simp [toldL,h]
theorem told_yes {x:AP} (h:x.d=true):toldL (some x)=[⟨x.no,0,x.b⟩]:=by simp [toldL,h]
theorem putL1_len (no:Int) (b:List UInt8) (d:Bool) (L:List AP):(putL1 no b d L).length≤L.length+1:=by
 have:=rid_len no L;simp [putL1];omega
theorem put_any {h:Heap} {F:Nat→Prop} {p:Nat} {room:Int} {L:List AP} (r:CRep h F p room L) (hlen:L.length≤100000000) (no:Int) {bs:SV} {l:List UInt8} (hb:Sl h 1 (sv bs) (l.map bv)) (hbl:l.length≤1000000) (d:Bool) (hrm:1≤room) :
  HC Tryz.prog 288 #[ptr p,.int .i64 no,sv bs,.bool d] h (fun v h'=>∃F',CRep h' F' p room (putL room no l d L)∧Step F h F' h'∧Frames h' v (putA room no l d L)):=by
 obtain ⟨m,ov,ks,q,r⟩:=r;obtain ⟨dd,hdd⟩:∃dd,dd=(d || wasD no L):=⟨_,rfl⟩;refine HC.body Tryz.func288 rfl (by kernel_rfl) 87 rfl rfl ?_;refine HW.seq fun K1 hK1=>?_;refine HW.region ?_;refine HO.v (V.asS rfl) rfl 8 rfl rfl ?_;refine HO.nil ?_;refine hK1 _ _ ?_;refine HW.seq fun K2 hK2=>?_;refine HW.seq fun K3 hK3=>?_;refine HW.region ?_;refine HO.v (V.mvP rfl) rfl 12 rfl rfl ?_;refine HO.v (V.ptrEqNil rfl rfl T.pt194) rfl 13 rfl rfl ?_;refine HO.v (V.mvB rfl) rfl 14 rfl rfl ?_;refine HO.spl (fun hb2=>?_) (fun hb2=>?_)
 ·
  refine HO.no rfl 15 rfl rfl ?_;refine HO.no rfl 16 rfl rfl ?_;refine HO.v (V.pick_t rfl rfl) rfl 17 rfl rfl ?_;refine HO.nil ?_;refine hK3 _ _ ?_;refine HW.cond_t rfl ?_;refine HW.seq fun K4 hK4=>?_;refine HW.region ?_;refine HO.v (V.asS rfl) rfl 8 rfl rfl ?_;refine HO.nil ?_;refine hK4 _ _ ?_;refine HW.ret ?_;refine ⟨.slice none 0 0,Res.one rfl rfl,(by simp at hb2)⟩
 ·
  refine HO.v (V.mvI rfl) rfl 15 rfl rfl ?_;refine HO.v (V.lss rfl rfl rfl) rfl 16 rfl rfl ?_;refine HO.v (V.pick_f rfl rfl) rfl 17 rfl rfl ?_;refine HO.nil ?_;refine hK3 _ _ ?_;refine HW.cond rfl (fun hc=>?_) (fun hc=>?_)
  ·
   refine HW.seq fun K5 hK5=>?_;refine HW.region ?_;refine HO.v (V.asS rfl) rfl 8 rfl rfl ?_;refine HO.nil ?_;refine hK5 _ _ ?_;refine HW.ret ?_;refine ⟨.slice none 0 0,Res.one rfl rfl,F,(by unfold putL;rw [if_pos (of_decide_eq_true hc)];exact ⟨m,ov,ks,q,r⟩),⟨Chg.refl _ _,fun b hb=>.inl hb⟩,(by unfold putA;rw [if_pos (of_decide_eq_true hc)];exact Frames.nil _)⟩
  refine HW.skip ?_;refine hK2 _ _ ?_;refine HW.seqc (fun s hh=>Has s [(0,ptr p),(1,.int .i64 no),(2,sv bs),(3,.bool dd)]∧h=hh) ?_ ?_
  ·
   refine HW.seq fun K7 hK7=>?_;refine HW.region ?_;refine HO.v (V.mvP rfl) rfl 18 rfl rfl ?_;refine HO.v (V.nilCheck rfl) rfl 19 rfl rfl ?_;refine HO.v (V.fieldAddr rfl T.fd249_2) rfl 20 rfl rfl ?_;refine HO.v (V.load rfl (load_one T.ag245 (v:=.map (some m)) (cell_of r.hp 2))) rfl 21 rfl rfl ?_;refine HO.v (V.mvI rfl) rfl 22 rfl rfl ?_;refine HO.v (V.lookupE (KV.int .i64) rfl rfl r.mp.map T.mp245 (inB_iff T.in3) T.zr339 (r.mp.get no)) rfl 23 rfl rfl ?_;refine HO.v (V.asP rfl) rfl 9 rfl rfl ?_;refine HO.nil ?_;refine hK7 _ _ ?_;refine HW.seq fun K8 hK8=>?_;refine HW.region ?_;refine HO.v (V.mvP rfl) rfl 24 rfl rfl ?_;refine HO.v (V.ptrNeNil rfl rfl T.pt339) rfl 25 rfl rfl ?_;refine HO.nil ?_;refine hK8 _ _ ?_;refine HW.condr rfl (fun hc=>?_) (fun hc=>?_)
   ·
    refine HW.skip ?_;have hn:hit no L=none:=by simpa using hc
    obtain rfl:d=dd:=by subst hdd;unfold wasD;rw [hn];simp
    refine ⟨⟨rfl,rfl,rfl,rfl,trivial⟩,rfl⟩
   refine HW.region ?_;refine HO.v (V.mvB rfl) rfl 26 rfl rfl ?_;refine HO.v (V.mvB rfl) rfl 27 rfl rfl ?_;refine HO.spl (fun hb1=>?_) (fun hb1=>?_)
   ·
    refine HO.no rfl 28 rfl rfl ?_;refine HO.no rfl 29 rfl rfl ?_;refine HO.no rfl 30 rfl rfl ?_;refine HO.no rfl 31 rfl rfl ?_;refine HO.v (V.pick_t rfl rfl) rfl 32 rfl rfl ?_;refine HO.v (V.asB rfl) rfl 3 rfl rfl ?_;refine HO.nil ?_;obtain rfl:true=dd:=by subst hdd hb1;simp
    refine ⟨⟨rfl,rfl,rfl,rfl,trivial⟩,rfl⟩
   ·
    have hx:∃x,hit no L=some x:=by
     cases e:hit no L with
     | some x=>exact ⟨x,rfl⟩
     | none=>rw [e] at hc;simp at hc
    obtain ⟨x,hx⟩:=hx;obtain ⟨hxm,hxn⟩:=hit_some hx;obtain ⟨pb,hq,_⟩:=r.hpage hxm;rw [hxn] at hq;rw [hx];refine HO.v (V.mvP rfl) rfl 28 rfl rfl ?_;refine HO.v (V.nilCheck rfl) rfl 29 rfl rfl ?_;refine HO.v (V.fieldAddr rfl T.fd341_1) rfl 30 rfl rfl ?_;refine HO.v (V.load rfl (load_one T.ag4 (v:=.bool x.d) (cell_of hq 1))) rfl 31 rfl rfl ?_;refine HO.v (V.pick_f rfl rfl) rfl 32 rfl rfl ?_;refine HO.v (V.asB rfl) rfl 3 rfl rfl ?_;refine HO.nil ?_;obtain rfl:x.d=dd:=by subst hdd hb1;unfold wasD;rw [hx];simp
    refine ⟨⟨rfl,rfl,rfl,rfl,trivial⟩,rfl⟩
  rintro s hh ⟨hs,rfl⟩;refine HW.frame hs fun τ=>?_;refine HW.seq fun K9 hK9=>?_;refine HW.any 10 (fun fl h=>cond fl True (h[p]? = some (.cells #[sv ov,.int .i64 room,.map (some m)] 249 (0,0)))) mixed ?_;have hS:h[p]? = some (.cells #[sv ov,.int .i64 room,.map (some m)] 249 (0,0)):=r.hp;refine HA.p 0 rfl (by kernel_rfl) (by kernel_rfl) (by kernel_rfl) rfl rfl 33 rfl rfl (fl:=false) (by kernel_rfl) hS (fun _=>V.mvP rfl) ?_;refine HA.p 1 rfl (by kernel_rfl) (by kernel_rfl) (by kernel_rfl) rfl rfl 34 rfl rfl (fl:=false) (by kernel_rfl) hS (fun _=>V.nilCheck rfl) ?_;refine HA.p 2 rfl (by kernel_rfl) (by kernel_rfl) (by kernel_rfl) rfl rfl 35 rfl rfl (fl:=false) (by kernel_rfl) hS (fun _=>V.fieldAddr rfl T.fd249_2) ?_;refine HA.v 3 rfl (by kernel_rfl) (by kernel_rfl) (by kernel_rfl) rfl rfl 36 rfl rfl (fl:=false) (by kernel_rfl) hS (by kernel_rfl) (fun _ hS=>V.load rfl (load_one T.ag245 (v:=.map (some m)) (cell_of hS 2))) ?_;refine HA.p 4 rfl (by kernel_rfl) (by kernel_rfl) (by kernel_rfl) rfl rfl 37 rfl rfl (fl:=false) (by kernel_rfl) hS (fun _=>V.mvI rfl) ?_;refine HA.p 5 rfl (by kernel_rfl) (by kernel_rfl) (by kernel_rfl) rfl rfl 38 rfl rfl (fl:=false) (by kernel_rfl) hS (fun _=>V.mvS rfl) ?_;refine HA.p 7 rfl (by kernel_rfl) (by kernel_rfl) (by kernel_rfl) rfl rfl 40 rfl rfl (fl:=false) (by kernel_rfl) hS (fun _=>V.mvB rfl) ?_;refine HA.one 6 (by kernel_rfl) ?_;refine Up.c rfl rfl 39 rfl rfl OpC.func (cloneB_any hb (by omega)) (fl:=false) (by kernel_rfl) ?_;rintro _ h1 ow;have hSn:h1[p]? = some (.cells #[sv ov,.int .i64 room,.map (some m)] 249 (0,0)):=ow.ext.block r.hp (fun f=>f);refine ⟨hSn,?_⟩;replace hS:=hSn;obtain ⟨rb,rfl⟩:=ow.cap.form;refine HA.p 8 rfl (by kernel_rfl) (by kernel_rfl) (by kernel_rfl) rfl rfl 41 rfl rfl (fl:=false) (by kernel_rfl) hS (fun _=>V.build (cs:=#[sv rb,.bool dd]) T.zr341 T.pl341 rfl) ?_;refine HA.one 9 (by kernel_rfl) ?_;have hSn:(h1.push (.cells #[sv rb,.bool dd] 341 (0,0)))[p]? = some (.cells #[sv ov,.int .i64 room,.map (some m)] 249 (0,0)):=push_other hS;refine Up.e rfl rfl 42 rfl rfl (V.boxA rfl) (fl:=false) (by kernel_rfl) hSn ?_;replace hS:=hSn;refine HA.one 10 (by kernel_rfl) ?_;have e2:Ext h (h1.push (.cells #[sv rb,.bool dd] 341 (0,0))):=ow.ext.trans (Ext.push _ _);refine Up.ur rfl rfl rfl (V.mapUpdate (KV.int .i64) V.sbI rfl rfl rfl (r.mp.map.ext e2) T.mp245 (inB_iff T.in3)) (fl:=true) (by kernel_rfl) ?_;rintro h3 pu;refine ⟨trivial,?_⟩;refine HA.done (by kernel_rfl) ?_;refine hK9 _ _ ?_;refine HW.seq fun K10 hK10=>?_;have c3:CMap h3 (fun b=>F b∨h.size≤b) m (putL1 no l d L) (kput ks no) (fput q no h1.size):=by
   have c2:CMap (h1.push (.cells #[sv rb,.bool dd] 341 (0,0))) F m L ks q:=r.mp.chg e2 (fun _ g _=>g.elim) fun _ f=>f;have hp:PgAt (h1.push (.cells #[sv rb,.bool dd] 341 (0,0))) (fun b=>F b∨h.size≤b) h1.size ⟨no,l,dd⟩:=⟨⟨rb,push_same _ _,ow.cap.ext (Ext.push _ _),fun j hj=>.inr (ow.fresh j hj)⟩,.inr ow.ext.size⟩;have:=c2.put hp (fun y hy e=>by
    have h1:=r.lt _ (r.mp.pg y hy).own;have h2:=ow.ext.size;omega) (fun b f=>.inl f) pu
   unfold putL1;rw [←hdd];exact this
  have hsz:h.size≤h3.size:=by have h1:=e2.size;have h2:=pu.size;omega
  have hc3:Chg (fun b=>b=m) h h3:=e2.to.trans pu.chg;have o3:Ordr h3 p (.int .i64 room) (.map (some m)) ov (nos L).reverse:=r.od.chg hc3 r.ne_p r.ne_o;refine HW.region ?_;refine HO.v (V.mvP rfl) rfl 43 rfl rfl ?_;refine HO.v (V.nilCheck rfl) rfl 44 rfl rfl ?_;refine HO.v (V.fieldAddr rfl T.fd249_0) rfl 45 rfl rfl ?_;refine HO.v (V.mvI rfl) rfl 46 rfl rfl ?_;refine HO.c OpC.func rfl 47 rfl rfl (touch_any o3 (by have:=r.len;simp [nos];omega)) ?_;rintro _ h4 ⟨ov1,rfl,t⟩;refine HO.nil ?_;refine hK10 _ _ ?_;have o4:Ordr h4 p (.int .i64 room) (.map (some m)) ov1 (nos (putL1 no l d L)).reverse:=by
   have:=t.ordr;have e:=order_touch (x:=⟨no,l,d || wasD no L⟩) r.mp.nd;rw [e] at this;exact this
  have c4:CMap h4 (fun b=>F b∨h.size≤b) m (putL1 no l d L) (kput ks no) (fput q no h1.size):=c3.chg t.chg (fun b g _=>by
   rcases g with rfl | hb
   ·exact .inl ⟨_,_,o3.hp⟩
   ·exact .inr (o3.ord.blk hb)) fun _ f=>f
  have i4:=CIn.mk' c4 o4 (.inl r.fp) (fun b hb=>(t.place b hb).imp (r.fo b) fun h=>Nat.le_trans hsz h) (by have h1:=putL1_len no l d L;omega) (fun y hy=>by
   rcases List.mem_cons.1 hy with rfl | hy
   ·exact hbl
   ·exact r.sm y (mem_rid.1 hy).1)
  have st4:Step F h (fun b=>(F b∨h.size≤b)∧b<h4.size) h4:=⟨(hc3.mono fun b _ hb=>by subst hb;exact r.mp.own).trans' t.chg fun b _ hb=>by
   rcases hb with rfl | hb
   ·exact r.fp
   ·exact r.fo b hb,fun b hb=>hb.1⟩
  have hno:¬no<1:=of_decide_eq_false hc;have hol:ov1.2.1=(putL1 no l d L).length:=by
   obtain ⟨a,n,c⟩:=ov1;have ho:Cap h4 1 3 (.slice a n c) ((nos (putL1 no l d L)).reverse.map iv):=o4.ord;have:=ho.sl.cells.len;simpa [nos] using this.symm
  refine HW.seq fun K11 hK11=>?_;refine HW.seq fun K12 hK12=>?_;refine HW.quiet mixed (by kernel_rfl) ?_;refine HQ.v (V.mvP rfl) rfl 48 rfl rfl ?_;refine HQ.v (V.nilCheck rfl) rfl 49 rfl rfl ?_;refine HQ.v (V.fieldAddr rfl T.fd249_0) rfl 50 rfl rfl ?_;refine HQ.v (V.fieldAddr rfl T.fd247_0) rfl 51 rfl rfl ?_;refine HQ.v (V.load rfl (load_one T.ag24 (v:=sv ov1) (cell_of t.ordr.hp 0))) rfl 52 rfl rfl ?_;refine HQ.v (V.len rfl T.el24) rfl 53 rfl rfl ?_;refine HQ.v (V.mvP rfl) rfl 54 rfl rfl ?_;refine HQ.v (V.nilCheck rfl) rfl 55 rfl rfl ?_;refine HQ.v (V.fieldAddr rfl T.fd249_1) rfl 56 rfl rfl ?_;refine HQ.v (V.load rfl (load_one T.ag3 (v:=.int .i64 room) (cell_of t.ordr.hp 1))) rfl 57 rfl rfl ?_;refine HQ.v (V.leq rfl rfl rfl) rfl 58 rfl rfl ?_;refine HQ.nil ?_;refine hK12 _ _ ?_;refine HW.cond rfl (fun hc=>?_) (fun hc=>?_)
  ·
   refine HW.seq fun K13 hK13=>?_;have hle:((putL1 no l d L).length:Int)≤room:=by have:=of_decide_eq_true hc;omega
   refine HW.region ?_;refine HO.v (V.asS rfl) rfl 8 rfl rfl ?_;refine HO.nil ?_;refine hK13 _ _ ?_;refine HW.ret ?_;refine ⟨.slice none 0 0,Res.one rfl rfl,_,(by unfold putL;rw [if_neg hno,if_pos hle];exact ⟨m,ov1,_,_,i4⟩),st4,(by unfold putA;rw [if_neg hno,if_pos hle];exact Frames.nil _)⟩
  refine HW.skip ?_;refine hK11 _ _ ?_;refine HW.seq fun K14 hK14=>?_;have hgt:¬((putL1 no l d L).length:Int)≤room:=by have:=of_decide_eq_false hc;omega
  obtain ⟨x,hlast⟩:∃x,(putL1 no l d L).getLast? = some x:=by
   cases e:(putL1 no l d L).getLast? with
   | some x=>exact ⟨x,rfl⟩
   | none=>rw [List.getLast?_eq_none_iff] at e;simp [putL1] at e
  have hxm:x∈putL1 no l d L:=List.mem_of_getLast? hlast;obtain ⟨pb,hq,hpb,hpf⟩:=i4.hpage hxm;have hhx:hit x.no (putL1 no l d L)=some x:=by
   obtain ⟨y,hy⟩:=hit_mem (List.mem_map.2 ⟨x,hxm,rfl⟩:x.no∈nos (putL1 no l d L));rw [hy,nos_inj i4.mp.nd (hit_some hy).1 hxm (hit_some hy).2]
  obtain ⟨oa,on,oc⟩:=ov1;have hoc0:Cap h4 1 3 (.slice oa on oc) ((nos (putL1 no l d L)).reverse.map iv):=o4.ord;have hol':on=(putL1 no l d L).length:=hol;obtain ⟨ob,oo,rfl,hoc⟩:=hoc0.sl.cells.pos (by rw [hol'];simp [putL1]);have hx0:((nos (putL1 no l d L)).reverse.map iv)[0]? = some (.int .i64 x.no):=by
   obtain ⟨M,hM⟩:=List.getLast?_eq_some_iff.1 hlast;rw [hM];simp [nos,iv]
  refine HW.region ?_;refine HO.v (V.mvP rfl) rfl 59 rfl rfl ?_;refine HO.v (V.nilCheck rfl) rfl 60 rfl rfl ?_;refine HO.v (V.fieldAddr rfl T.fd249_0) rfl 61 rfl rfl ?_;refine HO.v (V.fieldAddr rfl T.fd247_0) rfl 62 rfl rfl ?_;refine HO.v (V.load rfl (load_one T.ag24 (v:=sv (some ⟨ob,oo,none⟩,on,oc)) (cell_of t.ordr.hp 0))) rfl 63 rfl rfl ?_;refine HO.v (V.indexAddr1 rfl rfl T.el24 T.sz3 (by omega)) rfl 64 rfl rfl ?_;refine HO.v (V.load rfl (load_one T.ag3 (v:=.int .i64 x.no) (hoc 0 _ hx0))) rfl 65 rfl rfl ?_;refine HO.v (V.asI rfl) rfl 10 rfl rfl ?_;refine HO.nil ?_;refine hK14 _ _ ?_;refine HW.seq fun K15 hK15=>?_;refine HW.region ?_;refine HO.v (V.mvP rfl) rfl 66 rfl rfl ?_;refine HO.v (V.nilCheck rfl) rfl 67 rfl rfl ?_;refine HO.v (V.fieldAddr rfl T.fd249_2) rfl 68 rfl rfl ?_;refine HO.v (V.load rfl (load_one T.ag245 (v:=.map (some m)) (cell_of t.ordr.hp 2))) rfl 69 rfl rfl ?_;refine HO.v (V.mvI rfl) rfl 70 rfl rfl ?_;refine HO.v (V.lookupE (KV.int .i64) rfl rfl i4.mp.map (v:=ptr (fput q no h1.size x.no)) T.mp245 (inB_iff T.in3) T.zr339 ((i4.mp.get x.no).trans (by rw [hhx];rfl))) rfl 71 rfl rfl ?_;refine HO.v (V.asP rfl) rfl 11 rfl rfl ?_;refine HO.nil ?_;refine hK15 _ _ ?_;refine HW.seq fun K16 hK16=>?_;refine HW.region ?_;refine HO.v (V.mvP rfl) rfl 72 rfl rfl ?_;refine HO.v (V.mvI rfl) rfl 73 rfl rfl ?_;refine HO.c OpC.func rfl 74 rfl rfl (drop_in i4 x.no) ?_;rintro _ h5 ⟨ov5,rfl,i5,chg5⟩;refine HO.nil ?_;refine hK16 _ _ ?_;have hk5:∀b,(b=m∨b=p∨blkC (sv (some ⟨ob,oo,none⟩,on,oc)) b)→isT h4 b 341∨isT h4 b 5→False:=fun b hb ht=>by
   rcases hb with rfl | hb
   ·obtain ⟨es,cl,h1,_⟩:=i4.mp.map;rcases ht with ⟨cs,fz,h2⟩ | ⟨cs,fz,h2⟩<;>(rw [h1] at h2;injection h2 with h2;cases h2)
   ·rcases i4.kind b hb with h1 | h1<;>rcases ht with h2 | h2<;>exact absurd (h1.eq h2) (by decide)
  have hq5:h5[fput q no h1.size x.no]? = some (.cells #[sv pb,.bool x.d] 341 (0,0)):=chg5.block hq fun hb=>hk5 _ hb (.inl ⟨_,_,hq⟩);have hpb5:Cap h5 1 5 (sv pb) (x.b.map bv):=hpb.chg chg5 fun j hj hb=>hk5 _ hb (.inr (hpb.blk hj));have st5:=st4.trans (F2:=wd (fun b=>(F b∨h.size≤b)∧b<h4.size) h4.size h5.size) ⟨chg5.mono fun b _ hb=>by
   rcases hb with rfl | rfl | hb
   ·exact i4.mp.own
   ·exact i4.fp
   ·exact i4.fo b hb,fun b hb=>hb.imp id fun h=>h.1⟩
  refine HW.seq fun K17 hK17=>?_;refine HW.seq fun K18 hK18=>?_;refine HW.region ?_;refine HO.v (V.mvP rfl) rfl 75 rfl rfl ?_;refine HO.v (V.nilCheck rfl) rfl 76 rfl rfl ?_;refine HO.v (V.fieldAddr rfl T.fd341_1) rfl 77 rfl rfl ?_;refine HO.v (V.load rfl (load_one T.ag4 (v:=.bool x.d) (cell_of hq5 1))) rfl 78 rfl rfl ?_;refine HO.v (V.not rfl) rfl 79 rfl rfl ?_;refine HO.nil ?_;refine hK18 _ _ ?_;refine HW.cond rfl (fun hc=>?_) (fun hc=>?_)
  ·
   refine HW.seq fun K19 hK19=>?_;refine HW.region ?_;refine HO.v (V.asS rfl) rfl 8 rfl rfl ?_;refine HO.nil ?_;refine hK19 _ _ ?_;refine HW.ret ?_;refine ⟨.slice none 0 0,Res.one rfl rfl,_,(by unfold putL;rw [if_neg hno,if_neg hgt,←drop_last i4.mp.nd hlast];exact ⟨m,ov5,_,_,i5⟩),st5,(by unfold putA;rw [if_neg hno,if_neg hgt,hlast,told_no (by simpa using hc)];exact Frames.nil _)⟩
  refine HW.skip ?_;refine hK17 _ _ ?_;refine HW.seq fun K20 hK20=>?_;refine HW.region ?_;refine HO.v (V.mvI rfl) rfl 80 rfl rfl ?_;refine HO.v (V.mvP rfl) rfl 81 rfl rfl ?_;refine HO.v (V.nilCheck rfl) rfl 82 rfl rfl ?_;refine HO.v (V.fieldAddr rfl T.fd341_0) rfl 83 rfl rfl ?_;refine HO.v (V.load rfl (load_one T.ag44 (v:=sv pb) (cell_of hq5 0))) rfl 84 rfl rfl ?_;refine HO.v (V.build (cs:=#[.int .i64 x.no,.int .i64 0,sv pb]) T.zr277 T.pl277 rfl) rfl 85 rfl rfl ?_;refine HO.e (V.buildSlice [.tmp 85] (cs:=#[.int .i64 x.no,.int .i64 0,sv pb]) T.el252 T.sz277 T.zr277 rfl rfl rfl ⟨rfl,trivial⟩ rfl) rfl 86 rfl rfl ?_;refine HO.v (V.asS rfl) rfl 8 rfl rfl ?_;refine HO.nil ?_;refine hK20 _ _ ?_;refine HW.ret ?_;refine ⟨.slice (some ⟨h5.size,0,none⟩) 1 1,Res.one rfl rfl,_,(by unfold putL;rw [if_neg hno,if_neg hgt,←drop_last i4.mp.nd hlast];exact ⟨m,ov5,_,_,i5.chg (Ext.push _ _) fun _ _ f=>f⟩),⟨st5.chg.trans' (Ext.push _ _) fun _ _ f=>f.elim,st5.place⟩,?_⟩;have hd:x.d=true:=by simpa using hc
  unfold putA;rw [if_neg hno,if_neg hgt,hlast,told_yes hd];refine ⟨[⟨x.no,0,pb⟩],sl_new (n:=1) rfl (by omega),All2.cons ⟨rfl,rfl,?_⟩ All2.nil⟩;exact hpb5.sl.ext (Ext.push _ _)
theorem Cap.at1 {h:Heap} {e:TypeId} {b o n c:Nat} {xs:List Int} (r:Cap h 1 e (.slice (some ⟨b,o,none⟩) n c) (xs.map iv)) {i:Nat} (hi:i<xs.length):cell h b (o+i)=some (.int .i64 xs[i]):=by
 have hl:=r.sl.cells.len;obtain ⟨b',o',he,hc⟩:=r.sl.cells.pos (by simp at hl;omega);injection he with he;injection he with h1 h2;subst h1 h2;exact hc i _ (by simp [hi,iv])
structure Rv (l zs:List Int) (k:Nat):Prop where
 len:zs.length=l.length
 two:2*k≤l.length
 out:∀t,t<l.length→(t<k∨l.length-1-k<t)→zs[t]? = l[l.length-1-t]?
 mid:∀t,k≤t→t≤l.length-1-k→zs[t]? = l[t]?
theorem Rv.zero (l:List Int):Rv l l 0:=⟨rfl,by omega,fun t h1 h2=>by omega,fun _ _ _=>rfl⟩
theorem Rv.next {l zs:List Int} {k:Nat} (r:Rv l zs k) {j:Nat} (hj:j+1+k=l.length) (hk:k<j) (h1:k<zs.length) (h2:j<zs.length):Rv l ((zs.set k zs[j]).set j zs[k]) (k+1):=by
 have hl:=r.len;have e1:some zs[j]=l[l.length-1-k]?:=by rw [show l.length-1-k=j by omega,←r.mid j (by omega) (by omega)];simp [h2]
 have e2:some zs[k]=l[l.length-1-j]?:=by rw [show l.length-1-j=k by omega,←r.mid k (by omega) (by omega)];simp [h1]
 refine ⟨by simp [hl],by omega,fun t ht ho=>?_,fun t h3 h4=>?_⟩
 ·rw [List.getElem?_set,List.getElem?_set];by_cases hjt:j=t
  ·subst hjt;rw [if_pos rfl,if_pos (by simp;omega),e2]
  ·rw [if_neg hjt];by_cases hkt:k=t
   ·subst hkt;rw [if_pos rfl,if_pos h1,e1]
   ·rw [if_neg hkt,r.out t ht (by omega)]
 ·rw [List.getElem?_set,List.getElem?_set,if_neg (by omega),if_neg (by omega)];exact r.mid t (by omega) (by omega)
theorem Rv.done {l zs:List Int} {k:Nat} (r:Rv l zs k) (h:l.length≤2*k+1):zs=l.reverse:=by
 have hl:=r.len;apply List.ext_getElem?;intro t;by_cases ht:t<l.length
 ·rw [List.getElem?_reverse ht];by_cases ho:t<k∨l.length-1-k<t
  ·exact r.out t ht ho
  ·have:=r.two;rw [r.mid t (by omega) (by omega)];congr 1;omega
 ·rw [List.getElem?_eq_none (by omega),List.getElem?_eq_none (by simp;omega)]
theorem reverse_any {h:Heap} {a:Option Addr} {n c:Nat} {l:List Int} (hcap:Cap h 1 3 (.slice a n c) (l.map iv)) :
  HC Tryz.prog 315 #[.slice a n c] h (fun r h'=>r=.tuple #[]∧Cap h' 1 3 (.slice a n c) (l.reverse.map iv)∧Chg (blkC (.slice a n c)) h h'):=by
 have hle:=hcap.le;have hbd:=hcap.bd;have hln:l.length=n:=by simpa using hcap.sl.cells.len
 refine HC.body Tryz.func315 rfl (by kernel_rfl) 28 rfl rfl ?_;refine HW.seq fun K1 hK1=>?_;refine HW.region ?_;refine HO.v (V.mvS rfl) rfl 4 rfl rfl ?_;refine HO.v (V.len rfl T.el24) rfl 5 rfl rfl ?_;refine HO.v (V.sub rfl rfl (by omega)) rfl 6 rfl rfl ?_;refine HO.v (V.asI rfl) rfl 2 rfl rfl ?_;refine HO.v (V.asI rfl) rfl 3 rfl rfl ?_;refine HO.nil ?_;refine hK1 _ _ ?_;refine HW.block ?_;have htwo0:=hln;refine HW.loopm (fun m s hh=>∃k:Nat,Has s [(0,.slice a n c),(2,.int .i64 k),(3,.int .i64 ((n:Int)-1-k))]∧(∃zs:List Int,Cap hh 1 3 (.slice a n c) (zs.map iv)∧Chg (blkC (.slice a n c)) h hh∧Rv l zs k)∧m=n-k) ?_ ?_
 ·exact ⟨_,0,⟨rfl,rfl,(by show Value.int _ _=Value.int _ _;congr 1;omega),trivial⟩,⟨l,hcap,Chg.refl _ _,Rv.zero l⟩,rfl⟩
 rintro m s hh ⟨k,hs,⟨zs,hz,hch,hrv⟩,rfl⟩ J2 hJ2;refine HW.frame hs fun τ=>?_;refine HW.seq fun K3 hK3=>?_;refine HW.seq fun K4 hK4=>?_;refine HW.region ?_;refine HO.v (V.mvI rfl) rfl 7 rfl rfl ?_;refine HO.v (V.mvI rfl) rfl 8 rfl rfl ?_;refine HO.v (V.lss rfl rfl rfl) rfl 9 rfl rfl ?_;refine HO.nil ?_;refine hK4 _ _ ?_;refine HW.condr rfl (fun hc=>?_) (fun hc=>?_)
 ·
  refine HW.exit ?_;refine ⟨.tuple #[],Res.none rfl,rfl,(by have h1:=of_decide_eq_false hc;rw [←hrv.done (by omega)];exact hz),hch⟩
 refine HW.skip ?_;refine hK3 _ _ ?_;refine HW.seq fun K5 hK5=>?_;have hlt:=of_decide_eq_true hc;have htwo:=hrv.two;have hzl:=hrv.len;obtain ⟨j,hj⟩:∃j:Nat,(n:Int)-1-k=j:=⟨n-1-k,by omega⟩;have hj1:j+1+k=l.length:=by omega
 have hkj:k<j:=by omega
 have hk2:k<zs.length:=by omega
 have hj2:j<zs.length:=by omega
 obtain ⟨b,o,rfl,_⟩:=hz.sl.cells.pos (by omega);rw [hj];refine HW.block ?_;refine HW.any 13 (fun fl h=>cond fl True (Cap h 1 3 (.slice (some ⟨b,o,none⟩) n c) (zs.map iv))) mixed ?_;have hS:Cap hh 1 3 (.slice (some ⟨b,o,none⟩) n c) (zs.map iv):=hz;refine HA.p 0 rfl (by kernel_rfl) (by kernel_rfl) (by kernel_rfl) rfl rfl 14 rfl rfl (fl:=false) (by kernel_rfl) hS (fun _=>V.mvS rfl) ?_;refine HA.p 1 rfl (by kernel_rfl) (by kernel_rfl) (by kernel_rfl) rfl rfl 15 rfl rfl (fl:=false) (by kernel_rfl) hS (fun _=>V.mvI rfl) ?_;refine HA.p 2 rfl (by kernel_rfl) (by kernel_rfl) (by kernel_rfl) rfl rfl 16 rfl rfl (fl:=false) (by kernel_rfl) hS (fun _=>V.mvS rfl) ?_;refine HA.p 3 rfl (by kernel_rfl) (by kernel_rfl) (by kernel_rfl) rfl rfl 17 rfl rfl (fl:=false) (by kernel_rfl) hS (fun _=>V.mvI rfl) ?_;refine HA.p 4 rfl (by kernel_rfl) (by kernel_rfl) (by kernel_rfl) rfl rfl 18 rfl rfl (fl:=false) (by kernel_rfl) hS (fun _=>V.mvS rfl) ?_;refine HA.p 5 rfl (by kernel_rfl) (by kernel_rfl) (by kernel_rfl) rfl rfl 19 rfl rfl (fl:=false) (by kernel_rfl) hS (fun _=>V.mvI rfl) ?_;refine HA.p 6 rfl (by kernel_rfl) (by kernel_rfl) (by kernel_rfl) rfl rfl 20 rfl rfl (fl:=false) (by kernel_rfl) hS (fun _=>V.indexAddr1 rfl rfl T.el24 T.sz3 (by omega)) ?_;have hg:∀h',Cap h' 1 3 (.slice (some ⟨b,o,none⟩) n c) (zs.map iv)→LoadIs Tryz.prog h' 3 ⟨b,o+(j:Int).toNat,none⟩ (.int .i64 (zs[j]'hj2)):=fun h' hS=>load_one T.ag3 (Cap.at1 hS hj2);have hg2:∀h',Cap h' 1 3 (.slice (some ⟨b,o,none⟩) n c) (zs.map iv)→LoadIs Tryz.prog h' 3 ⟨b,o+(k:Int).toNat,none⟩ (.int .i64 (zs[k]'hk2)):=fun h' hS=>load_one T.ag3 (Cap.at1 hS hk2);refine HA.v 7 (v:=.int .i64 (zs[j]'hj2)) rfl (by kernel_rfl) (by kernel_rfl) (by kernel_rfl) rfl rfl 21 rfl rfl (fl:=false) (by kernel_rfl) hS (by kernel_rfl) (fun h' hS=>V.load rfl (hg h' hS)) ?_;refine HA.p 8 rfl (by kernel_rfl) (by kernel_rfl) (by kernel_rfl) rfl rfl 22 rfl rfl (fl:=false) (by kernel_rfl) hS (fun _=>V.mvS rfl) ?_;refine HA.p 9 rfl (by kernel_rfl) (by kernel_rfl) (by kernel_rfl) rfl rfl 23 rfl rfl (fl:=false) (by kernel_rfl) hS (fun _=>V.mvI rfl) ?_;refine HA.p 10 rfl (by kernel_rfl) (by kernel_rfl) (by kernel_rfl) rfl rfl 24 rfl rfl (fl:=false) (by kernel_rfl) hS (fun _=>V.indexAddr1 rfl rfl T.el24 T.sz3 (by omega)) ?_;refine HA.v 11 (v:=.int .i64 (zs[k]'hk2)) rfl (by kernel_rfl) (by kernel_rfl) (by kernel_rfl) rfl rfl 25 rfl rfl (fl:=false) (by kernel_rfl) hS (by kernel_rfl) (fun h' hS=>V.load rfl (hg2 h' hS)) ?_;refine HA.p 12 rfl (by kernel_rfl) (by kernel_rfl) (by kernel_rfl) rfl rfl 26 rfl rfl (fl:=false) (by kernel_rfl) hS (fun _=>V.indexAddr1 rfl rfl T.el24 T.sz3 (by omega)) ?_;refine HA.one 13 (by kernel_rfl) ?_;refine Up.ur rfl rfl rfl (V.storeCI rfl rfl T.sz3 hS (by omega)) (fl:=true) (by kernel_rfl) ?_;rintro h1 s1;refine ⟨trivial,?_⟩;refine HA.p 14 rfl (by kernel_rfl) (by kernel_rfl) (by kernel_rfl) rfl rfl 27 rfl rfl (fl:=true) (by kernel_rfl) trivial (fun _=>V.indexAddr1 rfl rfl T.el24 T.sz3 (by omega)) ?_;refine HA.one 15 (by kernel_rfl) ?_;refine Up.ur rfl rfl rfl (V.storeCI rfl rfl T.sz3 s1.cap (by omega)) (fl:=true) (by kernel_rfl) ?_;rintro h2 s2;refine ⟨trivial,?_⟩;refine HA.done (by kernel_rfl) ?_;refine hK5 _ _ ?_;refine HW.region ?_;refine HO.v (V.mvI rfl) rfl 10 rfl rfl ?_;refine HO.v (V.add rfl rfl (by omega)) rfl 11 rfl rfl ?_;refine HO.v (V.mvI rfl) rfl 12 rfl rfl ?_;refine HO.v (V.sub rfl rfl (by omega)) rfl 13 rfl rfl ?_;refine HO.v (V.asI rfl) rfl 2 rfl rfl ?_;refine HO.v (V.asI rfl) rfl 3 rfl rfl ?_;refine HO.nil ?_;refine hJ2 _ _ _ ⟨k+1,⟨rfl,rfl,(by show Value.int _ _=Value.int _ _;congr 1;omega),trivial⟩,⟨_,?_,?_,hrv.next hj1 hkj hk2 hj2⟩,rfl⟩ (by omega)
 ·have:=s2.cap;simpa [List.map_set,iv] using this
 ·refine hch.trans ((s1.chg.trans s2.chg).mono fun x _ hx=>?_);subst hx;exact ⟨o,n,c,rfl⟩
theorem pages_any {h:Heap} {F:Nat→Prop} {p:Nat} {room:Int} {L:List AP} (r:CRep h F p room L) :
  HC Tryz.prog 309 #[ptr p] h (fun v h'=>Own h h' 1 3 v ((nos L).map iv)):=by
 obtain ⟨m,ov,ks,q,r⟩:=r;refine HC.body Tryz.func309 rfl (by kernel_rfl) 15 rfl rfl ?_;refine HW.seq fun K1 hK1=>?_;refine HW.region ?_;refine HO.v (V.asS rfl) rfl 2 rfl rfl ?_;refine HO.nil ?_;refine hK1 _ _ ?_;refine HW.seq fun K2 hK2=>?_;refine HW.seq fun K3 hK3=>?_;refine HW.region ?_;refine HO.v (V.mvP rfl) rfl 4 rfl rfl ?_;refine HO.v (V.ptrEqNil rfl rfl T.pt194) rfl 5 rfl rfl ?_;refine HO.nil ?_;refine hK3 _ _ ?_;refine HW.cond rfl (fun hc=>?_) (fun hc=>?_)
 ·
  refine HW.seq fun K4 hK4=>?_;refine HW.region ?_;refine HO.v (V.asS rfl) rfl 2 rfl rfl ?_;refine HO.nil ?_;refine hK4 _ _ ?_;refine HW.ret ?_;refine ⟨.slice none 0 0,Res.one rfl rfl,(by simp at hc)⟩
 refine HW.skip ?_;refine hK2 _ _ ?_;refine HW.seq fun K5 hK5=>?_;refine HW.region ?_;refine HO.v (V.mvP rfl) rfl 6 rfl rfl ?_;refine HO.v (V.nilCheck rfl) rfl 7 rfl rfl ?_;refine HO.v (V.fieldAddr rfl T.fd249_0) rfl 8 rfl rfl ?_;refine HO.v (V.fieldAddr rfl T.fd247_0) rfl 9 rfl rfl ?_;refine HO.v (V.load rfl (load_one T.ag24 (v:=sv ov) (cell_of r.hp 0))) rfl 10 rfl rfl ?_;refine HO.c OpC.func rfl 11 rfl rfl (cloneI_any r.od.ord.sl (by have:=r.len;simp [nos];omega)) ?_;rintro _ h1 ow;obtain ⟨rb,rfl⟩:=ow.cap.form;refine HO.v (V.asS rfl) rfl 3 rfl rfl ?_;refine HO.nil ?_;refine hK5 _ _ ?_;refine HW.seq fun K6 hK6=>?_;refine HW.region ?_;refine HO.v (V.mvS rfl) rfl 12 rfl rfl ?_;refine HO.c OpC.func rfl 13 rfl rfl (reverse_any ow.cap) ?_;rintro _ h2 ⟨rfl,hcap,hchg⟩;refine HO.nil ?_;refine hK6 _ _ ?_;refine HW.seq fun K7 hK7=>?_;refine HW.region ?_;refine HO.v (V.mvS rfl) rfl 14 rfl rfl ?_;refine HO.v (V.asS rfl) rfl 2 rfl rfl ?_;refine HO.nil ?_;refine hK7 _ _ ?_;refine HW.ret ?_;refine ⟨sv rb,Res.one rfl rfl,?_⟩;rw [List.reverse_reverse] at hcap;exact ⟨hcap,ow.ext.trans' hchg fun b hb hk=>absurd (ow.fresh b hk) (by omega),ow.fresh⟩
def cl (s:List Int) (L:List AP):List AP:=L.map fun x=>if x.no∈s then ⟨x.no,x.b,false⟩ else x
theorem cl_no {s:List Int} {x:AP} : (if x.no∈s then ⟨x.no,x.b,false⟩ else x:AP).no=x.no:=by by_cases h:x.no∈s<;>simp [h]
theorem cl_b {s:List Int} {x:AP} : (if x.no∈s then ⟨x.no,x.b,false⟩ else x:AP).b=x.b:=by by_cases h:x.no∈s<;>simp [h]
theorem nos_cl (s:List Int) (L:List AP):nos (cl s L)=nos L:=by
 unfold nos cl;rw [List.map_map];exact List.map_congr_left fun x _=>cl_no
theorem cl_nil (L:List AP):cl [] L=L:=by unfold cl;simp
theorem cl_app (s t:List Int) (L:List AP):cl t (cl s L)=cl (s++t) L:=by
 unfold cl;rw [List.map_map];refine List.map_congr_left fun x _=>?_;by_cases h1:x.no∈s<;>by_cases h2:x.no∈t<;>simp [h1,h2]
theorem cl_not {no:Int} {L:List AP} (h:no∉nos L):cl [no] L=L:=by
 unfold cl;have:∀x∈L,(if x.no∈[no] then ⟨x.no,x.b,false⟩ else x:AP)=id x:=fun x hx=>by
  rw [if_neg];rfl;simp only [List.mem_singleton];exact fun e=>h (List.mem_map.2 ⟨x,hx,e⟩)
 rw [List.map_congr_left this,List.map_id]
theorem mem_cl {s:List Int} {L:List AP} {y:AP} : y∈cl s L↔∃x∈L,(if x.no∈s then ⟨x.no,x.b,false⟩ else x:AP)=y:=by unfold cl;simp
theorem CIn.clean {h:Heap} {F:Nat→Prop} {p m:Nat} {ov:SV} {room:Int} {L:List AP} {ks:List Int} {q:Int→Nat} (r:CIn h F p m ov room L ks q) {x:AP} (hx:x∈L) {pb:SV} (hq:h[q x.no]? = some (.cells #[sv pb,.bool x.d] 341 (0,0))) :
  CIn (hput h (q x.no) #[sv pb,.bool false]) F p m ov room (cl [x.no] L) ks q:=by
 have hch:Chg (fun b=>b=q x.no) h (hput h (q x.no) #[sv pb,.bool false]):=hput_chg _ _ _;have hT:isT h (q x.no) 341:=⟨_,_,hq⟩;have hbytes:∀ {b:SV} {l:List UInt8},Cap h 1 5 (sv b) (l.map bv)→Cap (hput h (q x.no) #[sv pb,.bool false]) 1 5 (sv b) (l.map bv):=fun hb=>hb.chg hch fun j hj e=>by
  subst e;exact absurd (hT.eq (hb.blk hj)) (by decide)
 refine ⟨⟨r.mp.map.chg hch fun e=>?_,fun k=>by rw [nos_cl];exact r.mp.mem k,by rw [nos_cl];exact r.mp.nd,fun y hy=>?_,fun y hy z hz e=>?_,r.mp.own⟩,?_,r.fp,r.fo,fun b hb=>by rw [hput_size];exact r.lt b hb,by unfold cl;rw [List.length_map];exact r.len,fun y hy=>?_⟩
 ·obtain ⟨es,c,h1,_⟩:=r.mp.map;rw [e,hq] at h1;injection h1 with h1;cases h1
 ·obtain ⟨z,hz,rfl⟩:=mem_cl.1 hy;obtain ⟨⟨b,h1,h2,h3⟩,h4⟩:=r.mp.pg z hz;by_cases e:z.no=x.no
  ·obtain rfl:=nos_inj r.mp.nd hz hx e;rw [if_pos (by simp)];rw [h1] at hq;injection hq with hq;injection hq with hq;injection hq with hq;simp at hq;have hqb:b=pb:=Prod.ext hq.1 (Prod.ext hq.2.1 hq.2.2);subst hqb;exact ⟨⟨b,hput_same h1,hbytes h2,h3⟩,h4⟩
  ·rw [if_neg (by simpa using e)];refine ⟨⟨b,hch.block h1 fun e2=>e (r.mp.inj z hz x hx e2),hbytes h2,h3⟩,h4⟩
 ·obtain ⟨y',hy',rfl⟩:=mem_cl.1 hy;obtain ⟨z',hz',rfl⟩:=mem_cl.1 hz;rw [cl_no,cl_no] at *;exact r.mp.inj y' hy' z' hz' e
 ·rw [nos_cl];refine r.od.chg hch (fun e=>?_) fun b hb e=>?_
  ·rw [←e] at hT;have h1:isT h p 249:=⟨_,_,r.hp⟩;exact absurd (h1.eq hT) (by decide)
  ·subst e;exact absurd (hT.eq (r.od.ord.blk hb)) (by decide)
 ·obtain ⟨z,hz,rfl⟩:=mem_cl.1 hy;rw [cl_b];exact r.sm z hz
theorem ints_page {h:Heap} {v:Value} {l:List Int} (hl:Sl h 1 v (l.map iv)) {q:Nat} {pb:SV} {d:Bool} (hq:h[q]? = some (.cells #[sv pb,.bool d] 341 (0,0))):∀b,blk v b→b≠q:=fun b hb e=>by
 subst e;obtain ⟨o,n,c,rfl,hn⟩:=hb;have hll:=hl.cells.len;obtain ⟨b',o',he,hc⟩:=hl.cells.pos hn;injection he with he;injection he with e1 e2;subst e1 e2;have hl0:0<l.length:=by simp at hll;omega
 have:=hc 0 (iv l[0]) (by simp [hl0]);rw [cell_of hq] at this;rcases o with _ | _ | o
 ·simp [iv] at this
 ·simp [iv] at this
 ·simp at this
theorem clean_any {h:Heap} {F:Nat→Prop} {p:Nat} {room:Int} {L:List AP} (r:CRep h F p room L) {lv:SV} {l:List Int} (hl:Sl h 1 (sv lv) (l.map iv)) (hN:l.length≤1000000000) :
  HC Tryz.prog 306 #[ptr p,sv lv] h (fun v h'=>v=.tuple #[]∧CRep h' F p room (cl (if l=[] then (nos L).reverse else l) L)∧Chg F h h'):=by
 obtain ⟨mb,ov,ks,q,r⟩:=r;obtain ⟨ll,hll⟩:∃ll,ll=if l=[] then (nos L).reverse else l:=⟨_,rfl⟩
 have hln:l.length=lv.2.1:=by
  obtain ⟨a,n,c⟩:=lv;have hl':Sl h 1 (.slice a n c) (l.map iv):=hl;simpa using hl'.cells.len
 have hlb:ll.length≤1000000000:=by
  subst hll;by_cases e:l=[]
  ·rw [if_pos e];have:=r.len;simp [nos];omega
  ·rw [if_neg e];exact hN
 rw [←hll];refine HC.body Tryz.func306 rfl (by kernel_rfl) 35 rfl rfl ?_;refine HW.seq fun K1 hK1=>?_;refine HW.seq fun K2 hK2=>?_;refine HW.region ?_;refine HO.v (V.mvP rfl) rfl 7 rfl rfl ?_;refine HO.v (V.ptrEqNil rfl rfl T.pt194) rfl 8 rfl rfl ?_;refine HO.nil ?_;refine hK2 _ _ ?_;refine HW.cond rfl (fun hc=>?_) (fun hc=>?_)
 ·
  refine HW.ret ?_;refine ⟨.tuple #[],Res.none rfl,(by simp at hc)⟩
 refine HW.skip ?_;refine hK1 _ _ ?_;refine HW.seqc (fun s hh=>∃lv2:SV,Has s [(0,ptr p),(1,sv lv2)]∧h=hh∧Sl h 1 (sv lv2) (ll.map iv)) ?_ ?_
 ·
  refine HW.seq fun K4 hK4=>?_;refine HW.region ?_;refine HO.v (V.mvS rfl) rfl 9 rfl rfl ?_;refine HO.v (V.len rfl T.el24) rfl 10 rfl rfl ?_;refine HO.v (V.eql rfl rfl rfl) rfl 11 rfl rfl ?_;refine HO.nil ?_;refine hK4 _ _ ?_;refine HW.condr rfl (fun hc=>?_) (fun hc=>?_)
  ·
   refine HW.skip ?_;refine ⟨lv,⟨rfl,rfl,trivial⟩,rfl,by rw [hll,if_neg (fun e=>by have h1:=of_decide_eq_false hc;rw [e] at hln;simp at hln;omega)];exact hl⟩
  refine HW.region ?_;refine HO.v (V.mvP rfl) rfl 12 rfl rfl ?_;refine HO.v (V.nilCheck rfl) rfl 13 rfl rfl ?_;refine HO.v (V.fieldAddr rfl T.fd249_0) rfl 14 rfl rfl ?_;refine HO.v (V.fieldAddr rfl T.fd247_0) rfl 15 rfl rfl ?_;refine HO.v (V.load rfl (load_one T.ag24 (v:=sv ov) (cell_of r.hp 0))) rfl 16 rfl rfl ?_;refine HO.v (V.asS rfl) rfl 1 rfl rfl ?_;refine HO.nil ?_;refine ⟨ov,⟨rfl,rfl,trivial⟩,rfl,by rw [hll,if_pos (List.length_eq_zero_iff.1 (by have h1:=of_decide_eq_true hc;omega))];exact r.od.ord.sl⟩
 rintro s hh ⟨⟨a,n,c⟩,hs,rfl,hl2⟩;have hl3:Sl h 1 (.slice a n c) (ll.map iv):=hl2;have hnl:ll.length=n:=by simpa using hl3.cells.len
 refine HW.frame hs fun τ=>?_;refine HW.seq fun K5 hK5=>?_;refine HW.region ?_;refine HO.v (V.mvS rfl) rfl 17 rfl rfl ?_;refine HO.v (V.len rfl T.el24) rfl 18 rfl rfl ?_;refine HO.v (V.mvI rfl) rfl 19 rfl rfl ?_;refine HO.nil ?_;refine hK5 _ _ ?_;refine HW.block ?_;refine HW.loopm (fun m s hh=>∃k:Nat,Has s [(0,ptr p),(17,.slice a n c),(18,.int .i64 n),(19,.int .i64 k)]∧CIn hh F p mb ov room (cl (ll.take k) L) ks q∧Sl hh 1 (.slice a n c) (ll.map iv)∧Chg F h hh∧k≤n∧m=n-k) ?_ ?_
 ·exact ⟨_,0,⟨rfl,rfl,rfl,rfl,trivial⟩,(by rw [List.take_zero,cl_nil];exact r),hl2,Chg.refl _ _,by omega,rfl⟩
 rintro m s hh ⟨k,hs,rk,hlk,chk,hkn,rfl⟩ J6 hJ6;refine HW.frame hs fun τ=>?_;refine HW.seq fun K7 hK7=>?_;refine HW.region ?_;refine HO.v (V.lss rfl rfl rfl) rfl 20 rfl rfl ?_;refine HO.nil ?_;refine hK7 _ _ ?_;refine HW.seq fun K8 hK8=>?_;refine HW.condr rfl (fun hc=>?_) (fun hc=>?_)
 ·
  refine HW.exit ?_;refine ⟨.tuple #[],Res.none rfl,rfl,⟨mb,ov,ks,q,(by have h1:=of_decide_eq_false hc;rw [List.take_of_length_le (by omega)] at rk;exact rk)⟩,chk⟩
 refine HW.skip ?_;refine hK8 _ _ ?_;refine HW.seq fun K9 hK9=>?_;have hkn':=of_decide_eq_true hc;have hk2:k<ll.length:=by omega
 have htk:ll.take (k+1)=ll.take k++[ll[k]]:=take_next hk2;obtain ⟨b,o,rfl,hcell⟩:=hlk.cells.pos (by omega);refine HW.block ?_;refine HW.seq fun K10 hK10=>?_;refine HW.region ?_;refine HO.v (V.indexAddr1 rfl rfl T.el24 T.sz3 (by omega)) rfl 21 rfl rfl ?_;refine HO.v (V.load rfl (load_one T.ag3 (v:=iv ll[k]) (hcell k _ (by simp [hk2])))) rfl 22 rfl rfl ?_;refine HO.v (V.asI rfl) rfl 5 rfl rfl ?_;refine HO.nil ?_;refine hK10 _ _ ?_;refine HW.seq fun K11 hK11=>?_;refine HW.region ?_;refine HO.v (V.mvP rfl) rfl 23 rfl rfl ?_;refine HO.v (V.nilCheck rfl) rfl 24 rfl rfl ?_;refine HO.v (V.fieldAddr rfl T.fd249_2) rfl 25 rfl rfl ?_;refine HO.v (V.load rfl (load_one T.ag245 (v:=.map (some mb)) (cell_of rk.hp 2))) rfl 26 rfl rfl ?_;refine HO.v (V.mvI rfl) rfl 27 rfl rfl ?_;refine HO.v (V.lookupE (KV.int .i64) rfl rfl rk.mp.map T.mp245 (inB_iff T.in3) T.zr339 (rk.mp.get ll[k])) rfl 28 rfl rfl ?_;refine HO.v (V.asP rfl) rfl 6 rfl rfl ?_;refine HO.nil ?_;refine hK11 _ _ ?_;refine HW.seq fun K12 hK12=>?_;refine HW.region ?_;refine HO.v (V.mvP rfl) rfl 29 rfl rfl ?_;refine HO.v (V.ptrNeNil rfl rfl T.pt339) rfl 30 rfl rfl ?_;refine HO.nil ?_;refine hK12 _ _ ?_;refine HW.condr rfl (fun hc=>?_) (fun hc=>?_)
 ·
  refine HW.skip ?_;refine hK9 _ _ ?_;refine HW.region ?_;refine HO.v (V.add rfl rfl (by omega)) rfl 34 rfl rfl ?_;refine HO.v (V.mvI rfl) rfl 19 rfl rfl ?_;refine HO.nil ?_;refine hJ6 _ _ _ ⟨k+1,⟨rfl,rfl,rfl,rfl,trivial⟩,(by rw [htk,←cl_app,cl_not (fun hm=>by obtain ⟨x,hx⟩:=hit_mem hm;rw [hx] at hc;simp at hc)];exact rk),hlk,chk,by omega,rfl⟩ (by omega)
 have hx:∃x,hit ll[k] (cl (ll.take k) L)=some x:=by
  cases e:hit ll[k] (cl (ll.take k) L) with
  | some x=>exact ⟨x,rfl⟩
  | none=>rw [e] at hc;simp at hc
 obtain ⟨x,hx⟩:=hx;obtain ⟨hxm,hxn⟩:=hit_some hx;obtain ⟨pb,hq',_⟩:=rk.hpage hxm;have hq:=hq';rw [hxn] at hq;rw [hx];refine HW.region ?_;refine HO.v (V.mvP rfl) rfl 31 rfl rfl ?_;refine HO.v (V.nilCheck rfl) rfl 32 rfl rfl ?_;refine HO.v (V.fieldAddr rfl T.fd341_1) rfl 33 rfl rfl ?_;refine HO.u (V.storeB (cs':=#[sv pb,.bool false]) rfl rfl T.sz4 hq (by simp) (by simp) rfl) rfl rfl ?_;refine HO.nil ?_;refine hK9 _ _ ?_;refine HW.region ?_;refine HO.v (V.add rfl rfl (by omega)) rfl 34 rfl rfl ?_;refine HO.v (V.mvI rfl) rfl 19 rfl rfl ?_;refine HO.nil ?_;refine hJ6 _ _ _ ⟨k+1,⟨rfl,rfl,rfl,rfl,trivial⟩,(by rw [htk,←cl_app,←hxn];exact rk.clean hxm hq'),hlk.chg (hput_chg _ _ _) (ints_page hlk hq),chk.trans ((hput_chg _ _ _).mono fun b _ hb=>by rw [hb,←hxn];exact (rk.mp.pg x hxm).own),by omega,rfl⟩ (by omega)
def dr (s:List Int) (L:List AP):List AP:=L.filter fun x=>decide (x.no∉s)
theorem dr_nil (L:List AP):dr [] L=L:=by unfold dr;simp
theorem dr_app (s:List Int) (no:Int) (L:List AP):rid no (dr s L)=dr (s++[no]) L:=by
 unfold rid dr;rw [List.filter_filter];apply List.filter_congr;intro x _;by_cases h1:x.no∈s<;>by_cases h2:x.no=no<;>simp [h1,h2]
theorem ints_lt {h:Heap} {v:Value} {l:List Int} (hl:Sl h 1 v (l.map iv)):∀b,blk v b→b<h.size:=fun b hb=>by
 obtain ⟨o,n,c,rfl,hn⟩:=hb;have hll:=hl.cells.len;obtain ⟨b',o',he,hc⟩:=hl.cells.pos hn;injection he with he;injection he with e1 e2;subst e1 e2;have hl0:0<l.length:=by simp at hll;omega
 exact cell_lt (hc 0 (iv l[0]) (by simp [hl0]))
theorem Step.refl (F:Nat→Prop) (h:Heap):Step F h F h:=⟨Chg.refl _ _,fun _ hb=>.inl hb⟩
theorem Step.ext {F F':Nat→Prop} {h h1 h2:Heap} (e:Ext h h1) (s:Step F h1 F' h2):Step F h F' h2:=
 ⟨e.to.trans s.chg,fun b hb=>(s.place b hb).imp id fun k=>Nat.le_trans e.size k⟩
theorem blk_blkC {v:Value} {b:Nat} (h:blk v b):blkC v b:=let ⟨o,n,c,e,_⟩:=h;⟨o,n,c,e⟩
theorem dropl_any {h:Heap} {F:Nat→Prop} {p:Nat} {room:Int} {L:List AP} (r:CRep h F p room L) {lv:SV} {l:List Int} (hl:Sl h 1 (sv lv) (l.map iv)) (hN:l.length≤1000000000) (hd:∀b,blk (sv lv) b→¬F b) :
  HC Tryz.prog 286 #[ptr p,sv lv] h (fun v h'=>∃F',v=.tuple #[]∧CRep h' F' p room (dr (if l=[] then (nos L).reverse else l) L)∧Step F h F' h'):=by
 obtain ⟨mb,ov,ks,q,r⟩:=r;obtain ⟨ll,hll⟩:∃ll,ll=if l=[] then (nos L).reverse else l:=⟨_,rfl⟩
 have hln:l.length=lv.2.1:=by
  obtain ⟨a,n,c⟩:=lv;have hl':Sl h 1 (.slice a n c) (l.map iv):=hl;simpa using hl'.cells.len
 have hlb:ll.length≤1000000000:=by
  subst hll;by_cases e:l=[]
  ·rw [if_pos e];have:=r.len;simp [nos];omega
  ·rw [if_neg e];exact hN
 rw [←hll];refine HC.body Tryz.func286 rfl (by kernel_rfl) 27 rfl rfl ?_;refine HW.seq fun K1 hK1=>?_;refine HW.seq fun K2 hK2=>?_;refine HW.region ?_;refine HO.v (V.mvP rfl) rfl 6 rfl rfl ?_;refine HO.v (V.ptrEqNil rfl rfl T.pt194) rfl 7 rfl rfl ?_;refine HO.nil ?_;refine hK2 _ _ ?_;refine HW.cond rfl (fun hc=>?_) (fun hc=>?_)
 ·
  refine HW.ret ?_;refine ⟨.tuple #[],Res.none rfl,(by simp at hc)⟩
 refine HW.skip ?_;refine hK1 _ _ ?_;refine HW.seqc (fun s hh=>∃lv2:SV,Has s [(0,ptr p),(1,sv lv2)]∧Ext h hh∧Sl hh 1 (sv lv2) (ll.map iv)∧∀b,blk (sv lv2) b→¬F b) ?_ ?_
 ·
  refine HW.seq fun K4 hK4=>?_;refine HW.region ?_;refine HO.v (V.mvS rfl) rfl 8 rfl rfl ?_;refine HO.v (V.len rfl T.el24) rfl 9 rfl rfl ?_;refine HO.v (V.eql rfl rfl rfl) rfl 10 rfl rfl ?_;refine HO.nil ?_;refine hK4 _ _ ?_;refine HW.condr rfl (fun hc=>?_) (fun hc=>?_)
  ·
   refine HW.skip ?_;refine ⟨lv,⟨rfl,rfl,trivial⟩,Ext.refl _,(by rw [hll,if_neg (fun e=>by have h1:=of_decide_eq_false hc;rw [e] at hln;simp at hln;omega)];exact hl),hd⟩
  refine HW.region ?_;refine HO.v (V.mvP rfl) rfl 11 rfl rfl ?_;refine HO.v (V.nilCheck rfl) rfl 12 rfl rfl ?_;refine HO.v (V.fieldAddr rfl T.fd249_0) rfl 13 rfl rfl ?_;refine HO.v (V.fieldAddr rfl T.fd247_0) rfl 14 rfl rfl ?_;refine HO.v (V.load rfl (load_one T.ag24 (v:=sv ov) (cell_of r.hp 0))) rfl 15 rfl rfl ?_;refine HO.c OpC.func rfl 16 rfl rfl (cloneI_any r.od.ord.sl (by have:=r.len;simp [nos];omega)) ?_;rintro _ h1 ow;obtain ⟨g,rfl⟩:=ow.cap.form;refine HO.v (V.asS rfl) rfl 1 rfl rfl ?_;refine HO.nil ?_;refine ⟨g,⟨rfl,rfl,trivial⟩,ow.ext,(by rw [hll,if_pos (List.length_eq_zero_iff.1 (by have h1:=of_decide_eq_true hc;omega))];exact ow.sl),fun b hb f=>by have h2:=ow.fresh b (blk_blkC hb);have:=r.lt b f;omega⟩
 rintro s hh1 ⟨⟨a,n,c⟩,hs,x1,hl2,hd2⟩;have hl3:Sl hh1 1 (.slice a n c) (ll.map iv):=hl2;have hnl:ll.length=n:=by simpa using hl3.cells.len
 refine HW.frame hs fun τ=>?_;refine HW.seq fun K5 hK5=>?_;refine HW.region ?_;refine HO.v (V.mvS rfl) rfl 17 rfl rfl ?_;refine HO.v (V.len rfl T.el24) rfl 18 rfl rfl ?_;refine HO.v (V.mvI rfl) rfl 19 rfl rfl ?_;refine HO.nil ?_;refine hK5 _ _ ?_;refine HW.block ?_;refine HW.loopm (fun m s hh=>∃k:Nat,Has s [(0,ptr p),(17,.slice a n c),(18,.int .i64 n),(19,.int .i64 k)]∧∃Fk,CRep hh Fk p room (dr (ll.take k) L)∧Sl hh 1 (.slice a n c) (ll.map iv)∧Step F hh1 Fk hh∧(∀b,blk (.slice a n c) b→¬Fk b)∧k≤n∧m=n-k) ?_ ?_
 ·exact ⟨_,0,⟨rfl,rfl,rfl,rfl,trivial⟩,F,⟨mb,ov,ks,q,(by rw [List.take_zero,dr_nil];exact r.chg x1 fun _ _ f=>f)⟩,hl2,Step.refl _ _,hd2,by omega,rfl⟩
 rintro m s hh ⟨k,hs,Fk,⟨mk,ovk,ksk,qk,rk⟩,hlk,stk,hdk,hkn,rfl⟩ J6 hJ6;refine HW.frame hs fun τ=>?_;refine HW.seq fun K7 hK7=>?_;refine HW.region ?_;refine HO.v (V.lss rfl rfl rfl) rfl 20 rfl rfl ?_;refine HO.nil ?_;refine hK7 _ _ ?_;refine HW.seq fun K8 hK8=>?_;refine HW.condr rfl (fun hc=>?_) (fun hc=>?_)
 ·
  refine HW.exit ?_;refine ⟨.tuple #[],Res.none rfl,Fk,rfl,⟨mk,ovk,ksk,qk,(by have h1:=of_decide_eq_false hc;rw [List.take_of_length_le (by omega)] at rk;exact rk)⟩,Step.ext x1 stk⟩
 refine HW.skip ?_;refine hK8 _ _ ?_;refine HW.seq fun K9 hK9=>?_;have hkn':=of_decide_eq_true hc;have hk2:k<ll.length:=by omega
 have htk:ll.take (k+1)=ll.take k++[ll[k]]:=take_next hk2;obtain ⟨b,o,rfl,hcell⟩:=hlk.cells.pos (by omega);refine HW.block ?_;refine HW.seq fun K10 hK10=>?_;refine HW.region ?_;refine HO.v (V.indexAddr1 rfl rfl T.el24 T.sz3 (by omega)) rfl 21 rfl rfl ?_;refine HO.v (V.load rfl (load_one T.ag3 (v:=iv ll[k]) (hcell k _ (by simp [hk2])))) rfl 22 rfl rfl ?_;refine HO.v (V.asI rfl) rfl 5 rfl rfl ?_;refine HO.nil ?_;refine hK10 _ _ ?_;refine HW.region ?_;refine HO.v (V.mvP rfl) rfl 23 rfl rfl ?_;refine HO.v (V.mvI rfl) rfl 24 rfl rfl ?_;refine HO.c OpC.func rfl 25 rfl rfl (drop_in rk ll[k]) ?_;rintro _ h3 ⟨ov3,rfl,r3,ch3⟩;refine HO.nil ?_;refine hK9 _ _ ?_;refine HW.region ?_;refine HO.v (V.add rfl rfl (by omega)) rfl 26 rfl rfl ?_;refine HO.v (V.mvI rfl) rfl 19 rfl rfl ?_;refine HO.nil ?_;refine hJ6 _ _ _ ⟨k+1,⟨rfl,rfl,rfl,rfl,trivial⟩,wd Fk hh.size h3.size,⟨mk,ov3,_,qk,(by rw [htk,←dr_app];exact r3)⟩,?_,?_,?_,by omega,rfl⟩ (by omega)
 ·refine hlk.chg ch3 fun b hb g=>hdk b hb ?_;rcases g with rfl | rfl | g
  ·exact rk.mp.own
  ·exact rk.fp
  ·exact rk.fo b g
 ·refine stk.trans ⟨ch3.mono fun b _ g=>?_,fun b hb=>hb.imp id fun h=>h.1⟩;rcases g with rfl | rfl | g
  ·exact rk.mp.own
  ·exact rk.fp
  ·exact rk.fo b g
 ·rintro b hb (g | g)
  ·exact hdk b hb g
  ·have:=ints_lt hlk b hb;omega
end Go.Proofs.YtndlpekckpdncaaGreat
