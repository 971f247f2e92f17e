/- The pager that logs ahead: frames are put behind the log, and the mark counts them. Conditions: the pages can be read. The pager that logs ahead: the present pages become the sure ones. Conditions: the numbers are small. slices.Sort on ints that the caller owns. Conditions: not too many. The pager that logs ahead: may a transaction be committed, and which of its pages are unlike the sure ones. Conditions: the pager is in order. A pager in memory behind what commits and checkpoints do: it is still tied to the one in plain terms. Conditions: those that each fact names. The pager that logs ahead: a transaction is committed; the log is carried over when it is told so. Conditions: the pager is in order, on its disk too. A disk's crash. Conditions: the disk is in order, its changes few, the bytes readable. A disk, and a pager that logs ahead with its disk, each as one item that is told in plain terms alone; their calls so. Conditions: those that each fact names. The document's pager: Pages, Begin, Read, Rollback, Checkpoint, Open, Write, Resize; Same of pages. Conditions: the state is readable. The document's pager: Resize, Unlike, Commit; Same of pages. Conditions: the state is readable, and small. The pager that logs ahead and the document's pager, call by call, in plain terms: they tell the same, and stay the same; or the power went. Conditions: those that each fact names. The calls of a pager that logs ahead, told in plain terms alone. Conditions: the pager with its disk is one item, and few changes were made. The laws' calls on a pager that logs ahead and on the document's: Write of bytes that are turned behind it. Conditions: both are in order. A call of the laws, done to a pager that logs ahead and to the document's. Conditions: both are in order. -/
import Derived.Test.YtpeaicddbnghfaaGreatPkA7
set_option maxRecDepth 100000
set_option maxHeartbeats 2000000
set_option linter.all false
namespace Go.Proofs.YtpeaicddbnghfaaGreat
open Go Go.HL
theorem alog_any {h:Heap} {p:Nat} {r:RA} {a:Option Addr} {c:Nat} {now:List (List UInt8)} {ns:List Nat} {Fl El Q E:Nat→Prop} (ok:Hp h (pagI p r).F [pagI p r] [bysI E r.rd.fs,pbsI Q r.bs,rdI Fl El (a,(pgL ns).length,c) (pgL ns)] h) (hk:DkOk r.rd.abs) (hcg:r.rd.chg<500000000) (hP:PutP r now ns) :
  HC Tryz.prog 119 #[.pointer (some ⟨p,0,none⟩),.slice a (pgL ns).length c] h (fun v h'=>((begN r.rd.abs r.nd r.link r.size).1.2≠0∧v=.int .i64 ((begN r.rd.abs r.nd r.link r.size).1.2:Int)∧∃rd' E',rd'.abs=(begN r.rd.abs r.nd r.link r.size).1.1∧PUp h h' p r (r.disk rd') E E')∨((begN r.rd.abs r.nd r.link r.size).1.2=0∧(putD (begN r.rd.abs r.nd r.link r.size).1.1 r.fr (begN r.rd.abs r.nd r.link r.size).2.1 (begN r.rd.abs r.nd r.link r.size).2.2 (frmsN now ns)).1.2≠0∧v=.int .i64 ((putD (begN r.rd.abs r.nd r.link r.size).1.1 r.fr (begN r.rd.abs r.nd r.link r.size).2.1 (begN r.rd.abs r.nd r.link r.size).2.2 (frmsN now ns)).1.2:Int)∧∃rd' at' cF' E',rd'.abs=(putD (begN r.rd.abs r.nd r.link r.size).1.1 r.fr (begN r.rd.abs r.nd r.link r.size).2.1 (begN r.rd.abs r.nd r.link r.size).2.2 (frmsN now ns)).1.1∧PUp h h' p r { r with rd:=rd',nd:=(begN r.rd.abs r.nd r.link r.size).2.1,link:=(begN r.rd.abs r.nd r.link r.size).2.2,at_:=at',cF:=cF' } E E')∨((begN r.rd.abs r.nd r.link r.size).1.2=0∧(putD (begN r.rd.abs r.nd r.link r.size).1.1 r.fr (begN r.rd.abs r.nd r.link r.size).2.1 (begN r.rd.abs r.nd r.link r.size).2.2 (frmsN now ns)).1.2=0∧v=.int .i64 0∧∃rd' cF' E',rd'.abs=(putD (begN r.rd.abs r.nd r.link r.size).1.1 r.fr (begN r.rd.abs r.nd r.link r.size).2.1 (begN r.rd.abs r.nd r.link r.size).2.2 (frmsN now ns)).1.1∧PUp h h' p r { r with rd:=rd',fr:=r.fr+ns.length,nd:=(putD (begN r.rd.abs r.nd r.link r.size).1.1 r.fr (begN r.rd.abs r.nd r.link r.size).2.1 (begN r.rd.abs r.nd r.link r.size).2.2 (frmsN now ns)).2.1,link:=(putD (begN r.rd.abs r.nd r.link r.size).1.1 r.fr (begN r.rd.abs r.nd r.link r.size).2.1 (begN r.rd.abs r.nd r.link r.size).2.2 (frmsN now ns)).2.2,at_:=atsN r.size r.at_ (begN r.rd.abs r.nd r.link r.size).2.1 ns,cF:=cF' } E E')):=by
 have hlc:=ok.r2.c;have hlm:=ok.r2.m;simp only at hlc hlm;have hpl:(pgL ns).length=ns.length:=pgL_len;have hfit:=hP.fit;have hfr:=hP.fr;have hlim:=hP.lim;have hmR:=hP.many;have hcs:=okSz_cases hP.sz;refine HC.go Tryz.func119 171 ?_;refine .seq<|.r<|.z .asI<|.nil ?_;refine .seq<|.seq<|.r<|.z .mvP<|.c' 23 .func (begin_any (p:=p) (r:=r) (E:=E) (ok).loc1 hk (show r.rd.chg<550000000 by omega) hP.sz) ?_;rintro _ η1 (⟨heb1,rfl,rdb1,Eb1,hab1,upb1⟩ | ⟨heb1,rfl,rdb1,Eb1,hab1,upb1⟩)
 ·
  replace hab1:rdb1.abs=(begN r.rd.abs r.nd r.link r.size).1.1:=hab1;have hzb1:=(ok).chg.size;have ok:=(ok).pag upb1;have hnb1:=fun j hj=>(upb1.new j hj).elim ((fun _ h=>Or.inl h) j) fun h1=>Or.inr (Nat.le_trans hzb1 h1);have hkb1:DkOk rdb1.abs:=by rw [hab1];exact (hk).begn
  have hcb1:rdb1.chg≤r.rd.chg+1:=Int.le_trans (Int.le_of_eq (congrArg Dk.chg hab1)) beg_chg;refine .z .asI<|.nil ?_;refine .seq<|.r<|.z .mvI<|.z .neq<|.nil ?_;refine .cf<|.skip<|.seq<|?_;have ok:=(ok).popn;refine .q (hm:=mixed)<|.z .mvP<|.z .nil<|.z (.fa T.fd119_0)<|.z (.fa T.fd114_1)<|.z (.ldx T.ag3 ok.m0)<|.z .mvP<|.z .nil<|.z (.fa T.fd119_0)<|.z (.fa T.fd114_2)<|.z (.ldx T.ag77 ok.m0)<|.z .asI<|.z .asI<|.nil ?_;refine .seq<|.seq<|.r<|.z .mvS<|.z (.len T.el167)<|.z .mvI<|?_;have ok:=Hp.pcls (p:=p) (at_:=r.at_) (bs:=r.bs) (ok);refine .nil ?_;refine .block fun K0 hK0=>.loop (fun m s hh=>∃(i:Nat) (rdi:RD) (Ei:Nat→Prop) (ati:List (Int × Nat)) (cFi:Nat→Prop) (ei pi:Nat),Has s [(0,.pointer (some ⟨p,0,none⟩)),(1,.slice a ((pgL ns).length) c),(6,.int .i64 (ei:Int)),(7,.int .u64 (pi:Int)),(37,.slice a ((pgL ns).length) c),(38,.int .i64 (((pgL ns).length:Nat):Int)),(39,.int .i64 (i:Int))]∧Hp h (pagI p r).F [pagI p (⟨r.fr,(begN r.rd.abs r.nd r.link r.size).2.1,(begN r.rd.abs r.nd r.link r.size).2.2,r.am,ati,r.in_,r.many,r.bm,r.bs,r.d,rdi,r.size,r.sure,r.c,cFi,r.S,r.dark⟩:RA)] [bysI Ei rdi.fs,pbsI Q r.bs,rdI Fl El (a,(pgL ns).length,c) (pgL ns)] hh∧i≤ns.length∧logsN (begN r.rd.abs r.nd r.link r.size).1.1 (begN r.rd.abs r.nd r.link r.size).2.1 (begN r.rd.abs r.nd r.link r.size).2.2 ((frmsN now ns).take i)=((rdi.abs,0),ei,pi)∧ei=(begN r.rd.abs r.nd r.link r.size).2.1+i*(16+r.size)∧ati=atsN r.size r.at_ (begN r.rd.abs r.nd r.link r.size).2.1 (ns.take i)∧pi<18446744073709551616∧DkOk rdi.abs∧rdi.chg≤r.rd.chg+1+i∧(∀j,Ei j→E j∨h.size≤j)∧m=ns.length-i) ?_ ?_
  ·exact ⟨_,0,rdb1,Eb1,r.at_,r.cF,(begN r.rd.abs r.nd r.link r.size).2.1,(begN r.rd.abs r.nd r.link r.size).2.2,⟨rfl,rfl,rfl,rfl,rfl,rfl,rfl,trivial⟩,ok,Nat.zero_le _,(by rw [hab1];rfl),(by simp),rfl,hP.link,hkb1,by omega,hnb1,rfl⟩
  rintro _ _ η2 ⟨i,rdi,Ei,ati,cFi,ei,pi,hs,ok,hi,hli,hei,hati,hpi,hki,hci,hni,rfl⟩ J0 hJ0;refine .frame hs fun τ=>?_;refine .seq<|.r<|.z .lss<|.nil ?_;refine .seq<|.cdr (fun C1=>?_) (fun C1=>?_)
  ·
   refine .exit<|hK0 _ _<|.seq<|.seq<|?_;have ok:=(ok).popn;have hli:logsN (begN r.rd.abs r.nd r.link r.size).1.1 (begN r.rd.abs r.nd r.link r.size).2.1 (begN r.rd.abs r.nd r.link r.size).2.2 (frmsN now ns)=((rdi.abs,0),ei,pi):=by rw [←hli,List.take_of_length_le (by rw [frmsN_len];omega)]
   have hatl:ati=atsN r.size r.at_ (begN r.rd.abs r.nd r.link r.size).2.1 ns:=by rw [hati,List.take_of_length_le (by omega)]
   refine .r<|.z .mvP<|.z .nil<|.z (.fa T.fd119_2)<|.z (.ldx T.ag30 ok.m0)<|.c' 109 .func (sync_any (d:=r.d) (r:=rdi) (E:=Ei) (n:=nL) (ok.n4).loc1 hki (by omega)) ?_;rintro _ η3 ⟨rw1,Ew1,rfl,haw1,upw1⟩;have hzw1:=(ok).chg.size;have ok:=(ok.n4).dsk (d:=r.d) (r:=rdi) upw1;have hkw1:DkOk rw1.abs:=by rw [haw1];exact (hki).sync
   have hcw1:rw1.chg≤rdi.chg+1:=Int.le_trans (Int.le_of_eq (congrArg Dk.chg haw1)) sync_chg;have hnw1:=fun j hj=>(upw1.new j hj).elim (hni j) fun h1=>Or.inr (Nat.le_trans hzw1 h1);have hsa:=haw1;refine .z .asI<|.nil ?_;refine .seq<|.r<|.z .mvI<|.z .neq<|.nil ?_;refine .cd (fun C5=>?_) (fun C5=>?_)
   ·
    refine .seq<|.r<|.z .mvI<|.z .asI<|.nil ?_;have hG1:(putD (begN r.rd.abs r.nd r.link r.size).1.1 r.fr (begN r.rd.abs r.nd r.link r.size).2.1 (begN r.rd.abs r.nd r.link r.size).2.2 (frmsN now ns)).1=syncN rdi.abs nL:=putD_s hli (by omega);have ok:=Hp.pcls (p:=p) (at_:=ati) (bs:=r.bs) (ok.n4.n4.n4.n4);refine .ret ⟨.int .i64 ((syncN rdi.abs nL).2:Int),Res.one rfl rfl,.inr (.inl ⟨heb1,by rw [hG1];omega,by rw [hG1],rw1,ati,cFi,Ew1,by rw [hG1];exact haw1,((ok).k1.e1).pup hnw1⟩)⟩
   have hsy:syncN rdi.abs nL=(rw1.abs,0):=Prod.ext hsa.symm (by omega);refine .skip<|.seq<|?_;have hmk:=hP.mrk;rw [hli,thenN_0 (a:=(rdi.abs,0)) rfl,hsy] at hmk;simp only at hmk;have hmb:=sizeN_lt (n:=nM) (d:=rw1.abs) (by assumption);refine .r<|.z .mvP<|.z .nil<|.z (.fa T.fd119_2)<|.z (.ldx T.ag30 ok.m1)<|.k 118 .func (size_anyD (d:=r.d) (r:=rw1) (n:=nM) (ok.m0))<|.z .mvU<|.z .ex<|.z .ex<|.z .asI<|.z .asB<|.nil ?_;refine .seq<|.seq<|.a 19 (fun fl hh=>Hp h (pagI p r).F [boxI p 119 [.int .i64 (r.fr:Int),.int .i64 ((begN r.rd.abs r.nd r.link r.size).2.1:Int),.int .u64 ((begN r.rd.abs r.nd r.link r.size).2.2:Int),.map (some r.am),.bool r.in_,.int .i64 (r.many:Int),.map r.bm,.pointer (some ⟨r.d,0,none⟩),.int .i64 (r.size:Int),.int .i64 (r.sure:Int),.pointer (some ⟨r.c,0,none⟩),.bool r.dark]] [] hh) mixed ?_;have hS:=ok.n1.k1.tR.tR.tR;refine .g 0 false rfl 121 hS (fun _=>.mvP)<|.g 1 false rfl 122 hS (fun _=>.nil)<|.g 2 false rfl 123 hS (fun _=>.fa T.fd119_2)<|.lw 3 false rfl 124 hS (fun _ _ hS=>.ldx T.ag30 hS.m0)<|.g 4 false rfl 125 hS (fun _=>.mvI)<|.g 5 false rfl 126 hS (fun _=>.mvP)<|.g 6 false rfl 127 hS (fun _=>.nil)<|.g 7 false rfl 128 hS (fun _=>.fa T.fd119_0)<|.g 8 false rfl 129 hS (fun _=>.fa T.fd114_0)<|.lw 9 false rfl 130 hS (fun _ _ hS=>.ldx T.ag3 hS.m0)<|.g 10 false rfl 131 hS (fun _=>.addI (a:=1))<|.g 11 false rfl 132 hS (fun _=>.mvS)<|.g 12 false rfl 133 hS (fun _=>.len T.el167)<|?_;rw [show (pgL ns).length=ns.length from hpl];refine .g 13 false rfl 134 hS (fun _=>.addI)<|.g 14 false rfl 135 hS (fun _=>.mvI)<|.g 15 false rfl 136 hS (fun _=>.sub)<|?_;rw [show ((((1+r.fr)+ns.length:Nat):Int)-((sizeN rw1.abs nM).1:Int))=(((1+r.fr+ns.length-(sizeN rw1.abs nM).1):Nat):Int) from by omega];refine .o1 16<|.a' false rfl 137 (.mks (1+r.fr+ns.length-(sizeN rw1.abs nM).1) (1+r.fr+ns.length-(sizeN rw1.abs nM).1) T.el22 T.sz5 T.by5 T.zr5 ok) ?_;rintro _ η4 ⟨pb1,rfl,ok,xe⟩;have ok:=ok.cx (ys:=(List.replicate (1+r.fr+ns.length-(sizeN rw1.abs nM).1) (0:UInt8)).map bv) (zeros8 _);obtain ⟨zl,hzl,hzn⟩:∃zl:List UInt8,List.replicate (1+r.fr+ns.length-(sizeN rw1.abs nM).1) (0:UInt8)=zl∧(1+r.fr+ns.length-(sizeN rw1.abs nM).1)=zl.length:=⟨_,rfl,by simp⟩;rw [hzl,hzn] at ok;rw [hzn];refine ⟨ok.n2.k1.tR.tR.tR,?_⟩;have hS:=ok.n2.k1.tR.tR.tR;refine .o1 17<|?_;have ok:=(ok).frzB (l:=zl) rfl;refine .c' false rfl 138 .func (write_any (d:=r.d) (r:=rw1) (E:=Ew1) (n:=nM) (z:=((sizeN rw1.abs nM).1:Int)) (a:=some ⟨pb1,0,none⟩) (c:=zl.length) (l:=zl) (ok.f1).loc2 hkw1 (by omega) ⟨by omega,by omega⟩) ?_;rintro _ η5 ⟨rw2,Ew2,rfl,haw2,upw2⟩;have hzw2:=(ok).chg.size;have ok:=(ok.f1).dsk (d:=r.d) (r:=rw1) upw2;have hkw2:DkOk rw2.abs:=by rw [haw2];exact (hkw1).write
   have hcw2:rw2.chg≤rw1.chg+1:=Int.le_trans (Int.le_of_eq (congrArg Dk.chg haw2)) write_chg;have hnw2:=fun j hj=>(upw2.new j hj).elim (hnw1 j) fun h1=>Or.inr (Nat.le_trans hzw2 h1);have hma:=haw2;refine ⟨ok.n1.k1.tR.tR.tR.tR,?_⟩;have hS:=ok.n1.k1.tR.tR.tR.tR;refine .g 18 false rfl 20 hS (fun _=>.asI)<|.e ?_;refine .seq<|.r<|.z .mvI<|.z .neq<|.nil ?_;refine .cd (fun C6=>?_) (fun C6=>?_)
   ·
    refine .seq<|.r<|.z .mvI<|.z .asI<|.nil ?_;have hG1:(putD (begN r.rd.abs r.nd r.link r.size).1.1 r.fr (begN r.rd.abs r.nd r.link r.size).2.1 (begN r.rd.abs r.nd r.link r.size).2.2 (frmsN now ns)).1=writeN rw1.abs nM ((sizeN rw1.abs nM).1:Int) zl:=(putD_m hli hsy (by rw [frmsN_len,hzl];omega)).trans (by rw [frmsN_len,hzl]);have ok:=Hp.pcls (p:=p) (at_:=ati) (bs:=r.bs) (ok.n4.n4.n4.n4);refine .ret ⟨.int .i64 ((writeN rw1.abs nM ((sizeN rw1.abs nM).1:Int) zl).2:Int),Res.one rfl rfl,.inr (.inl ⟨heb1,by rw [hG1];omega,by rw [hG1],rw2,ati,cFi,Ew2,by rw [hG1];exact haw2,((ok).k1.e1).pup hnw2⟩)⟩
   have hmw:writeN rw1.abs nM ((sizeN rw1.abs nM).1:Int) (List.replicate (1+r.fr+(frmsN now ns).length-(sizeN rw1.abs nM).1) 0)=(rw2.abs,0):=by rw [frmsN_len,hzl];exact Prod.ext hma.symm (by omega)
   refine .skip<|.seq<|.seq<|.r<|.z .mvP<|.z .nil<|.z (.fa T.fd119_2)<|.z (.ldx T.ag30 ok.m1)<|.c' 146 .func (sync_any (d:=r.d) (r:=rw2) (E:=Ew2) (n:=nM) (ok).loc1 hkw2 (by omega)) ?_;rintro _ η6 ⟨rw3,Ew3,rfl,haw3,upw3⟩;have hzw3:=(ok).chg.size;have ok:=(ok).dsk (d:=r.d) (r:=rw2) upw3;have hkw3:DkOk rw3.abs:=by rw [haw3];exact (hkw2).sync
   have hcw3:rw3.chg≤rw2.chg+1:=Int.le_trans (Int.le_of_eq (congrArg Dk.chg haw3)) sync_chg;have hnw3:=fun j hj=>(upw3.new j hj).elim (hnw2 j) fun h1=>Or.inr (Nat.le_trans hzw3 h1);refine .z .asI<|.nil ?_;refine .seq<|.r<|.z .mvI<|.z .neq<|.nil ?_;refine .cd (fun C7=>?_) (fun C7=>?_)
   ·
    refine .seq<|.r<|.z .mvI<|.z .asI<|.nil ?_;have hG1:(putD (begN r.rd.abs r.nd r.link r.size).1.1 r.fr (begN r.rd.abs r.nd r.link r.size).2.1 (begN r.rd.abs r.nd r.link r.size).2.2 (frmsN now ns)).1=syncN rw2.abs nM:=congrArg Prod.fst (putD_ok hli hsy hmw);have ok:=Hp.pcls (p:=p) (at_:=ati) (bs:=r.bs) (ok.n4.n4.n4.n4);refine .ret ⟨.int .i64 ((syncN rw2.abs nM).2:Int),Res.one rfl rfl,.inr (.inl ⟨heb1,by rw [hG1];omega,by rw [hG1],rw3,ati,cFi,Ew3,by rw [hG1];exact haw3,((ok).k1.e1).pup hnw3⟩)⟩
   have hG:=putD_ok (fr:=r.fr) hli hsy hmw;have hz0:(syncN rw2.abs nM).2=0:=by omega
   refine .skip<|.seq<|.r<|.z .mvP<|.z .mvP<|.z .mvI<|.z .mvI<|.z .nil<|.z (.fa T.fd119_0)<|.z (.fa T.fd114_1)<|.ur' (.stI T.sz3 ok.n1) ?_;rintro η7 ⟨ok,cg⟩;refine .z .nil<|.z (.fa T.fd119_0)<|.z (.fa T.fd114_2)<|.ur' (.stI T.sz77 ok) ?_;rintro η8 ⟨ok,cg⟩;refine .nil ?_;refine .seq<|.r<|.z .mvP<|.z .nil<|.z (.fa T.fd119_0)<|.z (.fa T.fd114_0)<|.z (.ldx T.ag3 ok.m0)<|.z .mvS<|.z (.len T.el167)<|.z .addI<|.z .nil<|.z (.fa T.fd119_0)<|.z (.fa T.fd114_0)<|.ur' (.stI T.sz3 ok) ?_;rintro η9 ⟨ok,cg⟩;refine .nil ?_;refine .seq<|.r<|.z .asI<|.nil ?_;have ok:=Hp.pcls (p:=p) (at_:=ati) (bs:=r.bs) (ok.n1.n4.n4.n4.n4);refine .ret ⟨.int .i64 0,Res.one rfl rfl,.inr (.inr ⟨heb1,by rw [hG];exact hz0,rfl,rw3,cFi,Ew3,by rw [hG];exact haw3,by rw [hG];exact (by rw [←hatl];exact ((ok).k1.e1).pup hnw3)⟩)⟩
  refine .skip<|.seq<|.block fun K1 hK1=>.seq<|?_;have hin:i<ns.length:=by omega
  have hnl:=hP.lt i hin;have hfk:=frK_ok hP hin;have hmul:i*(16+r.size)+(16+r.size)≤ns.length*(16+r.size):=by rw [←Nat.succ_mul];exact Nat.mul_le_mul_right _ hin
  have hpL:(now.getD (ns.getD i 0) []).length=r.size:=hfk.2;have hei2:ei+(16+r.size)≤16777216:=by rw [hei];omega
  refine .r<|.z .mvI<|?_;obtain ⟨bb1,oo1,rfl,fb1⟩:=ok.r2.pos (by omega);refine .z (.ix1 i T.el167 T.sz3)<|.z (.ld T.ag3 (ok.r2.i64 (i:=i) (by omega)))<|?_;rw [pgL_at (by omega)];refine .z .asI<|.z .asI<|.nil ?_;refine .seq<|.r<|.z .mvP<|.z .mvI<|.c' 47 .func (page_any (p:=p) (r:=(⟨r.fr,(begN r.rd.abs r.nd r.link r.size).2.1,(begN r.rd.abs r.nd r.link r.size).2.2,r.am,ati,r.in_,r.many,r.bm,r.bs,r.d,rdi,r.size,r.sure,r.c,cFi,r.S,r.dark⟩:RA)) (E:=Ei) (i:=(ns.getD i 0)) (no:=(((ns.getD i 0)+1:Nat):Int)) (l:=(now.getD (ns.getD i 0) [])) (ok.f1.f1).loc2 hki (show (((ns.getD i 0)+1:Nat):Int)=((ns.getD i 0):Int)+1 from by omega) (by omega) (show r.size≤4096 by omega) hpL (fun _=>hP.bm) (fun _ x hx=>(hP.pg heb1 i hin).1 x hx) (fun hz=>hP.src heb1 hin hli hati hz)) ?_;rintro _ η10 ⟨Fo1,ao1,co1,rfl,q⟩;have ok:=(ok.f1.f1).lift2 q;try dsimp only at ok
  refine .z .mvU<|.z .ex<|.z .ex<|.z .asS<|.z .asI<|.nil ?_;refine .seq<|.seq<|.r<|.z .mvI<|.z .neq<|.nil ?_;refine .cf<|.skip<|.seq<|.r<|.z .mvI<|.z .mvS<|.z (.bd #[.int .i64 (((ns.getD i 0)+1:Nat):Int),.int .i64 0,.slice ao1 ((now.getD (ns.getD i 0) []).length) co1] T.zr102 T.pl102 rfl)<|.a' 12 (.alA T.zr102 ok) ?_;rintro _ η11 ⟨pb2,rfl,ok,xe⟩;refine .ur' (.stW (vs:=[.int .i64 (((ns.getD i 0)+1:Nat):Int),.int .i64 0,.slice ao1 ((now.getD (ns.getD i 0) []).length) co1]) T.sz102 ok (oneL rfl)) ?_;rintro η12 ⟨ok,cg⟩;refine .nil ?_;refine .seq<|.seq<|.r<|.z .mvI<|.z .mvS<|.z (.len T.el167)<|.z .sub<|.z .eql<|.nil ?_;refine .cd (fun C3=>?_) (fun C3=>?_)
  ·
   have ok:=(ok.n2).popn;refine .r<|.z .mvP<|.z .nil<|.z (.fa T.fd119_1)<|.z (.fa T.fd117_1)<|.z (.ldx T.ag3 ok.m0)<|.z (.fa T.fd102_1)<|.ur' (.stI T.sz3 ok.n5) ?_;rintro η13 ⟨ok,cg⟩;refine .nil ?_;refine .seq<|?_;have hfxx1:(⟨(((ns.getD i 0)+1:Nat):Int),((r.many:Nat):Int),(now.getD (ns.getD i 0) [])⟩:Fr)=(frK now ns i):=by unfold frK;rw [if_pos (by omega)];rw [←hP.many]
   refine .r<|.z .mvI<|.z (.ldb T.ag102 ok.m0 T.sz102)<|.c' 70 .func (put_ok (p:=((ns.getD i 0)+1)) (q:=r.many) (r:=pi) (by omega) (by omega) hpi (by rw [hfxx1];exact hfk.1) (by omega) (a:=ao1) (c:=co1) (l:=(now.getD (ns.getD i 0) [])) (RdL.ofCapB (v:=(ao1,(now.getD (ns.getD i 0) []).length,co1)) (l:=(now.getD (ns.getD i 0) [])) ok.m6)) ?_;rintro _ η14 ⟨yw1,rfl,own⟩;rw [hfxx1] at own⊢;obtain ⟨ya1,yc1,rfl⟩:=own.formB;have ok:=ok.own own;refine .z .mvU<|.z .ex<|.z .ex<|.z .ex<|.z .asS<|.z .asI<|.z .asI<|.nil ?_;refine .seq<|.seq<|.r<|.z .mvP<|.z .nil<|.z (.fa T.fd119_2)<|.z (.ldx T.ag30 ok.m2)<|.z .mvI<|.z .mvS<|?_;have ok:=(ok).frzB (l:=(putN pi (frK now ns i))) rfl;refine .c' 80 .func (write_any (d:=r.d) (r:=rdi) (E:=Ei) (n:=nL) (z:=(ei:Int)) (a:=ya1) (c:=yc1) (l:=(putN pi (frK now ns i))) (ok.n5.f1).loc2 hki (by omega) ⟨by omega,by omega⟩) ?_;rintro _ η15 ⟨rw4,Ew4,rfl,haw4,upw4⟩;have hzw4:=(ok).chg.size;have ok:=(ok.n5.f1).dsk (d:=r.d) (r:=rdi) upw4;have hkw4:DkOk rw4.abs:=by rw [haw4];exact (hki).write
   have hcw4:rw4.chg≤rdi.chg+1:=Int.le_trans (Int.le_of_eq (congrArg Dk.chg haw4)) write_chg;have hnw4:=fun j hj=>(upw4.new j hj).elim (hni j) fun h1=>Or.inr (Nat.le_trans hzw4 h1);refine .z .asI<|.nil ?_;refine .seq<|.r<|.z .mvI<|.z .neq<|.nil ?_;refine .cd (fun C4=>?_) (fun C4=>?_)
   ·
    refine .seq<|.r<|.z .mvI<|.z .asI<|.nil ?_;have hG1:(putD (begN r.rd.abs r.nd r.link r.size).1.1 r.fr (begN r.rd.abs r.nd r.link r.size).2.1 (begN r.rd.abs r.nd r.link r.size).2.2 (frmsN now ns)).1=writeN rdi.abs nL (ei:Int) (putN pi (frK now ns i)):=(putD_w (by rw [frmsN_len];omega) hli (by rw [frK_at hin];omega)).trans (by rw [frK_at hin]);have ok:=Hp.pcls (p:=p) (at_:=ati) (bs:=r.bs) (ok.n5.n5.n5.n5);refine .ret ⟨.int .i64 ((writeN rdi.abs nL (ei:Int) (putN pi (frK now ns i))).2:Int),Res.one rfl rfl,.inr (.inl ⟨heb1,by rw [hG1];omega,by rw [hG1],rw4,ati,Fo1,Ew4,by rw [hG1];exact haw4,((ok).k1.e1).pup hnw4⟩)⟩
   refine .skip<|.seq<|.t 15 mixed ?_;simp only [List.take_succ_cons,List.take_zero,List.drop_succ_cons,List.drop_zero];refine .z .mvP<|.z .nil<|.z (.fa T.fd119_0)<|.z (.fa T.fd114_3)<|.z (.ldx T.ag112 ok.m2)<|.z .mvI<|.z .mvI<|.z .mvS<|.z (.len T.el22)<|?_;rw [show (putN pi (frK now ns i)).length=(16+r.size) from (putN_len _ _).trans (by rw [hfk.2])];refine .z .addI<|.z .mvP<|.z .nil<|.z (.fa T.fd119_3)<|.z (.ldx T.ag3 ok.m2)<|.z .sub<|?_;rw [show (((ei+(16+r.size):Nat):Int)-(r.size:Int))=((ei+16:Nat):Int) from by omega];refine .nil ?_;refine .ur' (.mpu (KV.int .i64) V.sbI (((ns.getD i 0)+1:Nat):Int) (v:=.int .i64 ((ei+16:Nat):Int)) T.mp112 (inB_iff T.in3) ok.n3) ?_;rintro η16 ok;rw [at_put] at ok;refine .nil ?_;refine .r<|.z .mvI<|.z .mvS<|.z (.len T.el22)<|.z .addI<|.z .mvI<|.z .asI<|.z .asI<|.nil ?_;refine .end<|hK1 _ _<|.r<|.z (.addI (b:=1))<|.z .mvI<|?_;have ok:=Hp.pcls (p:=p) (at_:=(mput ati (((ns.getD i 0)+1:Nat):Int) (ei+16))) (bs:=r.bs) (ok.n1.n5.n5.n3.n5);refine .nil ?_;refine .end<|?_;have hwz:(writeN rdi.abs nL (ei:Int) (putN pi (frK now ns i))).2=0:=by omega
   have hls:logsN (begN r.rd.abs r.nd r.link r.size).1.1 (begN r.rd.abs r.nd r.link r.size).2.1 (begN r.rd.abs r.nd r.link r.size).2.2 ((frmsN now ns).take (i+1))=((rw4.abs,0),ei+(16+r.size),linkN pi (frK now ns i)):=by
    have h1:=logsN_snoc (l:=(frmsN now ns)) (i:=i) (by rw [frmsN_len];omega) hli;rw [frK_at hin,if_pos hwz,putN_len,hfk.2] at h1;rw [h1];exact congrArg (fun x=>(x,ei+(16+r.size),linkN pi (frK now ns i))) (Prod.ext haw4.symm hwz)
   refine hJ0 _ _ _ ⟨i+1,rw4,Ew4,mput ati (((ns.getD i 0)+1:Nat):Int) (ei+16),Fo1,(ei+(16+r.size)),linkN pi (frK now ns i),⟨rfl,rfl,rfl,rfl,rfl,rfl,rfl,trivial⟩,ok.k1.f3.f3.f2.e3,by omega,hls,by rw [hei,Nat.add_mul];omega,by rw [hati,hei];exact (atsN_K hin).symm,nextN_lt hpi _,hkw4,by omega,hnw4,rfl⟩ (by omega)
  refine .skip<|.seq<|?_;have hfxx2:(⟨(((ns.getD i 0)+1:Nat):Int),((0:Nat):Int),(now.getD (ns.getD i 0) [])⟩:Fr)=(frK now ns i):=by unfold frK;rw [if_neg (by omega)]
  refine .r<|.z .mvI<|.z (.ldb T.ag102 ok.m0 T.sz102)<|.c' 70 .func (put_ok (p:=((ns.getD i 0)+1)) (q:=0) (r:=pi) (by omega) (by omega) hpi (by rw [hfxx2];exact hfk.1) (by omega) (a:=ao1) (c:=co1) (l:=(now.getD (ns.getD i 0) [])) (RdL.ofCapB (v:=(ao1,(now.getD (ns.getD i 0) []).length,co1)) (l:=(now.getD (ns.getD i 0) [])) ok.m1)) ?_;rintro _ η17 ⟨yw2,rfl,own⟩;rw [hfxx2] at own⊢;obtain ⟨ya2,yc2,rfl⟩:=own.formB;have ok:=ok.own own;refine .z .mvU<|.z .ex<|.z .ex<|.z .ex<|.z .asS<|.z .asI<|.z .asI<|.nil ?_;refine .seq<|.seq<|?_;have ok:=(ok.n3).popn;refine .r<|.z .mvP<|.z .nil<|.z (.fa T.fd119_2)<|.z (.ldx T.ag30 ok.m0)<|.z .mvI<|.z .mvS<|?_;have ok:=(ok.n5).frzB (l:=(putN pi (frK now ns i))) rfl;refine .c' 80 .func (write_any (d:=r.d) (r:=rdi) (E:=Ei) (n:=nL) (z:=(ei:Int)) (a:=ya2) (c:=yc2) (l:=(putN pi (frK now ns i))) (ok.n4.f1).loc2 hki (by omega) ⟨by omega,by omega⟩) ?_;rintro _ η18 ⟨rw5,Ew5,rfl,haw5,upw5⟩;have hzw5:=(ok).chg.size;have ok:=(ok.n4.f1).dsk (d:=r.d) (r:=rdi) upw5;have hkw5:DkOk rw5.abs:=by rw [haw5];exact (hki).write
  have hcw5:rw5.chg≤rdi.chg+1:=Int.le_trans (Int.le_of_eq (congrArg Dk.chg haw5)) write_chg;have hnw5:=fun j hj=>(upw5.new j hj).elim (hni j) fun h1=>Or.inr (Nat.le_trans hzw5 h1);refine .z .asI<|.nil ?_;refine .seq<|.r<|.z .mvI<|.z .neq<|.nil ?_;refine .cd (fun C4=>?_) (fun C4=>?_)
  ·
   refine .seq<|.r<|.z .mvI<|.z .asI<|.nil ?_;have hG1:(putD (begN r.rd.abs r.nd r.link r.size).1.1 r.fr (begN r.rd.abs r.nd r.link r.size).2.1 (begN r.rd.abs r.nd r.link r.size).2.2 (frmsN now ns)).1=writeN rdi.abs nL (ei:Int) (putN pi (frK now ns i)):=(putD_w (by rw [frmsN_len];omega) hli (by rw [frK_at hin];omega)).trans (by rw [frK_at hin]);have ok:=Hp.pcls (p:=p) (at_:=ati) (bs:=r.bs) (ok.n4.n4.n4.n4);refine .ret ⟨.int .i64 ((writeN rdi.abs nL (ei:Int) (putN pi (frK now ns i))).2:Int),Res.one rfl rfl,.inr (.inl ⟨heb1,by rw [hG1];omega,by rw [hG1],rw5,ati,Fo1,Ew5,by rw [hG1];exact haw5,((ok).k1.e1).pup hnw5⟩)⟩
  refine .skip<|.seq<|.t 15 mixed ?_;simp only [List.take_succ_cons,List.take_zero,List.drop_succ_cons,List.drop_zero];refine .z .mvP<|.z .nil<|.z (.fa T.fd119_0)<|.z (.fa T.fd114_3)<|.z (.ldx T.ag112 ok.m1)<|.z .mvI<|.z .mvI<|.z .mvS<|.z (.len T.el22)<|?_;rw [show (putN pi (frK now ns i)).length=(16+r.size) from (putN_len _ _).trans (by rw [hfk.2])];refine .z .addI<|.z .mvP<|.z .nil<|.z (.fa T.fd119_3)<|.z (.ldx T.ag3 ok.m1)<|.z .sub<|?_;rw [show (((ei+(16+r.size):Nat):Int)-(r.size:Int))=((ei+16:Nat):Int) from by omega];refine .nil ?_;refine .ur' (.mpu (KV.int .i64) V.sbI (((ns.getD i 0)+1:Nat):Int) (v:=.int .i64 ((ei+16:Nat):Int)) T.mp112 (inB_iff T.in3) ok.n2) ?_;rintro η19 ok;rw [at_put] at ok;refine .nil ?_;refine .r<|.z .mvI<|.z .mvS<|.z (.len T.el22)<|.z .addI<|.z .mvI<|.z .asI<|.z .asI<|.nil ?_;refine .end<|hK1 _ _<|.r<|.z (.addI (b:=1))<|.z .mvI<|?_;have ok:=Hp.pcls (p:=p) (at_:=(mput ati (((ns.getD i 0)+1:Nat):Int) (ei+16))) (bs:=r.bs) (ok.n1.n4.n4.n3.n4);refine .nil ?_;refine .end<|?_;have hwz:(writeN rdi.abs nL (ei:Int) (putN pi (frK now ns i))).2=0:=by omega
  have hls:logsN (begN r.rd.abs r.nd r.link r.size).1.1 (begN r.rd.abs r.nd r.link r.size).2.1 (begN r.rd.abs r.nd r.link r.size).2.2 ((frmsN now ns).take (i+1))=((rw5.abs,0),ei+(16+r.size),linkN pi (frK now ns i)):=by
   have h1:=logsN_snoc (l:=(frmsN now ns)) (i:=i) (by rw [frmsN_len];omega) hli;rw [frK_at hin,if_pos hwz,putN_len,hfk.2] at h1;rw [h1];exact congrArg (fun x=>(x,ei+(16+r.size),linkN pi (frK now ns i))) (Prod.ext haw5.symm hwz)
  refine hJ0 _ _ _ ⟨i+1,rw5,Ew5,mput ati (((ns.getD i 0)+1:Nat):Int) (ei+16),Fo1,(ei+(16+r.size)),linkN pi (frK now ns i),⟨rfl,rfl,rfl,rfl,rfl,rfl,rfl,trivial⟩,ok.k1.f3.f3.f2.e3,by omega,hls,by rw [hei,Nat.add_mul];omega,by rw [hati,hei];exact (atsN_K hin).symm,nextN_lt hpi _,hkw5,by omega,hnw5,rfl⟩ (by omega)
 replace hab1:rdb1.abs=(begN r.rd.abs r.nd r.link r.size).1.1:=hab1;have hzb1:=(ok).chg.size;have ok:=(ok).pag upb1;have hnb1:=fun j hj=>(upb1.new j hj).elim ((fun _ h=>Or.inl h) j) fun h1=>Or.inr (Nat.le_trans hzb1 h1);have hkb1:DkOk rdb1.abs:=by rw [hab1];exact (hk).begn
 have hcb1:rdb1.chg≤r.rd.chg+1:=Int.le_trans (Int.le_of_eq (congrArg Dk.chg hab1)) beg_chg;refine .z .asI<|.nil ?_;refine .seq<|.r<|.z .mvI<|.z .neq<|.nil ?_;refine .cd (fun C0=>?_) (fun C0=>?_)
 ·
  refine .seq<|.r<|.z .mvI<|.z .asI<|.nil ?_;refine .ret ⟨.int .i64 ((begN r.rd.abs r.nd r.link r.size).1.2:Int),Res.one rfl rfl,.inl ⟨heb1,rfl,rdb1,Eb1,hab1,((ok).k1.e1).pup hnb1⟩⟩
 exfalso;omega
def atF (l:List (Int × Nat)) (m:Nat):List (Int × Nat):=l.filter fun p=>decide (p.1≤(m:Int))
def dnS (S:Nat→Option (List UInt8)) (ks:List Int) (m:Nat) (k:Int):Nat→Option (List UInt8):=fun i=>if ((i:Int)+1∈ks)∨((m:Int)<(i:Int)+1∧(i:Int)+1<k) then none else S i
theorem dnS_0 {S:Nat→Option (List UInt8)} {ks:List Int} {m:Nat} : ks≠[]→∀i:Nat,((i:Int)+1)∉ks→∀l,S i=some l→dnS S ks m ((m:Int)+1) i=some l:=fun _ i hi l hl=>by
 unfold dnS;rw [if_neg,hl];rintro (h | h)
 ·exact hi h
 ·omega
theorem dnS_s {S:Nat→Option (List UInt8)} {ks:List Int} {m:Nat} {k:Int} : [k]≠[]→∀i:Nat,((i:Int)+1)∉[k]→∀l,dnS S ks m k i=some l→dnS S ks m (k+1) i=some l:=fun _ i hi l hl=>by
 unfold dnS at hl⊢;split at hl
 ·cases hl
 ·rename_i h;rw [if_neg,hl];rintro (h1 | h1)
  ·exact h (.inl h1)
  ·exact h (.inr ⟨h1.1,by simp at hi;omega⟩)
theorem dnS_e {S S':Nat→Option (List UInt8)} {ks:List Int} {m su:Nat} {k:Int} (hk:(su:Int)<k) (hS:∀i:Nat,((i:Int)+1)∉ks→(i<m∨su≤i)→∀l,S i=some l→S' i=some l):∀i l,dnS S ks m k i=some l→S' i=some l:=fun i l hl=>by
 unfold dnS at hl;split at hl
 ·cases hl
 ·rename_i h;refine hS i (fun h1=>h (.inl h1)) ?_ l hl;by_cases h2:i<m
  ·exact .inl h2
  ·by_cases h3:su≤i
   ·exact .inr h3
   ·exact absurd (.inr ⟨by omega,by omega⟩) h
theorem cacI_mono {h:Heap} {c:Nat} {F:Nat→Prop} {S S':Nat→Option (List UInt8)} (hS:∀i l,S i=some l→S' i=some l) (hc:(cacI c F S).p h):(cacI c F S').p h:=
 let ⟨room,L,q⟩:=hc
 ⟨room,L,⟨q.rep,q.r1,q.r2,q.len,fun x hx=>⟨(q.ok x hx).1,hS _ _ (q.ok x hx).2⟩⟩⟩
theorem at_filt2 {L:List (Int × Nat)} {k:Int} {m:Nat} (h:(m:Int)<k):atF (mdel L k) m=atF L m:=filt2 h
theorem ap_of {p:Int × Value} {q:Int × Nat} (h:(q.1,iv' q.2)=p):p.1=q.1:=by rw [←h]
theorem adone_any {h:Heap} {p:Nat} {r:RA} {a:Option Addr} {c:Nat} {ks:List Int} {S':Nat→Option (List UInt8)} {Fl El:Nat→Prop} (ok:Hp h (pagI p r).F [pagI p r] [rdI Fl El (a,ks.length,c) ks] h) (hks:ks≠[]) (hN:ks.length≤1000000000) (hmn:r.many≤1048576) (hsn:r.sure≤1048576) (hS:∀i:Nat,((i:Int)+1)∉ks→(i<r.many∨r.sure≤i)→∀l,r.S i=some l→S' i=some l) :
  HC Tryz.prog 120 #[.pointer (some ⟨p,0,none⟩),.slice a ks.length c] h (fun v h'=>∃F',v=.tuple #[]∧Hp h (pagI p r).F [pagI p { r with at_:=atF r.at_ r.many,in_:=false,many:=0,bm:=none,bs:=[],sure:=r.many,cF:=F',S:=S' }] [] h'):=by
 have hlc:=ok.r0.c;have hlm:=ok.r0.m;simp only at hlc hlm;refine HC.go Tryz.func120 68 ?_;refine .seq<|?_;have ok:=(ok).popn;refine .r<|.z .mvP<|.z .nil<|.z (.fa T.fd119_5)<|.z (.ldx T.ag109 ok.m0)<|.z .mvS<|.c' 11 .func (cdrop_any (S':=(dnS r.S ks r.many ((r.many:Int)+1))) (ks:=ks) (ok.n3).m0 (ok.n3).r0 (by omega) (fun j hj hf=>(ok.n3).mr _ List.mem_cons_self (rdI Fl El (a,ks.length,c) ks) (by simp) j hf (.inl hj)) dnS_0) ?_;rintro _ η1 ⟨Fd1,rfl,q⟩;have ok:=(ok.n3).lift1 q;refine .nil ?_;refine .seq<|.seq<|.r<|.z .mvP<|.z .nil<|.z (.fa T.fd119_0)<|.z (.fa T.fd114_3)<|.z (.ldx T.ag112 ok.m1)<|.a' 17 (.rng T.mp112 ok.n2) ?_;rintro _ η2 ⟨ib1,rfl,ok⟩;refine .nil ?_;refine .block fun K0 hK0=>.loop (fun m s hh=>∃(L td:List (Int × Nat)),Has s [(0,.pointer (some ⟨p,0,none⟩)),(17,.pointer (some ⟨ib1,0,none⟩))]∧Hp h (pagI p r).F [itI (Value.int .i64) ib1 r.am (atE L) (atE td),cacI r.c Fd1 (dnS r.S ks r.many ((r.many:Int)+1)),boxI p 119 [.int .i64 (r.fr:Int),.int .i64 (r.nd:Int),.int .u64 (r.link:Int),.map (some r.am),.bool r.in_,.int .i64 (r.many:Int),.map r.bm,.pointer (some ⟨r.d,0,none⟩),.int .i64 (r.size:Int),.int .i64 (r.sure:Int),.pointer (some ⟨r.c,0,none⟩),.bool r.dark],nowI r.bm r.bs,dskI r.d r.rd] [rdI Fl El (a,ks.length,c) ks] hh∧atF L r.many=atF r.at_ r.many∧(∀p∈L,p.1≤(r.many:Int)∨p∈td)∧m=td.length) ?_ ?_
 ·exact ⟨_,r.at_,r.at_,⟨rfl,rfl,trivial⟩,ok.n4.n4.n4.n4.n4,rfl,fun p h=>.inr h,rfl⟩
 rintro _ _ η3 ⟨L,td,hs,ok,hLf,hLt,rfl⟩ J0 hJ0;refine .frame hs fun τ=>?_;refine .seq<|.r<|.a' 18 (.nxt ok) ?_;rintro _ η4 (⟨hnil,rfl,ok⟩ | ⟨ipq1,pq1,hpq1,rfl,ok⟩)
 ·
  have htd:td=[]:=by simpa [atE] using hnil
  have hLe:atF L r.many=L:=List.filter_eq_self.2 fun p hp=>decide_eq_true ((hLt p hp).resolve_right (by rw [htd];simp));rw [hLf] at hLe;have ok:=(ok).itm;rw [←hLe] at ok;refine .z .ex<|.nil ?_;refine .seq<|.cf<|.exit<|hK0 _ _<|.seq<|.seq<|.r<|.z .mvP<|.z .nil<|.z (.fa T.fd119_1)<|.z (.fa T.fd117_1)<|.z (.ldx T.ag3 ok.m2)<|.z (.addI (b:=1))<|.z .asI<|?_;have ok:=Hp.pcls (p:=p) (at_:=(atF r.at_ r.many)) (bs:=r.bs) (ok.n4.n2.n4.n3.n4);refine .nil ?_;refine .block fun K2 hK2=>.loop (fun m s hh=>∃(k:Int) (cFi:Nat→Prop),Has s [(0,.pointer (some ⟨p,0,none⟩)),(5,.int .i64 k)]∧Hp h (pagI p r).F [pagI p (⟨r.fr,r.nd,r.link,r.am,(atF r.at_ r.many),r.in_,r.many,r.bm,r.bs,r.d,r.rd,r.size,r.sure,r.c,cFi,(dnS r.S ks r.many k),r.dark⟩:RA)] [rdI Fl El (a,ks.length,c) ks] hh∧(r.many:Int)+1≤k∧(k≤(r.sure:Int)+1∨k≤(r.many:Int)+1)∧m=((r.sure:Int)+1-k).toNat) ?_ ?_
  ·exact ⟨_,(r.many:Int)+1,Fd1,⟨rfl,rfl,trivial⟩,ok,Int.le_refl _,.inr (Int.le_refl _),rfl⟩
  rintro _ _ η5 ⟨k,cFi,hs,ok,hk1,hk2,rfl⟩ J1 hJ1;refine .frame hs fun τ=>?_;refine .seq<|.seq<|?_;have ok:=(ok).popn;refine .r<|.z .mvI<|.z .mvP<|.z .nil<|.z (.fa T.fd119_4)<|.z (.ldx T.ag3 ok.m0)<|.z .leq<|.nil ?_;refine .cdr (fun C2=>?_) (fun C2=>?_)
  ·
   refine .exit<|hK2 _ _<|.seq<|.r<|.z .mvP<|.z .mvP<|.z .nil<|.z (.fa T.fd119_1)<|.z (.fa T.fd117_1)<|.z (.ldx T.ag3 ok.m0)<|.z .nil<|.z (.fa T.fd119_4)<|.ur' (.stI T.sz3 ok) ?_;rintro η6 ⟨ok,cg⟩;refine .nil ?_;refine .r<|.z .mvP<|.z (.bd #[.bool false,.int .i64 0,.map none] T.zr117 T.pl117 rfl)<|.z .nil<|.z (.fa T.fd119_1)<|.ur' (.stA (vs:=[.bool false,.int .i64 0,.map none]) T.sz117 ok (oneL rfl)) ?_;rintro η7 ⟨ok,cg⟩;refine .nil ?_;refine .end<|?_;have ok:=(ok.n3).re (cacI r.c cFi S') (cacI_mono (dnS_e (k:=k) (by omega) hS) (ok.n3).m0) (fun _ h=>h);have ok:=ok.nowNil (bs:=[]);have ok:=Hp.pcls (p:=p) (at_:=(atF r.at_ r.many)) (bs:=[]) (ok.n5.n2.n2.n4.n4);refine ⟨.tuple #[],Res.none rfl,⟨cFi,rfl,(ok).k1.tR⟩⟩
  refine .skip<|.seq<|.block fun K3 hK3=>.r<|.z .mvP<|.z .nil<|.z (.fa T.fd119_5)<|.z (.ldx T.ag109 ok.m0)<|.z .mvI<|.a' 54 (.lit [.tmp 53] (cs:=[.int .i64 k]) T.el167 T.sz3 T.zr3 ok ⟨rfl,trivial⟩) ?_;rintro _ η8 ⟨pb1,rfl,ok,xe⟩;refine .c' 55 .func (cdrop_any (Eb:=none_) (S':=(dnS r.S ks r.many (k+1))) (ks:=[k]) (ok.n4).m0 (RdL.of_cap1 (f:=iv) (x:=(some ⟨pb1,0,none⟩,1,1)) (l:=[k]) rfl (fun _ _ _=>rfl) (ok.n4).m1) (by simp) (fun j hj hf=>(List.pairwise_cons.1 (ok.n4).mm).1 _ List.mem_cons_self j hf hj) dnS_s) ?_;rintro _ η9 ⟨Fd2,rfl,q⟩;have ok:=(ok.n4).lift1 q;refine .nil ?_;refine .end<|hK3 _ _<|.r<|.z .mvI<|.z .add<|.z .asI<|?_;have ok:=Hp.pcls (p:=p) (at_:=(atF r.at_ r.many)) (bs:=r.bs) (ok.n5.n1.n5.n5.n5);refine .nil ?_;refine .end<|hJ1 _ _ _ ⟨k+1,Fd2,⟨rfl,rfl,trivial⟩,ok.k1,by omega,by omega,rfl⟩ (by omega)
 obtain ⟨q,hq,hpe⟩:=map_some (f:=fun p:Int × Nat=>(p.1,iv' p.2)) hpq1;have hk1:pq1.1=q.1:=ap_of hpe;rw [show (atE td).eraseIdx ipq1=atE (td.eraseIdx ipq1) from (map_erase _ _ _).symm] at ok;refine .z .ex<|.nil ?_;refine .seq<|.ct<|.skip<|.block fun K1 hK1=>.seq<|.r<|.z (.ent (ok.m0).2)<|.z .ex<|.z .asI<|.nil ?_;refine .seq<|.r<|.z .mvI<|.z .mvP<|.z .nil<|.z (.fa T.fd119_1)<|.z (.fa T.fd117_1)<|.z (.ldx T.ag3 ok.m2)<|.z .gtr<|.nil ?_;refine .cd (fun C1=>?_) (fun C1=>?_)
 ·
  refine .r<|.z .mvP<|.z .nil<|.z (.fa T.fd119_0)<|.z (.fa T.fd114_3)<|.z (.ldx T.ag112 ok.m2)<|.z .mvI<|.a0' (.delC (KV.int .i64) T.mp112 (inB_iff T.in3) ok) ?_;rintro _ η10 ⟨rfl,ok⟩;rw [at_del,hk1] at ok;refine .nil ?_;refine .end<|hK1 _ _<|.end<|hJ0 _ _ _ ⟨mdel L q.1,td.eraseIdx ipq1,⟨rfl,rfl,trivial⟩,ok.n4.n4.n4.n4.n4,by rw [at_filt2 (by omega)];exact hLf,fun p hp=>(hLt p (List.mem_filter.1 hp).1).imp id fun h=>erase_mem h hq (fun e=>by have:=(List.mem_filter.1 hp).2;rw [e] at this;simp at this),rfl⟩ (by rw [List.length_eraseIdx_of_lt (List.getElem?_eq_some_iff.1 hq).1];have:=(List.getElem?_eq_some_iff.1 hq).1;omega)
 have ok:=(ok).itc;refine .skip<|.end<|hK1 _ _<|.end<|hJ0 _ _ _ ⟨L,td.eraseIdx ipq1,⟨rfl,rfl,trivial⟩,ok.n4.n4.n4.n4.n4,hLf,fun p hp=>(hLt p hp).elim .inl fun h=>if e:p=q then .inl (by rw [e];omega) else .inr (erase_mem h hq e),rfl⟩ (by rw [List.length_eraseIdx_of_lt (List.getElem?_eq_some_iff.1 hq).1];have:=(List.getElem?_eq_some_iff.1 hq).1;omega)
open Go.RowKit Go.Sort Go.Shelf Go.MapKept
theorem HC.of_callsW {P:Program} {f:FuncId} {args:Array Value} {h:Heap} {R:Value→Heap→Prop} (hc:Callable P f) (hr:∀w:World,w.heap=h→Calls P f args w fun e w'=>∃v,e=.returned v∧(w'.os=w.os∧w'.tape=w.tape∧w'.output=w.output)∧R v w'.heap):HC P f args h R:=
 ⟨hc,fun _ w at'=>(hr w at'.heap).mono fun _ w' ⟨v,e,b,r⟩=>⟨v,w'.heap,e,⟨rfl,b.1.trans at'.os,b.2.1.trans at'.tape,b.2.2.trans at'.output⟩,r⟩⟩
theorem cells_put {cs:Array Value} {o:Nat} {S:List Int} (h:o+S.length≤cs.size):((putCells (Value.int .i64) o S.toArray cs).toList.drop o).take S.length=S.map iv:=by
 apply List.ext_getElem?;intro j;by_cases hj:j<S.length
 ·rw [List.getElem?_take_of_lt hj,List.getElem?_drop,Array.getElem?_toList];simp [putCells,hj,show o+j<cs.size by omega,iv]
 ·rw [List.getElem?_take_eq_none (by omega),List.getElem?_eq_none (by simp;omega)]
theorem sortI_any {h0 h:Heap} {D:Nat→Prop} {M R:List Itm} {a:Option Addr} {c:Nat} {ks:List Int} (ok:Hp h0 D (capI 1 3 (a,ks.length,c) (ks.map iv)::M) R h) (hl:ks.length≤1000000000000) :
  HC Tryz.prog 169 #[.slice a ks.length c] h (fun v h'=>∃S:List Int,v=.tuple #[]∧S.Perm ks∧S.Pairwise (·≤·)∧Hp h0 D (capI 1 3 (a,S.length,c) (S.map iv)::M) R h'):=
 HC.of_callsW ⟨_,Tryz.func169,by decide,rfl⟩ fun w hw=>by
  have hc:Cap h 1 3 (.slice a ks.length c) (ks.map iv):=ok.m0;have hml:(ks.mergeSort fun x y=>decide (x≤y)).length=ks.length:=List.length_mergeSort _;have hpw:(ks.mergeSort fun x y=>decide (x≤y)).Pairwise (·≤·):=by
   have:=List.pairwise_mergeSort (le:=fun x y:Int=>decide (x≤y)) (fun a b c h1 h2=>by simp at h1 h2⊢;omega) (fun a b=>by simp;omega) ks;exact this.imp fun h=>by simpa using h
  obtain ⟨a',n',c',hv,h1,h2,h3,h4⟩:=hc;injection hv with e1 e2 e3;subst e1 e2 e3;rcases h4 with ⟨rfl,rfl⟩ | ⟨b,o,cs,fz,rfl,hb,hs,hfz,hx⟩
  ·have hz:ks=[]:=List.eq_nil_of_length_eq_zero (by omega);subst hz;refine (AnyM.slices_Sort_int_none Tryz.sortA none 0 w).mono fun e w' ⟨h5,h6⟩=>?_;subst h6;exact ⟨_,h5,⟨rfl,rfl,rfl⟩,[],rfl,.refl _,.nil,by rw [hw];exact ok⟩
  ·have hwb:w.heap[b]? = some (.cells cs 3 fz):=by rw [hw];exact hb
   have hbl:b<w.heap.size:=(Array.getElem?_eq_some_iff.1 hwb).1;have hH:Holds (Value.int .i64) w b o ks.toArray:=by
    intro j hj;have hj':j<ks.length:=by simpa using hj
    refine ⟨?_,frozen?_eq hwb hfz (by omega)⟩;rw [cell?_eq,cell_of hwb,←Array.getElem?_toList];have h6:((cs.toList.drop o).take (ks.length*1))[j]? = (ks.map iv)[j]?:=by rw [hx]
    rw [Nat.mul_one,List.getElem?_take_of_lt hj',List.getElem?_drop] at h6;rw [h6];simp [hj',iv]
   refine (AnyM.slices_Sort_int Tryz.sortA b o c ks w hH hbl (by omega)).mono fun e w' ⟨h5,n,os,h6⟩=>?_;subst h6;have hkeep:∀k,k<w.heap.size→k≠b→(grow (putRow (Value.int .i64) (Sort.ahead w n) b o (ks.mergeSort fun x y=>decide (x≤y)).toArray) os).heap[k]? = w.heap[k]?:=fun k hk hne=>by
    rw [heap_grow_old _ _ (by simpa using hk)];simp [putRow,mapBlock,Sort.ahead,Array.getElem?_modify,Ne.symm hne]
   have hat:(grow (putRow (Value.int .i64) (Sort.ahead w n) b o (ks.mergeSort fun x y=>decide (x≤y)).toArray) os).heap[b]? = some (.cells (putCells (Value.int .i64) o (ks.mergeSort fun x y=>decide (x≤y)).toArray cs) 3 fz):=by
    rw [heap_grow_old _ _ (by simpa using hbl)];simp [putRow,mapBlock,Sort.ahead,Array.getElem?_modify,hwb,onCells]
   have hsz:w.heap.size≤(grow (putRow (Value.int .i64) (Sort.ahead w n) b o (ks.mergeSort fun x y=>decide (x≤y)).toArray) os).heap.size:=by simp
   have hch:Chg (fun j=>j=b) h (grow (putRow (Value.int .i64) (Sort.ahead w n) b o (ks.mergeSort fun x y=>decide (x≤y)).toArray) os).heap:=⟨by rw [←hw];exact hsz,fun k hk hne=>by rw [hkeep k (by rw [hw];exact hk) hne,hw]⟩;have hcap:Cap (grow (putRow (Value.int .i64) (Sort.ahead w n) b o (ks.mergeSort fun x y=>decide (x≤y)).toArray) os).heap 1 3 (.slice (some ⟨b,o,none⟩) (ks.mergeSort fun x y=>decide (x≤y)).length c) ((ks.mergeSort fun x y=>decide (x≤y)).map iv):=
    ⟨_,_,_,rfl,by omega,h2,by simp,.inr ⟨b,o,_,fz,rfl,hat,by simpa [putCells] using hs,by simpa [putCells] using hfz,by rw [Nat.mul_one];exact cells_put (by omega)⟩⟩
   exact ⟨_,h5,⟨rfl,rfl,rfl⟩,_,rfl,List.mergeSort_perm _ _,hpw,ok.upd hch (fun j (hj:j=b)=>hj▸⟨o,ks.length,c,rfl⟩) (capI 1 3 (some ⟨b,o,none⟩,(ks.mergeSort fun x y=>decide (x≤y)).length,c) _) hcap fun j hj=>.inl (by obtain ⟨o2,n2,c2,e⟩:=hj;injection e with e1;injection e1 with e1;injection e1 with e1;exact ⟨o,ks.length,c,by rw [←e1]⟩)⟩
theorem int_uniq:∀ {l m:List Int},l.Pairwise (· < ·)→m.Pairwise (· < ·)→(∀x,x∈l↔x∈m)→l=m
 | [],[],_,_,_=>rfl
 | [],b::m,_,_,h=>absurd ((h b).2 List.mem_cons_self) (by simp)
 | a::l,[],_,_,h=>absurd ((h a).1 List.mem_cons_self) (by simp)
 | a::l,b::m,hl,hm,h=>by
  have h1:=List.pairwise_cons.1 hl;have h2:=List.pairwise_cons.1 hm;have hab:a=b:=by
   rcases List.mem_cons.1 ((h a).1 List.mem_cons_self) with e | e
   ·exact e
   ·rcases List.mem_cons.1 ((h b).2 List.mem_cons_self) with f | f
    ·exact f.symm
    ·have:=h2.1 a e;have:=h1.1 b f;omega
  subst hab;congr 1;refine int_uniq h1.2 h2.2 fun x=>⟨fun hx=>?_,fun hx=>?_⟩
  ·rcases List.mem_cons.1 ((h x).1 (List.mem_cons_of_mem _ hx)) with e | e
   ·have:=h1.1 x hx;omega
   ·exact e
  ·rcases List.mem_cons.1 ((h x).2 (List.mem_cons_of_mem _ hx)) with e | e
   ·have:=h2.1 x hx;omega
   ·exact e
def unK (now sure:List (List UInt8)) (k:Int):Bool:=decide (now[(k-1).toNat]?≠sure[(k-1).toNat]?)
theorem unl_eq {now sure:List (List UInt8)} {S:List Int} (hn:S.Nodup) (hs:S.Pairwise (·≤·)) (hk:∀k∈S,1≤k∧k≤now.length) (hS:∀i:Nat,i<now.length→(i:Int)+1∉S→sure[i]? = now[i]?):S.filter (unK now sure)=pgL (unlN now sure):=by
 apply int_uniq
 ·exact List.Pairwise.filter _ ((hs.and hn).imp fun h=>by omega)
 ·unfold pgL unlN;rw [List.pairwise_map];exact List.Pairwise.filter _ (List.pairwise_lt_range.imp fun h=>by omega)
 ·intro x;unfold pgL unlN unK;simp only [List.mem_filter,List.mem_map,List.mem_range,decide_eq_true_eq];constructor
  ·rintro ⟨h1,h2⟩;have:=hk x h1;exact ⟨(x-1).toNat,⟨by omega,h2⟩,by omega⟩
  ·rintro ⟨i,⟨h1,h2⟩,rfl⟩;have e:((i:Int)+1-1).toNat=i:=by omega
   rw [e];refine ⟨?_,h2⟩;by_cases h3:(i:Int)+1∈S
   ·exact h3
   ·exact absurd (hS i h1 h3).symm h2
theorem Cap.lenI {h:Heap} {e:TypeId} {a:Option Addr} {n c:Nat} {l:List Int} (r:Cap h 1 e (.slice a n c) (l.map iv)):n=l.length:=by
 obtain ⟨a',n',c',hv,_,_,h3,_⟩:=r;injection hv with _ h2 _;rw [List.length_map,Nat.mul_one] at h3;omega
theorem perm_erase {td:List (Int × RB)} {i:Nat} {q:Int × RB} (h:td[i]? = some q):td.Perm (q::td.eraseIdx i):=by
 induction td generalizing i with
 | nil=>simp at h
 | cons a td ih=>
  cases i with
  | zero=>simp at h;subst h;exact .refl _
  | succ i=>rw [List.getElem?_cons_succ] at h;exact ((ih h).cons a).trans (.swap q a _)
theorem coll_step {ks:List Int} {td bs:List (Int × RB)} {i:Nat} {q:Int × RB} (h:td[i]? = some q) (hp:(ks++td.map (·.1)).Perm (bs.map (·.1))):((ks++[q.1])++(td.eraseIdx i).map (·.1)).Perm (bs.map (·.1)):=by
 refine List.Perm.trans ?_ hp;rw [List.append_assoc];exact (((perm_erase h).map (·.1)).symm).append_left ks
theorem bsE_keys {bs:List (Int × RB)} : (bsE bs).map (·.1)=bs.map (·.1):=by simp [bsE]
section
variable {r:RA} {A:Ah}
theorem PIs.sfact (I:PIs r A) (hA:A.dark=false) (hin:A.in_=true) {S:List Int} (hp:S.Perm (r.bs.map (·.1))):∀k∈S,∃i:Nat,k=(i:Int)+1∧i<A.now.length∧∃x,mget r.bs k=some x∧∃l,A.now[i]? = some l∧x.l=l:=fun k hk=>by
 have g:=I.good hA;obtain ⟨y,hy,rfl⟩:=List.mem_map.1 (hp.mem_iff.1 hk);have h1:=g.keys y hy;refine ⟨(y.1-1).toNat,by omega,by omega,?_⟩;have h2:=g.now (y.1-1).toNat (by omega);unfold NowOk at h2;rw [show (((y.1-1).toNat:Nat):Int)+1=y.1 by omega] at h2;cases hg:mget r.bs y.1 with
 | none=>
  exfalso;have:∀l:List (Int × RB),y∈l→mget l y.1≠none:=fun l=>by
   induction l with
   | nil=>intro h;cases h
   | cons a l ih=>
    intro h;rw [mget_cons];split
    ·simp
    ·rename_i h3;rcases List.mem_cons.1 h with rfl | h
     ·exact absurd rfl h3
     ·exact ih h
  exact this _ hy hg
 | some x=>rw [hg] at h2;exact ⟨x,rfl,_,by simp,h2⟩
theorem PIs.sout (I:PIs r A) (hA:A.dark=false) {S:List Int} (hn:(r.bs.map (·.1)).Nodup) (hp:S.Perm (r.bs.map (·.1))) (hs:S.Pairwise (·≤·)):S.filter (unK A.now A.sure)=pgL (unlN A.now A.sure):=by
 have g:=I.good hA;refine unl_eq (hp.nodup_iff.2 hn) hs (fun k hk=>?_) fun i hi hni=>?_
 ·obtain ⟨y,hy,rfl⟩:=List.mem_map.1 (hp.mem_iff.1 hk);exact g.keys y hy
 ·have h2:=g.now i hi;unfold NowOk at h2;cases hg:mget r.bs ((i:Int)+1) with
  | none=>rw [hg] at h2;rw [h2];simp [hi]
  | some x=>exact absurd (hp.mem_iff.2 (List.mem_map.2 ⟨_,mget_mem hg,rfl⟩)) hni
theorem filt_take {S:List Int} {P:Int→Bool} {i:Nat} (h:i<S.length):(S.take (i+1)).filter P=(S.take i).filter P++if P S[i]=true then [S[i]] else []:=by
 rw [List.take_succ_eq_append_getElem h,List.filter_append];congr 1;by_cases hp:P S[i]=true<;>simp [hp]
end
theorem amay_any {h:Heap} {p:Nat} {r:RA} {A:Ah} {E Q:Nat→Prop} (ok:Hp h (pagI p r).F [pagI p r] [bysI E r.rd.fs,pbsI Q r.bs] h) (I:PIs r A) (hA:A.dark=false) (hin:A.in_=true) :
  HC Tryz.prog 116 #[.pointer (some ⟨p,0,none⟩)] h (fun v h'=>∃F',v=.int .i64 (mayA A:Int)∧Hp h (pagI p r).F [pagI p { r with cF:=F' }] [] h'):=by
 have hk:DkOk r.rd.abs:=by rw [I.dk];exact I.ok
 have hsz:=okSz_cases I.sz;have hsR:r.size=A.size:=I.size;have hmR:r.many=A.now.length:=I.many;have hsuR:r.sure=A.sure.length:=I.sure;have hfrR:r.fr=A.fr:=I.fr;have hndR:r.nd=A.nd:=I.nd;have hlkR:r.link=A.link:=I.link;have hsm:=I.sm;have hnm:=I.nm;have hndb:=I.ndb;have hfrb:=I.frb;have hlkb:=I.lkb;refine HC.go Tryz.func116 31 ?_;refine .seq<|.r<|.z .asI<|.nil ?_;refine .seq<|.seq<|?_;have ok:=(ok).popn;refine .r<|.z .mvP<|.z .nil<|.z (.fa T.fd119_1)<|.z (.fa T.fd117_1)<|.z (.ldx T.ag3 ok.m0)<|.z .eql<|.nil ?_;refine .cd (fun C0=>?_) (fun C0=>?_)
 ·
  have h0:A.now=[]:=List.eq_nil_of_length_eq_zero (by omega);refine .seq<|.seq<|.r<|.z .mvP<|.z .nil<|.z (.fa T.fd119_4)<|.z (.ldx T.ag3 ok.m0)<|.z .gtr<|.nil ?_;refine .cd (fun C1=>?_) (fun C1=>?_)
  ·
   refine .seq<|.r<|.z .asI<|.nil ?_;have ok:=Hp.pcls (p:=p) (at_:=r.at_) (bs:=r.bs) (ok);refine .ret ⟨.int .i64 8,Res.one rfl rfl,⟨r.cF,by unfold mayA;rw [if_pos h0,if_neg (fun h=>by rw [h] at hsuR;simp at hsuR;omega)];rfl,(ok).k1.tR.tR⟩⟩
  refine .skip<|.seq<|.r<|.z .asI<|.nil ?_;have ok:=Hp.pcls (p:=p) (at_:=r.at_) (bs:=r.bs) (ok);refine .ret ⟨.int .i64 0,Res.one rfl rfl,⟨r.cF,by unfold mayA;rw [if_pos h0,if_pos (List.eq_nil_of_length_eq_zero (by omega))];rfl,(ok).k1.tR.tR⟩⟩
 refine .skip<|.seq<|?_;have hpg:=I.pgs;have hpA:pagesA A=A.now:=if_pos hin;have h0:A.now≠[]:=fun h=>by rw [h] at hmR;simp at hmR;omega
 have hiP:0<(pagesA A).length:=by rw [hpA];exact List.length_pos_iff.2 h0
 obtain ⟨p1,p2,p3,p4⟩:=I.page hA hiP;rw [show ((0:Nat):Int)+1=1 from rfl] at p3 p4;refine .r<|.z .mvP<|?_;have ok:=Hp.pcls (p:=p) (at_:=r.at_) (bs:=r.bs) (ok);refine .c' 18 .func (page_any (p:=p) (r:=(⟨r.fr,r.nd,r.link,r.am,r.at_,r.in_,r.many,r.bm,r.bs,r.d,r.rd,r.size,r.sure,r.c,r.cF,r.S,r.dark⟩:RA)) (E:=E) (i:=0) (no:=1) (l:=((pagesA A).getD 0 [])) (ok.f1.f1).loc2 hk rfl (by omega) (show r.size≤4096 by omega) p1 p2 p3 p4) ?_;rintro _ η1 ⟨Fo1,ao1,co1,rfl,q⟩;have ok:=(ok.f1.f1).lift2 q;try dsimp only at ok
 refine .z .mvU<|.z .ex<|.z .ex<|.z .asS<|.z .asI<|.nil ?_;refine .seq<|.seq<|.r<|.z .mvI<|.z .neq<|.nil ?_;refine .cf<|.skip<|.seq<|.seq<|?_;have ok:=(ok.n1).popn;refine .r<|.z .mvS<|.z .mvP<|.z .nil<|.z (.fa T.fd119_3)<|.z (.ldx T.ag3 ok.m0)<|.c' 29 .func (headed_any (n:=r.size) (a:=ao1) (c:=co1) (l:=((pagesA A).getD 0 [])) (RdL.ofCapB (v:=(ao1,((pagesA A).getD 0 []).length,co1)) (l:=((pagesA A).getD 0 [])) ok.m5)) ?_;rintro _ η2 ⟨rfl,hx⟩;have ok:=ok.ext hx;refine .z .not<|.nil ?_;refine .cond (fun C3=>?_) (fun C3=>?_)
 ·
  refine .seq<|.r<|.z .asI<|.nil ?_;have ok:=Hp.pcls (p:=p) (at_:=r.at_) (bs:=r.bs) (ok);refine .ret ⟨.int .i64 8,Res.one rfl rfl,⟨Fo1,by unfold mayA;rw [if_neg h0,if_neg (by rw [←hpA,←hsR];simpa using C3)];rfl,(ok).k1.tR.tR⟩⟩
 refine .skip<|.seq<|.r<|.z .asI<|.nil ?_;have ok:=Hp.pcls (p:=p) (at_:=r.at_) (bs:=r.bs) (ok);refine .ret ⟨.int .i64 0,Res.one rfl rfl,⟨Fo1,by unfold mayA;rw [if_neg h0,if_pos (by rw [←hpA,←hsR];simpa using C3)];rfl,(ok).k1.tR.tR⟩⟩
theorem nd_len:∀(n:Nat) (l:List Int),l.Nodup→(∀x∈l,1≤x∧x≤(n:Int))→l.length≤n
 | 0,[],_,_=>Nat.le_refl _
 | 0,a::l,_,h=>by have:=h a List.mem_cons_self;omega
 | n+1,l,hn,h=>by
  have key:∀x∈l.erase ((n:Int)+1),1≤x∧x≤(n:Int):=fun x hx=>by
   have h1:=(List.Nodup.mem_erase_iff hn).1 hx;have h2:=h x h1.2;have h3:=h1.1;omega
  have h4:=nd_len n _ (hn.erase _) key;have h5:l.length≤(l.erase ((n:Int)+1)).length+1:=by
   rw [List.length_erase];split<;>omega
  omega
theorem unl_len {bs:List (Int × RB)} {n:Nat} (hn:(bs.map (·.1)).Nodup) (hk:∀x∈bs,1≤x.1∧x.1≤(n:Int)):bs.length≤n:=by
 have:=nd_len n (bs.map (·.1)) hn fun x hx=>by
  obtain ⟨y,hy,rfl⟩:=List.mem_map.1 hx;exact hk y hy
 simpa using this
theorem unlike_any {h:Heap} {p:Nat} {r:RA} {A:Ah} {E Q:Nat→Prop} (ok:Hp h (pagI p r).F [pagI p r] [bysI E r.rd.fs,pbsI Q r.bs] h) (I:PIs r A) (hA:A.dark=false) (hin:A.in_=true) :
  HC Tryz.prog 117 #[.pointer (some ⟨p,0,none⟩)] h (fun v h'=>∃F' a c,v=.tuple #[.slice a (pgL (unlN A.now A.sure)).length c,.int .i64 0]∧Hp h (pagI p r).F [capI 1 3 (a,(pgL (unlN A.now A.sure)).length,c) ((pgL (unlN A.now A.sure)).map iv),pagI p { r with cF:=F' }] [] h'):=by
 have hk:DkOk r.rd.abs:=by rw [I.dk];exact I.ok
 have hsz:=okSz_cases I.sz;have hsR:r.size=A.size:=I.size;have hmR:r.many=A.now.length:=I.many;have hsuR:r.sure=A.sure.length:=I.sure;have hfrR:r.fr=A.fr:=I.fr;have hndR:r.nd=A.nd:=I.nd;have hlkR:r.link=A.link:=I.link;have hsm:=I.sm;have hnm:=I.nm;have hndb:=I.ndb;have hfrb:=I.frb;have hlkb:=I.lkb;refine HC.go Tryz.func117 65 ?_;refine .seq<|.r<|.z .asS<|.z .asI<|.nil ?_;refine .seq<|.r<|.z .asS<|?_;have ok:=ok.nilC (k:=1) (e:=3);refine .nil ?_;refine .seq<|.seq<|?_;have ok:=(ok.n1).popn;obtain ⟨mb,hbm⟩:=(I.good hA).bm hin;rw [hbm] at ok;try rw [hbm]
 have ok:=Hp.nowSome (ok.n2);have hnd:(r.bs.map (·.1)).Nodup:=by have:=MapT.nodup ok.m0;rwa [bsE_keys] at this
 have hbl:r.bs.length≤1048576:=Nat.le_trans (unl_len hnd (I.good hA).keys) hnm.1;refine .r<|.z .mvP<|.z .nil<|.z (.fa T.fd119_1)<|.z (.fa T.fd117_2)<|.z (.ldx T.ag115 ok.m1)<|.a' 16 (.rng T.mp115 ok) ?_;rintro _ η1 ⟨ib1,rfl,ok⟩;refine .nil ?_;refine .block fun K0 hK0=>.loop (fun m s hh=>∃(ks:List Int) (td:List (Int × RB)) (a4:Option Addr) (n4 c4:Nat),Has s [(0,.pointer (some ⟨p,0,none⟩)),(4,.slice a4 n4 c4),(16,.pointer (some ⟨ib1,0,none⟩))]∧Hp h (pagI p r).F [capI 1 3 (a4,n4,c4) (ks.map iv),itI (Value.int .i64) ib1 mb (bsE r.bs) (bsE td),boxI p 119 [.int .i64 (r.fr:Int),.int .i64 (r.nd:Int),.int .u64 (r.link:Int),.map (some r.am),.bool r.in_,.int .i64 (r.many:Int),.map (some mb),.pointer (some ⟨r.d,0,none⟩),.int .i64 (r.size:Int),.int .i64 (r.sure:Int),.pointer (some ⟨r.c,0,none⟩),.bool r.dark],mapI (Value.int .i64) r.am (atE r.at_),cacI r.c r.cF r.S,dskI r.d r.rd] [bysI E r.rd.fs,pbsI Q r.bs] hh∧(ks++td.map (·.1)).Perm (r.bs.map (·.1))∧m=td.length) ?_ ?_
 ·exact ⟨_,[],r.bs,none,0,0,⟨rfl,rfl,rfl,trivial⟩,ok.n4.n4.n4.n4.n4.n5.cx (by simp),.refl _,rfl⟩
 rintro _ _ η2 ⟨ks,td,a4,n4,c4,hs,ok,hcp,rfl⟩ J0 hJ0;refine .frame hs fun τ=>?_;refine .seq<|.r<|.a' 17 (.nxt ok.n1) ?_;rintro _ η3 (⟨hnil,rfl,ok⟩ | ⟨ipq1,pq1,hpq1,rfl,ok⟩)
 ·
  have htd:td=[]:=by simpa [bsE] using hnil
  rw [htd,List.map_nil,List.append_nil] at hcp;have ok:=(ok).itm;obtain rfl:n4=ks.length:=Cap.lenI ok.m1;have hkl:ks.length≤1048576:=by have:=hcp.length_eq;simp at this;omega
  refine .z .ex<|.nil ?_;refine .seq<|.cf<|.exit<|hK0 _ _<|.seq<|.r<|.z .mvS<|.c' 26 .func (sortI_any (ok.n1) (by omega)) ?_;rintro _ η4 ⟨S,rfl,hSq,hSs,ok⟩;have ok:=ok.frzI rfl;have hSp:=hSq.trans hcp;have hSl:S.length=ks.length:=hSq.length_eq;have hSm:=ok.r0.m;have hSc:=ok.r0.c;simp only at hSm hSc;have hfs:=I.sfact hA hin hSp;rw [show ks.length=S.length from hSl.symm];refine .nil ?_;refine .seq<|.r<|.z .asS<|?_;have ok:=ok.nilC (k:=1) (e:=3);refine .nil ?_;refine .seq<|.seq<|.r<|.z .mvS<|.z (.len T.el167)<|.z .mvI<|?_;have ok:=Hp.pcls (p:=p) (at_:=r.at_) (bs:=r.bs) (ok.n5.n5.n3.n5.n5);refine .nil ?_;refine .block fun K2 hK2=>.loop (fun m s hh=>∃(i:Nat) (cFi:Nat→Prop) (a6:Option Addr) (n6 c6:Nat),Has s [(0,.pointer (some ⟨p,0,none⟩)),(6,.slice a6 n6 c6),(27,.slice a4 S.length c4),(28,.int .i64 (S.length:Int)),(29,.int .i64 (i:Int))]∧Hp h (pagI p r).F [capI 1 3 (a6,n6,c6) (((S.take i).filter (unK A.now A.sure)).map iv),pagI p (⟨r.fr,r.nd,r.link,r.am,r.at_,r.in_,r.many,(some mb),r.bs,r.d,r.rd,r.size,r.sure,r.c,cFi,r.S,r.dark⟩:RA)] [rdI (blkC (sv (a4,S.length,c4))) none_ (a4,S.length,c4) S,bysI E r.rd.fs,pbsI Q r.bs] hh∧i≤S.length∧m=S.length-i) ?_ ?_
  ·exact ⟨_,0,r.cF,none,0,0,⟨rfl,rfl,rfl,rfl,rfl,trivial⟩,ok.n1.cx (by simp),Nat.zero_le _,rfl⟩
  rintro _ _ η5 ⟨i,cFi,a6,n6,c6,hs,ok,hi,rfl⟩ J1 hJ1;refine .frame hs fun τ=>?_;refine .seq<|.r<|.z .lss<|.nil ?_;refine .seq<|.cdr (fun C1=>?_) (fun C1=>?_)
  ·
   refine .exit<|hK2 _ _<|.seq<|?_;have hfin:(S.take i).filter (unK A.now A.sure)=pgL (unlN A.now A.sure):=by rw [show i=S.length by omega,List.take_length];exact I.sout hA hnd hSp hSs
   obtain rfl:n6=((S.take i).filter (unK A.now A.sure)).length:=Cap.lenI ok.m0;refine .r<|.z .mvS<|.z .asS<|.z .asI<|.nil ?_;refine .ret ⟨.tuple #[.slice a6 (((S.take i).filter (unK A.now A.sure)).length) c6,.int .i64 0],Res.two rfl rfl rfl,⟨cFi,a6,c6,by rw [hfin],by have o:=(ok).k2.tR.tR.tR;rw [hfin] at o;exact o⟩⟩
  refine .skip<|.seq<|.block fun K3 hK3=>.seq<|?_;have hiS:i<S.length:=by omega
  obtain ⟨w,hkw,hwn,x,hx,l,hnl,hxl⟩:=hfs S[i] (List.getElem_mem hiS);refine .r<|?_;obtain ⟨bb1,oo1,rfl,fb1⟩:=ok.r0.pos (by omega);refine .z (.ix1 i T.el167 T.sz3)<|.z (.ld T.ag3 (ok.r0.i64 (i:=i) (by omega)))<|.z .asI<|.nil ?_;refine .seq<|.seq<|?_;have ok:=(ok.n1).popn;have ok:=Hp.nowSome ok.n2;refine .r<|.z .mvI<|.z .mvP<|.z .nil<|.z (.fa T.fd119_4)<|.z (.ldx T.ag3 ok.m1)<|.z .leq<|.nil ?_;refine .cd (fun C2=>?_) (fun C2=>?_)
  ·
   have hws:w<A.sure.length:=by omega
   have hSw:r.S w=some (A.sure.getD w []):=by rw [I.S];simp [hws]
   have hsrc:SrcOk r.rd.abs r.at_ r.size w (A.sure.getD w []):=by have:=(I.good hA).src w hws;rw [I.dk,I.size,show (A.sure.getD w [])=A.sure[w] by simp [hws]];exact this
   have hsl:(A.sure.getD w []).length=r.size:=by rw [I.size,show (A.sure.getD w [])=A.sure[w] by simp [hws]];exact (I.good hA).sl _ (List.getElem_mem hws)
   refine .seq<|.r<|.z .mvP<|.z .mvI<|?_;have ok:=Hp.pcls (p:=p) (at_:=r.at_) (bs:=r.bs) (ok.n4.n4.n2.n4.n4);refine .c' 42 .func (old_any (p:=p) (r:=(⟨r.fr,r.nd,r.link,r.am,r.at_,r.in_,r.many,(some mb),r.bs,r.d,r.rd,r.size,r.sure,r.c,cFi,r.S,r.dark⟩:RA)) (E:=E) (i:=w) (no:=S[i]) (l:=(A.sure.getD w [])) (ok.f1).loc1 hk hkw (by omega) (show r.size≤4096 by omega) hsl hSw hsrc) ?_;rintro _ η6 ⟨Fo1,ao1,co1,rfl,q⟩;have ok:=(ok.f1).lift2 q;try dsimp only at ok
   refine .z .mvU<|.z .ex<|.z .ex<|.z .asS<|.z .asI<|.nil ?_;refine .seq<|.seq<|.r<|.z .mvI<|.z .neq<|.nil ?_;refine .cf<|.skip<|.seq<|?_;have ok:=(ok.n1).popn;have ok:=Hp.nowSome ok.n2;have ok:=ok.d2 (rdI Q Q (bsA r.bs S[i],bsN r.bs S[i],bsC r.bs S[i]) l) (Pbs.rd ok.r2 hx hxl) (fun _ h=>h.elim id id);refine .q (hm:=mixed)<|.z .mvS<|.z (.bts T.el22 T.in5 T.st9 (ok.m5).sl)<|.z .mvP<|.z .nil<|.z (.fa T.fd119_1)<|.z (.fa T.fd117_2)<|.z (.ldx T.ag115 ok.m1)<|.z .mvI<|.z (.lk (KV.int .i64) (S[i]) (v:=.slice (bsA r.bs S[i]) (bsN r.bs S[i]) (bsC r.bs S[i])) T.mp115 (inB_iff T.in3) T.zr22 ok.m0 (by exact bs_get))<|.z (.bts T.el22 T.in5 T.st9 (ok.r0).by)<|.z .tEqB<|.nil ?_;refine .cd (fun C4=>?_) (fun C4=>?_)
   ·
    have hun:unK A.now A.sure S[i]=false:=by unfold unK;rw [show (S[i]-1).toNat=w by omega,hnl,show A.sure[w]? = some (A.sure.getD w []) by simp [hws],←C4];simp
    refine .exit<|hK3 _ _<|.r<|.z (.addI (b:=1))<|.z .mvI<|?_;have ok:=Hp.pcls (p:=p) (at_:=r.at_) (bs:=r.bs) (ok.n4.n4.n2.n4.n4);refine .nil ?_;refine .end<|hJ1 _ _ _ ⟨i+1,Fo1,a6,n6,c6,⟨rfl,rfl,rfl,rfl,rfl,trivial⟩,ok.n2.k2.f3.f2.f3.e3.cx (by rw [filt_take (by omega)];simp [hun,iv]),by omega,rfl⟩ (by omega)
   have hun:unK A.now A.sure S[i]=true:=by unfold unK;rw [show (S[i]-1).toNat=w by omega,hnl,show A.sure[w]? = some (A.sure.getD w []) by simp [hws]];exact decide_eq_true (fun e=>C4 (by injection e with e;exact e.symm))
   refine .skip<|.r<|.z .mvS<|.z .mvI<|.a' 61 (.lit [.tmp 60] (cs:=[.int .i64 (S[i])]) T.el167 T.sz3 T.zr3 ok ⟨rfl,trivial⟩) ?_;rintro _ η7 ⟨pb1,rfl,ok,xe⟩;refine .a' 62 (.app (news:=[.int .i64 (S[i])]) T.el167 T.sz3 T.by3 T.zr3 ok.n7 (ok.n7.m1).sl (oneL rfl) (by have:=List.length_filter_le (unK A.now A.sure) (S.take i);simp only [List.length_map,List.length_take,List.length_cons,List.length_nil] at this⊢;omega)) ?_;rintro _ η8 ⟨ya1,yn1,yc1,rfl,ok,ap⟩;refine .z .asS<|.nil ?_;refine .end<|hK3 _ _<|.r<|.z (.addI (b:=1))<|.z .mvI<|?_;have ok:=Hp.pcls (p:=p) (at_:=r.at_) (bs:=r.bs) (ok.n6.n6.n4.n6.n6);refine .nil ?_;refine .end<|hJ1 _ _ _ ⟨i+1,Fo1,ya1,yn1,yc1,⟨rfl,rfl,rfl,rfl,rfl,trivial⟩,ok.n1.k2.f3.f2.f3.e3.cx (by rw [filt_take (by omega)];simp [hun,iv]),by omega,rfl⟩ (by omega)
  have hun:unK A.now A.sure S[i]=true:=by unfold unK;rw [show (S[i]-1).toNat=w by omega,hnl,List.getElem?_eq_none (by omega)];rfl
  refine .skip<|.r<|.z .mvS<|.z .mvI<|.a' 61 (.lit [.tmp 60] (cs:=[.int .i64 (S[i])]) T.el167 T.sz3 T.zr3 ok ⟨rfl,trivial⟩) ?_;rintro _ η9 ⟨pb2,rfl,ok,xe⟩;refine .a' 62 (.app (news:=[.int .i64 (S[i])]) T.el167 T.sz3 T.by3 T.zr3 ok.n6 (ok.n6.m1).sl (oneL rfl) (by have:=List.length_filter_le (unK A.now A.sure) (S.take i);simp only [List.length_map,List.length_take,List.length_cons,List.length_nil] at this⊢;omega)) ?_;rintro _ η10 ⟨ya2,yn2,yc2,rfl,ok,ap⟩;refine .z .asS<|.nil ?_;refine .end<|hK3 _ _<|.r<|.z (.addI (b:=1))<|.z .mvI<|.nil ?_;refine .end<|?_;have ok:=Hp.pcls (p:=p) (at_:=r.at_) (bs:=r.bs) (ok.n6.n6.n4.n6.n6);refine hJ1 _ _ _ ⟨i+1,cFi,ya2,yn2,yc2,⟨rfl,rfl,rfl,rfl,rfl,trivial⟩,ok.n1.k2.cx (by rw [filt_take (by omega)];simp [hun,iv]),by omega,rfl⟩ (by omega)
 obtain ⟨q,hq,hpe⟩:=map_some (f:=fun p:Int × RB=>(p.1,bsV p.2)) hpq1;have hk1:pq1.1=q.1:=by rw [←hpe]
 rw [show (bsE td).eraseIdx ipq1=bsE (td.eraseIdx ipq1) from (map_erase _ _ _).symm] at ok;refine .z .ex<|.nil ?_;refine .seq<|.ct<|.skip<|.block fun K1 hK1=>.seq<|.r<|.z (.ent (ok.m0).2)<|.z .ex<|.z .asI<|.nil ?_;have hkl0:ks.length≤1048576:=by have:=hcp.length_eq;simp at this;omega
 refine .r<|.z .mvS<|.z .mvI<|.a' 23 (.lit [.tmp 22] (cs:=[.int .i64 pq1.1]) T.el167 T.sz3 T.zr3 ok ⟨rfl,trivial⟩) ?_;rintro _ η11 ⟨pb3,rfl,ok,xe⟩;refine .a' 24 (.app (news:=[.int .i64 pq1.1]) T.el167 T.sz3 T.by3 T.zr3 ok.n2 (ok.n2.m1).sl (oneL rfl) (by simp;omega)) ?_;rintro _ η12 ⟨ya3,yn3,yc3,rfl,ok,ap⟩;refine .z .asS<|.nil ?_;refine .end<|hK1 _ _<|.end<|?_;have ok:=(ok.n2).itc;refine hJ0 _ _ _ ⟨ks++[q.1],td.eraseIdx ipq1,ya3,yn3,yc3,⟨rfl,rfl,rfl,trivial⟩,ok.n6.n6.n6.n6.n4.n5.k6.cx (by simp [iv,hk1]),coll_step hq hcp,rfl⟩ (by rw [List.length_eraseIdx_of_lt (List.getElem?_eq_some_iff.1 hq).1];have:=(List.getElem?_eq_some_iff.1 hq).1;omega)
open Go Go.HL
theorem begN_21 {d:Dk} {nd link size:Nat} : (begN d nd link size).2.1=if 0<nd then nd else 20:=by unfold begN;split<;>rfl
theorem begN_22 {d:Dk} {nd link size:Nat} (h:link<18446744073709551616):(begN d nd link size).2.2<18446744073709551616:=by
 unfold begN;split
 ·exact h
 ·exact firstN_lt _
def SzLe (d d':Dk):Prop:=(sizeN d' nM).1≤(sizeN d nM).1
theorem SzLe.refl (d:Dk):SzLe d d:=Nat.le_refl _
theorem SzLe.trans {a b c:Dk} (h1:SzLe a b) (h2:SzLe b c):SzLe a c:=Nat.le_trans h2 h1
theorem sz_dark {d d':Dk} (h:d'.dark=true):SzLe d d':=by unfold SzLe;rw [show sizeN d' nM=(0,false) from if_pos (.inl h)];simp
theorem sz_same {d d':Dk} (hd:d'.dark=d.dark) (hf:d'.fs nM=d.fs nM):SzLe d d':=by unfold SzLe sizeN thereN;rw [hd,hf];exact Nat.le_refl _
theorem sz_power {d:Dk} : SzLe d (powerN d).1:=by
 unfold powerN;split
 ·exact sz_dark rfl
 ·exact sz_same rfl rfl
theorem sz_do {d:Dk} {c:Chn} : SzLe d (doN d nL c).1:=by
 unfold doN;split
 ·exact sz_power
 ·exact sz_same rfl (put1_ne (f:=d.fs) (v:=some (chgF ((d.fs nL).getD noF) c)) nML)
theorem sz_write {d:Dk} {z:Int} {l:List UInt8} : SzLe d (writeN d nL z l).1:=by
 unfold writeN;repeat' split
 all_goals first | exact sz_do | exact .refl _
theorem sz_sync {d:Dk} : SzLe d (syncN d nL).1:=by
 unfold syncN;repeat' split
 all_goals first | exact .refl _ | exact sz_power | exact sz_same rfl (put1_ne nML)
theorem sz_logs:∀ {l:List Fr} {d:Dk} {e p:Nat},SzLe d (logsN d e p l).1.1
 | [],d,_,_=>.refl _
 | f::l,d,e,p=>by
  unfold logsN;split
  ·exact sz_write.trans sz_logs
  ·exact sz_write
theorem sz_beg {d:Dk} {nd link size:Nat} : SzLe d (begN d nd link size).1.1:=by
 unfold begN;split
 ·exact .refl _
 ·exact sz_write
theorem sz_put {d:Dk} {e p:Nat} {l:List Fr} : SzLe d (thenN (logsN d e p l).1 fun d=>syncN d nL).1:=by
 unfold thenN;split
 ·exact sz_logs.trans sz_sync
 ·exact sz_logs
theorem AhOk.mark {A:Ah} (O:AhOk A):(sizeN A.dk nM).1≤1+A.fr:=by
 obtain ⟨T,fs,hT,st⟩:=O.st;cases st with
 | none h4 h5 h6 h7 h8=>rw [size_st O.hd (base:=none) (ops:=[]) (cur:=none) (by rw [h7];exact .syn none)];simp
 | log salt mk hs hok he hnd hfr hlk hL hM hmk hov hnb=>rw [size_st O.hd (base:=some mk) (ops:=[]) (cur:=some mk) (by rw [hM];exact .syn _)];simp;omega
theorem AhOk.nd {A:Ah} (O:AhOk A):(A.nd=0∧A.fr=0)∨A.nd=20+A.fr*(16+A.size):=by
 obtain ⟨T,fs,hT,st⟩:=O.st;cases st with
 | none h4 h5 h6 h7 h8=>exact .inl ⟨h4,h5⟩
 | log salt mk hs hok he hnd hfr hlk hL hM hmk hov hnb=>exact .inr (by rw [hfr];exact hnd)
theorem read_same {d d':Dk} {n:List UInt8} {p z:Int} (hd:d'.dark=d.dark) (hf:d'.fs n=d.fs n):readN d' n p z=readN d n p z:=by unfold readN wrongN;rw [hd,hf]
theorem beg_T {d:Dk} {nd link size:Nat} : (begN d nd link size).1.1.fs nT=d.fs nT:=by
 unfold begN;split
 ·rfl
 ·unfold writeN;repeat' split
  all_goals first | rfl | (unfold doN powerN;repeat' split)<;>first | rfl | exact put1_ne nLT.symm
section
variable {r:RA} {A:Ah}
theorem listN_pg {now sure:List (List UInt8)} (hn:now≠[]) {k:Nat} (hk:k<(listN now sure).length):(listN now sure).getD k 0<now.length∧(now[(listN now sure).getD k 0]?≠sure[(listN now sure).getD k 0]?∨k=0∧(listN now sure).getD k 0=0):=by
 have e:(listN now sure).getD k 0=(listN now sure)[k]:=by simp [hk]
 rw [e];refine ⟨listN_lt hn _ (List.getElem_mem hk),?_⟩;have hm:=List.getElem_mem hk;generalize hx:(listN now sure)[k]=x at hm⊢;unfold listN at hm hk hx;split at hm
 ·right;rename_i h;have hx0:=List.mem_singleton.1 hm;rw [if_pos h] at hk;exact ⟨by simpa using hk,hx0⟩
 ·left;exact of_decide_eq_true (List.mem_filter.1 hm).2
theorem src_beg (I:PIs r A) (O:AhOk A) (hb:(begN A.dk A.nd A.link A.size).1.2=0) (hdk:(begN A.dk A.nd A.link A.size).1.1.dark=false) {i:Nat} {l:List UInt8} (h:SrcOk A.dk r.at_ A.size i l):SrcOk (begN A.dk A.nd A.link A.size).1.1 r.at_ A.size i l:=by
 by_cases h0:0<A.nd
 ·rw [beg_0 h0];exact h
 ·have hnL:A.dk.fs nL=none:=by
   obtain ⟨T,fs,hT,st⟩:=O.st;cases st with
   | none h4 h5 h6=>exact h6
   | log salt mk hs hok he hnd=>omega
  unfold SrcOk at h⊢;split at h
  ·rename_i k hk;rw [read_no (base:=none) (ops:=[]) O.hd nL_ok (by rw [hnL];exact .syn none)] at h;have h2:=h.2;injection h2 with _ h2;cases h2
  ·rw [read_same (d:=A.dk) (by rw [hdk,O.hd]) beg_T];exact h
theorem putP_of (I:PIs r A) (hA:A.dark=false) (hin:A.in_=true) (O:AhOk A) (hn:A.now≠[]) (h1:20+(listN A.now A.sure).length*(16+A.size)≤16777216) (h2:A.nd+(listN A.now A.sure).length*(16+A.size)≤16777216) (hc:0≤A.dk.chg∧A.dk.chg<18446744073709551616):PutP r A.now (listN A.now A.sure):=by
 have g:=I.good hA;have e0:begN r.rd.abs r.nd r.link r.size=begN A.dk A.nd A.link A.size:=by rw [I.dk,I.nd,I.link,I.size]
 have hnd:=O.nd;have hl1:(listN A.now A.sure).length≤(listN A.now A.sure).length*(16+A.size):=Nat.le_mul_of_pos_right _ (by omega);have hl2:A.fr≤A.fr*(16+A.size):=Nat.le_mul_of_pos_right _ (by omega);have hfit:(begN A.dk A.nd A.link A.size).2.1+(listN A.now A.sure).length*(16+A.size)≤16777216:=by rw [begN_21];split<;>omega
 refine { in_:=I.in_.trans hin,bm:=g.bm hin,many:=I.many,lim:=I.nm.1,sz:=by rw [I.size];exact I.sz,len:=by rw [I.size];exact g.nl,lt:=fun k hk=>(listN_pg hn hk).1,pg:=?_,fit:=by rw [e0,I.size];exact hfit,link:=by rw [e0];exact begN_22 I.lkb,fr:=by rw [I.fr];omega,mrk:=?_ }
 ·intro hb k hk;obtain ⟨q1,q2⟩:=listN_pg hn hk;have hnow:=g.now _ q1;unfold NowOk at hnow;have e2:A.now.getD ((listN A.now A.sure).getD k 0) []=A.now[(listN A.now A.sure).getD k 0]:=by
   rw [List.getD_eq_getElem?_getD,List.getElem?_eq_getElem q1];rfl
  have e3:(((listN A.now A.sure).getD k 0+1:Nat):Int)=(((listN A.now A.sure).getD k 0:Nat):Int)+1:=by omega
  rw [e2,e3];constructor
  ·intro x hx;rw [hx] at hnow;exact hnow
  ·intro hx;rw [hx] at hnow;have hnow:A.sure[(listN A.now A.sure).getD k 0]? = some A.now[(listN A.now A.sure).getD k 0]:=hnow;rcases q2 with q2 | ⟨q2,_⟩
   ·exact absurd (by rw [hnow,List.getElem?_eq_getElem q1]) q2
   ·refine ⟨q2,by rw [I.S];exact hnow,?_⟩;obtain ⟨s1,s2⟩:=List.getElem?_eq_some_iff.1 hnow;have:=g.src _ s1;rw [s2] at this;rw [e0] at hb⊢;rw [I.size];exact src_beg I O hb ((beg_res O hc).good hb).1 this
 ·rw [e0,I.fr];have h3:=sz_beg (d:=A.dk) (nd:=A.nd) (link:=A.link) (size:=A.size);have h4:=sz_put (d:=(begN A.dk A.nd A.link A.size).1.1) (e:=(begN A.dk A.nd A.link A.size).2.1) (p:=(begN A.dk A.nd A.link A.size).2.2) (l:=frmsN A.now (listN A.now A.sure));have h5:=O.mark;unfold SzLe at h3 h4;omega
theorem atsN_get {size:Nat} {m:List (Int × Nat)} {e:Nat} {ns:List Nat} (hs:ns.Pairwise (· < ·)) {i:Nat} :
  (∃k,∃hk:k<ns.length,ns[k]=i∧mget (atsN size m e ns) ((i:Int)+1)=some (e+k*(16+size)+16))∨(i∉ns∧mget (atsN size m e ns) ((i:Int)+1)=mget m ((i:Int)+1)):=by
 induction ns generalizing m e with
 | nil=>exact .inr ⟨by simp,rfl⟩
 | cons a ns ih=>
  have hs':=List.pairwise_cons.1 hs;show (∃k,∃hk:k<(a::ns).length,(a::ns)[k]=i∧mget (atsN size (mput m ((a:Int)+1) (e+16)) (e+(16+size)) ns) _=_)∨(_∧mget (atsN size (mput m ((a:Int)+1) (e+16)) (e+(16+size)) ns) _=_);rcases ih (m:=mput m ((a:Int)+1) (e+16)) (e:=e+(16+size)) hs'.2 with ⟨k,hk,h1,h2⟩ | ⟨h1,h2⟩
  ·exact .inl ⟨k+1,by simpa using hk,by simpa using h1,by rw [h2,Nat.succ_mul];congr 1;omega⟩
  ·rw [h2,mget_mput];by_cases h3:i=a
   ·subst h3;exact .inl ⟨0,by simp,rfl,by rw [if_pos rfl];simp⟩
   ·refine .inr ⟨fun h=>(List.mem_cons.1 h).elim h3 h1,by rw [if_neg (by omega)]⟩
theorem log_page {z salt k:Nat} {fs gs:List Fr} {f:Fr} (hf:okL z fs) (hg:okL z gs) (hk:gs[k]? = some f):((logB z salt (fs++gs)).drop (20+fs.length*(16+z)+k*(16+z)+16)).take z=f.b:=by
 obtain ⟨hk1,hk2⟩:=List.getElem?_eq_some_iff.1 hk;have hfl:f.b.length=z:=(hg f (by rw [←hk2];exact List.getElem_mem hk1)).2;have e:fs++gs=(fs++gs.take k)++([f]++gs.drop (k+1)):=by
  rw [←hk2,List.append_assoc,←List.append_assoc (gs.take k),←List.take_succ_eq_append_getElem hk1,List.take_append_drop]
 have hfk:okL z (fs++gs.take k):=fun g h=>(List.mem_append.1 h).elim (hf g) fun h=>hg g (List.mem_of_mem_take h);have hl:=logB_len (salt:=salt) hfk;rw [List.length_append,List.length_take,Nat.min_eq_left (by omega),Nat.add_mul] at hl;unfold logB at hl⊢;rw [e,putsN_app];rw [show ([f]++gs.drop (k+1))=f::gs.drop (k+1) from rfl,putsN,←List.append_assoc];rw [List.drop_append,List.drop_of_length_le (by omega),hl];rw [show 20+fs.length*(16+z)+k*(16+z)+16-(20+(fs.length*(16+z)+k*(16+z)))=16 by omega,List.nil_append];unfold putN;rw [List.append_assoc,List.drop_left' (by simp [fixedN_len])];exact List.take_left' hfl
theorem src_log (I:PIs r A) (hA:A.dark=false) (O:AhOk A) (hp:PgOk A.size A.now) (hn:A.now≠[]) {d':Dk} (hd:d'.dark=false) (hT:d'.fs nT=A.dk.fs nT) (hm:A.now.length≤1048576) {salt:Nat} {fs0:List Fr} {e0:Nat} (h2:e0+(listN A.now A.sure).length*(16+A.size)≤16777216)
  (hf:A.nd=0∧fs0=[]∨0<A.nd∧A.dk.fs nL=synF (some (logB A.size salt fs0))) (hfo:okL A.size fs0) (he:e0=20+fs0.length*(16+A.size)) (hL:d'.fs nL=synF (some (logB A.size salt (fs0++frmsN A.now (listN A.now A.sure))))) :
  ∀i (hi:i<A.now.length),SrcOk d' (atF (atsN A.size r.at_ e0 (listN A.now A.sure)) A.now.length) A.size i A.now[i]:=fun i hi=>by
 have g:=I.good hA;have hg:=frms_ok hp hn (listN_lt (sure:=A.sure) hn);have hgl:(frmsN A.now (listN A.now A.sure)).length=(listN A.now A.sure).length:=frmsN_len;have stL:FSt (d'.fs nL) (some (logB A.size salt (fs0++frmsN A.now (listN A.now A.sure)))) [] (some (logB A.size salt (fs0++frmsN A.now (listN A.now A.sure)))):=by rw [hL];exact .syn _
 unfold SrcOk;unfold atF;rw [mget_filter,if_pos (by omega)];rcases atsN_get (size:=A.size) (m:=r.at_) (e:=e0) (ns:=listN A.now A.sure) listN_srt (i:=i) with ⟨k,hk,q1,q2⟩ | ⟨q1,q2⟩
 ·rw [q2];have hkm:k*(16+A.size)+(16+A.size)≤(listN A.now A.sure).length*(16+A.size):=by rw [←Nat.succ_mul];exact Nat.mul_le_mul_right _ hk
  refine ⟨by omega,?_⟩;have hfa:(frmsN A.now (listN A.now A.sure))[k]? = some (frmN A.now (decide (k+1=(listN A.now A.sure).length)) i):=by
   rw [List.getElem?_eq_getElem (by omega),frmsN_at hk,q1]
  have:=log_page (salt:=salt) hfo hg hfa;rw [read_st hd nL_ok stL,he,this];show (A.now.getD i [],0)=_;simp [hi]
 ·rw [q2];have hs1:=listN_not hi q1;obtain ⟨s1,s2⟩:=List.getElem?_eq_some_iff.1 hs1;have hsrc:=g.src i s1;rw [s2] at hsrc;unfold SrcOk at hsrc;cases hat:mget r.at_ ((i:Int)+1) with
  | none=>
   rw [hat] at hsrc;simp only at hsrc⊢;rw [read_same (d:=A.dk) (by rw [hd,O.hd]) hT];exact hsrc
  | some k=>
   rw [hat] at hsrc;simp only at hsrc⊢;refine ⟨hsrc.1,?_⟩;rcases hf with ⟨f1,f2⟩ | ⟨f1,f2⟩
   ·exfalso;have hnL:A.dk.fs nL=none:=by
     obtain ⟨T,fs,hT,st⟩:=O.st;cases st with
     | none h4 h5 h6=>exact h6
     | log salt mk hs hok he hnd=>omega
    have h3:=hsrc.2;rw [read_no (base:=none) (ops:=[]) O.hd nL_ok (by rw [hnL];exact .syn none)] at h3;injection h3 with _ h3;cases h3
   ·have stA:FSt (A.dk.fs nL) (some (logB A.size salt fs0)) [] (some (logB A.size salt fs0)):=by rw [f2];exact .syn _
    have h3:=hsrc.2;rw [read_st O.hd nL_ok stA] at h3;rw [read_st hd nL_ok stL];injection h3 with h3 h4;have hlen:(((logB A.size salt fs0).drop k).take A.size).length=A.size:=by rw [h3];exact g.nl _ (List.getElem_mem hi)
    have hsz:=(okSz_b I.sz).1;have hkl:k+A.size≤(logB A.size salt fs0).length:=by
     rw [List.length_take,List.length_drop] at hlen;omega
    have e5:logB A.size salt (fs0++frmsN A.now (listN A.now A.sure))=logB A.size salt fs0++putsN (linkL (fstL A.size salt) fs0) (frmsN A.now (listN A.now A.sure)):=by
     unfold logB;rw [putsN_app,List.append_assoc];rfl
    rw [e5,List.drop_append_of_le_length (by omega),List.take_append_of_le_length (by rw [List.length_drop];omega),h3]
theorem PIs.fail (I:PIs r A) {r':RA} {d:Dk} {nd link:Nat} (h:r' = { r with rd:=r'.rd,nd:=nd,link:=link,at_:=r'.at_,cF:=r'.cF,dark:=true }) (hd:r'.rd.abs=d) (hok:DkOk d) (hn:nd≤16777216) (hl:link<18446744073709551616):PIs r' (failA { A with nd:=nd,link:=link } d 13).1:=by
 rw [h];exact { dk:=hd,fr:=I.fr,nd:=rfl,link:=rfl,in_:=I.in_,many:=I.many,sure:=I.sure,S:=I.S,size:=I.size,dark:=rfl,good:=fun h=>by simp [failA] at h,sz:=I.sz,sm:=I.sm,nm:=I.nm,ndb:=hn,frb:=I.frb,lkb:=hl,ok:=hok }
theorem src_T {d:Dk} {z:Nat} {s:List (List UInt8)} {T:Option (List UInt8)} (hd:d.dark=false) (hz:0<z) (hl:∀l∈s,l.length=z) (hT:d.fs nT=synF T) (hf:T.getD []=s.flatten) (i:Nat) (hi:i<s.length):SrcOk d [] z i s[i]:=by
 unfold SrcOk;show readN d nT _ _=_;cases hc:T with
 | none=>
  rw [hc] at hf;have:=congrArg List.length hf;rw [flat_lenZ hl] at this;have h2:=Nat.mul_pos (show 0<s.length by omega) hz;simp at this;omega
 | some b=>
  rw [hc] at hT hf;rw [read_st hd nT_ok (base:=some b) (ops:=[]) (b:=b) (by rw [hT];exact .syn _)];simp only [Option.getD_some] at hf;rw [hf,flat_drop hl hi]
theorem PIs.over (I:PIs r A) (hA:A.dark=false) (O:AhOk A) (h0:0<A.nd) (hz:(carryN A.dk A.size (scanF (readN A.dk nL 0 A.nd).1)).2=0) {rd:RD} {m:Nat} {cF:Nat→Prop} (ha:rd.abs=(carryN A.dk A.size (scanF (readN A.dk nL 0 A.nd).1)).1):PIs { r.gone rd m with cF:=cF } (overA A).1∧AhOk (overA A).1∧(overA A).2=0∧(overA A).1.in_=A.in_∧(overA A).1.now=A.now∧(overA A).1.sure=A.sure∧(overA A).1.size=A.size∧(overA A).1.dark=false∧(overA A).1.nd=0∧(overA A).1.fr=0:=by
 rcases over_res O h0 with ⟨e1,e2,e3,e4,e5,T,e6,e7⟩ | ⟨e1,e2,_⟩
 ·have g:=I.good hA;refine ⟨?_,e3,e1,by rw [e4],by rw [e4],by rw [e4],by rw [e4],by rw [e4];exact hA,by rw [e4],by rw [e4]⟩;rw [e4] at e3 e6⊢;exact { dk:=ha,fr:=rfl,nd:=rfl,link:=rfl,in_:=I.in_,many:=I.many,sure:=I.sure,S:=I.S,size:=I.size,dark:=I.dark,good:=fun _=>⟨g.sl,g.nl,src_T e3.hd (by have:=(okSz_b I.sz).1;simp only;omega) g.sl e6 e7,g.now,g.keys,g.bm,e3.hd⟩,sz:=I.sz,sm:=I.sm,nm:=I.nm,ndb:=by simp,frb:=by simp,lkb:=by simp,ok:=I.ok.carry }
 ·omega
theorem DkOk.logs:∀ {l:List Fr} {d:Dk} {e p:Nat},DkOk d→DkOk (logsN d e p l).1.1
 | [],_,_,_,k=>k
 | f::l,d,e,p,k=>by
  unfold logsN;split
  ·exact DkOk.logs k.write
  ·exact k.write
theorem DkOk.putd {d:Dk} {fr e p:Nat} {l:List Fr} (k:DkOk d):DkOk (putD d fr e p l).1.1:=
 DkOk.then (f:=fun d=>syncN d nM) (DkOk.then (f:=fun d=>writeN d nM ((sizeN d nM).1:Int) (List.replicate (1+fr+l.length-(sizeN d nM).1) 0)) (DkOk.then (f:=fun d=>syncN d nL) (DkOk.logs k) fun _ k=>k.sync) fun _ k=>k.write) fun _ k=>k.sync
variable (I:PIs r A) (hA:A.dark=false) (O:AhOk A)
include I
theorem PIs.FB:begN r.rd.abs r.nd r.link r.size=begA A:=by unfold begA;rw [I.dk,I.nd,I.link,I.size]
theorem PIs.GD {ns:List Nat} : putD (begN r.rd.abs r.nd r.link r.size).1.1 r.fr (begN r.rd.abs r.nd r.link r.size).2.1 (begN r.rd.abs r.nd r.link r.size).2.2 (frmsN A.now ns)=putA' A ns:=by unfold putA';rw [I.FB,I.fr]
include hA O
theorem PIs.logd (hp:PgOk A.size A.now) (hn:A.now≠[]) (hl:listN A.now A.sure≠[]) (h1:20+(listN A.now A.sure).length*(16+A.size)≤16777216) (h2:A.nd+(listN A.now A.sure).length*(16+A.size)≤16777216) (hc:0≤A.dk.chg∧A.dk.chg<18446744073709551616) (hb0:(begA A).1.2=0) (hp0:(putA' A (listN A.now A.sure)).1.2=0) {rd:RD} {cF:Nat→Prop} (ha:rd.abs=(putA' A (listN A.now A.sure)).1.1) :
    PIs { r with rd:=rd,fr:=r.fr+(listN A.now A.sure).length,nd:=(putA' A (listN A.now A.sure)).2.1,link:=(putA' A (listN A.now A.sure)).2.2,at_:=atF (atsN r.size r.at_ (begA A).2.1 (listN A.now A.sure)) r.many,in_:=false,many:=0,bm:=none,bs:=[],sure:=r.many,cF:=cF,S:=fun i=>A.now[i]? } (logA A (listN A.now A.sure)).1∧(logA A (listN A.now A.sure)).2=0∧AhOk (logA A (listN A.now A.sure)).1∧(A.dk.left<0→(logA A (listN A.now A.sure)).1.dk.left<0):=by
  have e:logA A (listN A.now A.sure)=(⟨(putA' A (listN A.now A.sure)).1.1,A.fr+(listN A.now A.sure).length,(putA' A (listN A.now A.sure)).2.1,(putA' A (listN A.now A.sure)).2.2,false,[],A.now,A.size,A.dark⟩,0):=by
    unfold logA;rw [if_neg (by omega),if_neg (by omega)]
  obtain ⟨b1,b2,_⟩:=(beg_res O hc).good hb0;obtain ⟨q1,q2,T,fs,q3,q4,q5,q6,q7,salt,fs0,q8,q9,q10,q11⟩:=(log_res O hp hn hl h1 h2 hc hb0).good hp0;have hmn:=hp.many;have hnd:(putA' A (listN A.now A.sure)).2.1≤16777216∧A.fr+(listN A.now A.sure).length≤16777216:=by
    have hnd:=O.nd;have hl1:(listN A.now A.sure).length≤(listN A.now A.sure).length*(16+A.size):=Nat.le_mul_of_pos_right _ (by omega);have hl2:A.fr≤A.fr*(16+A.size):=Nat.le_mul_of_pos_right _ (by omega);rw [q6,show (begA A).2.1=_ from begN_21];split<;>omega
  have hbl:(begA A).2.1+(listN A.now A.sure).length*(16+A.size)≤16777216:=by rw [←q6];exact hnd.1
  rw [e];refine ⟨?_,rfl,⟨q1,hp,T,fs,q4,?_⟩,q2⟩
  · have hsrc:=src_log I hA O hp hn q1 q3 (by omega) hbl q8 q9 q10 q11
    exact { dk := ha, fr := by simp only; rw [I.fr], nd := rfl, link := rfl, in_ := rfl, many := rfl, sure := I.many, S := rfl, size := I.size, dark := I.dark,
            good:=fun _=>⟨hp.len,(fun l hl=>by cases hl),(by simp only;rw [I.many,I.size];exact hsrc),(fun i hi=>by cases hi),(fun x hx=>by cases hx),(fun h=>by cases h),q1⟩,
            sz:=I.sz,sm:=I.nm,nm:=by simp,ndb:=hnd.1,frb:=hnd.2,lkb:=q7,ok:=I.ok.begn.putd }
  · cases q5 with
    | none h4 h5 h6 h7 h8=>exact .none h4 h5 h6 h7 h8
    | log salt mk hs hok he hnd hfr hlk hL hM hmk hov hnb=>exact .log salt mk hs hok he hnd hfr hlk hL hM hmk hov hnb
end
section
variable {A:Ah}
theorem commitA_1 (h:A.dark=true):commitA A=(A,13):=if_pos h
variable (h:A.dark=false)
include h
theorem commitA_2 (h2:A.in_=false):commitA A=(A,10):=by unfold commitA;rw [if_neg (by rw [h];decide),if_pos h2]
variable (h2:A.in_=true)
include h2
theorem commitA_3 (h3:mayA A≠0):commitA A=(A,mayA A):=by unfold commitA;rw [if_neg (by rw [h];decide),if_neg (by rw [h2];decide),if_pos h3]
variable (h3:mayA A=0)
include h3
theorem commitA_4 (h4:listN A.now A.sure=[]):commitA A=({ A with in_:=false,now:=[] },0):=by unfold commitA;rw [if_neg (by rw [h];decide),if_neg (by rw [h2];decide),if_neg (by omega),if_pos h4]
variable (h4:listN A.now A.sure≠[])
include h4
theorem commitA_5 (h5:16777216<20+(listN A.now A.sure).length*(16+A.size)):commitA A=(A,5):=by unfold commitA;rw [if_neg (by rw [h];decide),if_neg (by rw [h2];decide),if_neg (by omega),if_neg h4,if_pos h5]
variable (h5:¬16777216<20+(listN A.now A.sure).length*(16+A.size))
include h5
theorem commitA_6 (h6:16777216<A.nd+(listN A.now A.sure).length*(16+A.size)) (h7:(overA A).2≠0):commitA A=overA A:=by unfold commitA;rw [if_neg (by rw [h];decide),if_neg (by rw [h2];decide),if_neg (by omega),if_neg h4,if_neg h5,if_pos h6,if_pos h7]
theorem commitA_7 (h6:16777216<A.nd+(listN A.now A.sure).length*(16+A.size)) (h7:(overA A).2=0):commitA A=logA (overA A).1 (listN A.now A.sure):=by unfold commitA;rw [if_neg (by rw [h];decide),if_neg (by rw [h2];decide),if_neg (by omega),if_neg h4,if_neg h5,if_pos h6,if_neg (by omega)]
theorem commitA_8 (h6:¬16777216<A.nd+(listN A.now A.sure).length*(16+A.size)):commitA A=logA A (listN A.now A.sure):=by unfold commitA;rw [if_neg (by rw [h];decide),if_neg (by rw [h2];decide),if_neg (by omega),if_neg h4,if_neg h5,if_neg h6]
end
theorem pgOk_now {r:RA} {A:Ah} (I:PIs r A) (hA:A.dark=false) (hm:mayA A=0):PgOk A.size A.now:=by
 have g:=I.good hA;refine ⟨I.sz,g.nl,I.nm.2,fun h=>?_⟩;unfold mayA at hm;rw [if_neg h] at hm;split at hm
 ·rename_i h1;exact h1
 ·cases hm
theorem list_unl {now sure:List (List UInt8)} (h:unlN now sure≠[]):listN now sure=unlN now sure:=if_neg fun h2=>h h2.1
theorem list_one {now sure:List (List UInt8)} (h:unlN now sure=[]) (h2:now.length≠sure.length):listN now sure=[0]:=if_pos ⟨h,h2⟩
theorem list_nil {now sure:List (List UInt8)} (h:unlN now sure=[]) (h2:now.length=sure.length):listN now sure=[]:=by unfold listN;rw [if_neg (fun h3=>h3.2 h2),h]
theorem may_now {A:Ah} (hm:mayA A=0) (hl:listN A.now A.sure≠[]):A.now≠[]:=fun h=>by
 unfold mayA at hm;rw [if_pos h] at hm;split at hm
 ·rename_i h2;apply hl;rw [h,h2];rfl
 ·cases hm
open Go Go.HL
theorem alog_any2 {h:Heap} {p:Nat} {r:RA} {A:Ah} {a:Option Addr} {c:Nat} {ns:List Nat} {Fl El Q E:Nat→Prop} (ok:Hp h (pagI p r).F [pagI p r] [bysI E r.rd.fs,pbsI Q r.bs,rdI Fl El (a,(pgL ns).length,c) (pgL ns)] h) (I:PIs r A) (hcg:r.rd.chg<500000000) (hP:PutP r A.now ns) :
  HC Tryz.prog 119 #[.pointer (some ⟨p,0,none⟩),.slice a (pgL ns).length c] h (fun v h'=>((begA A).1.2≠0∧v=.int .i64 ((begA A).1.2:Int)∧∃rd' E',rd'.abs=(begA A).1.1∧PUp h h' p r (r.disk rd') E E')∨
   ((begA A).1.2=0∧(putA' A ns).1.2≠0∧v=.int .i64 ((putA' A ns).1.2:Int)∧∃rd' at' cF' E',rd'.abs=(putA' A ns).1.1∧PUp h h' p r { r with rd:=rd',nd:=(begA A).2.1,link:=(begA A).2.2,at_:=at',cF:=cF' } E E')∨
   ((begA A).1.2=0∧(putA' A ns).1.2=0∧v=.int .i64 0∧∃rd' cF' E',rd'.abs=(putA' A ns).1.1∧PUp h h' p r { r with rd:=rd',fr:=r.fr+ns.length,nd:=(putA' A ns).2.1,link:=(putA' A ns).2.2,at_:=atsN r.size r.at_ (begA A).2.1 ns,cF:=cF' } E E')):=by
 have hk:DkOk r.rd.abs:=by rw [I.dk];exact I.ok
 have:=alog_any ok hk hcg hP;rw [I.GD,I.FB] at this;exact this
theorem mayA_13 {A:Ah} (h:mayA A≠0):((mayA A:Nat):Int)≠13:=by
 unfold mayA at h⊢
 repeat' split at h
 all_goals simp_all
theorem list_len {now sure:List (List UInt8)} (hn:now≠[]):(listN now sure).length≤now.length:=by
 have h0:=List.length_pos_iff.2 hn;unfold listN;split
 ·exact h0
 ·unfold unlN;exact Nat.le_trans (List.length_filter_le _ _) (by simp)
theorem done_S {r:RA} {A:Ah} {many:Nat} (I:PIs r A) (hm:many=A.now.length) (hs:r.sure=A.sure.length):∀i:Nat,((i:Int)+1)∉pgL (listN A.now A.sure)→(i<many∨r.sure≤i)→∀l,r.S i=some l→(fun i=>A.now[i]?) i=some l:=fun i hi hb l hl=>by
 rw [I.S] at hl;replace hl:A.sure[i]? = some l:=hl;have h1:=(List.getElem?_eq_some_iff.1 hl).1;have hin:i<A.now.length:=by omega
 have h2:i∉listN A.now A.sure:=fun h=>hi (List.mem_map.2 ⟨i,h,rfl⟩);have h3:=listN_not hin h2;rw [h3] at hl;show A.now[i]? = some l;rw [List.getElem?_eq_getElem hin];exact hl
theorem acommit_any {h:Heap} {p:Nat} {r:RA} {A:Ah} {E Q:Nat→Prop} (ok:Hp h (pagI p r).F [pagI p r] [bysI E r.rd.fs,pbsI Q r.bs] h) (I:PIs r A) (hcg:A.dk.chg<400000000) (hO:A.dark=false→AhOk A) :
  HC Tryz.prog 49 #[.pointer (some ⟨p,0,none⟩)] h (fun v h'=>∃r' E' Q',v=.int .i64 ((commitA A).2:Int)∧PIs r' (commitA A).1∧MUp h h' p r r' E E' Q Q'):=by
 have hk:DkOk r.rd.abs:=by rw [I.dk];exact I.ok
 have hch:r.rd.chg=A.dk.chg:=congrArg Dk.chg I.dk;have hsz:=okSz_cases I.sz;have hsR:r.size=A.size:=I.size;have hmR:r.many=A.now.length:=I.many;have hsuR:r.sure=A.sure.length:=I.sure;have hfrR:r.fr=A.fr:=I.fr;have hndR:r.nd=A.nd:=I.nd;have hlkR:r.link=A.link:=I.link;have hsm:=I.sm;have hnm:=I.nm;have hndb:=I.ndb;have hfrb:=I.frb;have hlkb:=I.lkb;refine HC.go Tryz.func49 98 ?_;refine .seq<|.r<|.z .asI<|.nil ?_;refine .seq<|.seq<|.r<|.z .mvP<|.k 11 .func (look_any (r:=r) ((ok).popn.m0))<|.z .asI<|.nil ?_;refine .seq<|.r<|.z .mvI<|.z .neq<|.nil ?_;refine .cd (fun C0=>?_) (fun C0=>?_)
 ·
  have hdk:r.dark=true:=lookE_t C0;have hA:A.dark=true:=I.dark.symm.trans hdk;refine .seq<|.r<|.z .mvI<|.z .asI<|.nil ?_;refine .ret ⟨.int .i64 ((lookE r.dark:Nat):Int),Res.one rfl rfl,⟨r,E,Q,(by rw [commitA_1 hA,show lookE r.dark=13 from if_pos hdk]),(by rw [commitA_1 hA];exact I),⟨(ok.f1.f1).k1.e2,(fun _ h=>Or.inl h),(fun _ h=>Or.inl h),rfl⟩⟩⟩
 have hdk:r.dark=false:=lookE_f C0;have hA:A.dark=false:=I.dark.symm.trans hdk;refine .skip<|.seq<|.seq<|?_;have ok:=(ok).popn;refine .r<|.z .mvP<|.z .nil<|.z (.fa T.fd119_1)<|.z (.fa T.fd117_0)<|.z (.ldx T.ag4 ok.m0)<|.z .not<|.nil ?_;refine .cond (fun C1=>?_) (fun C1=>?_)
 ·
  refine .seq<|.r<|.z .asI<|.nil ?_;have ok:=Hp.pcls (p:=p) (at_:=r.at_) (bs:=r.bs) (ok);refine .ret ⟨.int .i64 10,Res.one rfl rfl,⟨(⟨r.fr,r.nd,r.link,r.am,r.at_,r.in_,r.many,r.bm,r.bs,r.d,r.rd,r.size,r.sure,r.c,r.cF,r.S,r.dark⟩:RA),E,Q,(by rw [commitA_2 hA (I.in_.symm.trans (by simpa using C1))];rfl),(by rw [commitA_2 hA (I.in_.symm.trans (by simpa using C1))];exact I),⟨(ok.f1.f1).k1.e2,(fun _ h=>Or.inl h),(fun _ h=>Or.inl h),rfl⟩⟩⟩
 have hin:A.in_=true:=I.in_.symm.trans (by simpa using C1);have O:=hO hA;refine .skip<|.seq<|.seq<|.r<|.z .mvP<|?_;have ok:=Hp.pcls (p:=p) (at_:=r.at_) (bs:=r.bs) (ok);refine .c' 22 .func (amay_any (p:=p) (r:=(⟨r.fr,r.nd,r.link,r.am,r.at_,r.in_,r.many,r.bm,r.bs,r.d,r.rd,r.size,r.sure,r.c,r.cF,r.S,r.dark⟩:RA)) (E:=E) (Q:=Q) (ok.f1.f1).loc2 I hA hin) ?_;rintro _ η1 ⟨Fq1,rfl,q⟩;have ok:=(ok.f1.f1).lift1 q;try dsimp only at ok
 refine .z .asI<|.nil ?_;refine .seq<|.r<|.z .mvI<|.z .neq<|.nil ?_;refine .cd (fun C2=>?_) (fun C2=>?_)
 ·
  refine .seq<|.r<|.z .mvP<|.z .mvI<|?_;have ok:=(ok).popn;refine .c' 27 .func (told_any (p:=p) (r:=(⟨r.fr,r.nd,r.link,r.am,r.at_,r.in_,r.many,r.bm,r.bs,r.d,r.rd,r.size,r.sure,r.c,Fq1,r.S,r.dark⟩:RA)) (z:=(mayA A:Int)) (ok).loc0) ?_;rintro _ η2 ⟨rfl,q⟩;have ok:=(ok).lift1 q;refine .z .asI<|.nil ?_;have ok:=Hp.pcls (p:=p) (at_:=r.at_) (bs:=r.bs) (ok);refine .ret ⟨.int .i64 (mayA A:Int),Res.one rfl rfl,⟨(⟨r.fr,r.nd,r.link,r.am,r.at_,r.in_,r.many,r.bm,r.bs,r.d,r.rd,r.size,r.sure,r.c,Fq1,r.S,(toldB (mayA A:Int) r.dark)⟩:RA),E,Q,(by rw [commitA_3 hA hin (by omega)]),(by rw [commitA_3 hA hin (by omega)];exact (I.cF (F:=Fq1)).told (mayA_13 (by omega))),⟨(ok.f1.f1).k1.e2,(fun _ h=>Or.inl h),(fun _ h=>Or.inl h),rfl⟩⟩⟩
 refine .skip<|.seq<|.r<|.z .mvP<|.c' 30 .func (unlike_any (p:=p) (r:=(⟨r.fr,r.nd,r.link,r.am,r.at_,r.in_,r.many,r.bm,r.bs,r.d,r.rd,r.size,r.sure,r.c,Fq1,r.S,r.dark⟩:RA)) (E:=E) (Q:=Q) (ok.f1.f1).loc2 (I.cF (F:=Fq1)) hA hin) ?_;rintro _ η3 ⟨Fq2,aq2,cq2,rfl,q⟩;have ok:=(ok.f1.f1).lift2 q;try dsimp only at ok
 refine .z .mvU<|.z .ex<|?_;have hul:(pgL (unlN A.now A.sure)).length=(unlN A.now A.sure).length:=pgL_len;refine .z .ex<|.z .asS<|.z .asI<|.nil ?_;refine .seq<|.seq<|.r<|.z .mvI<|.z .neq<|.nil ?_;refine .cf<|.skip<|.seq<|.seq<|.join (fun s hh=>∃(bb:Bool),Has s [(0,.pointer (some ⟨p,0,none⟩)),(5,.slice aq2 ((pgL (unlN A.now A.sure)).length) cq2),(52,.bool bb)]∧Hp h (pagI p r).F [capI 1 3 (aq2,(pgL (unlN A.now A.sure)).length,cq2) ((pgL (unlN A.now A.sure)).map iv),pagI p (⟨r.fr,r.nd,r.link,r.am,r.at_,r.in_,r.many,r.bm,r.bs,r.d,r.rd,r.size,r.sure,r.c,Fq2,r.S,r.dark⟩:RA)] [bysI E r.rd.fs,pbsI Q r.bs] hh∧bb=decide (unlN A.now A.sure=[]∧A.now.length=A.sure.length)) ?_ ?_
 ·
  have ok:=(ok.n1).popn;refine .q (hm:=mixed)<|.z .mvS<|.z (.len T.el167)<|.z .eql<|.z .mvB<|.sd (fun G41=>?_) (fun G41=>?_)
  ·
   refine .z .mvP<|.z .nil<|.z (.fa T.fd119_1)<|.z (.fa T.fd117_1)<|.z (.ldx T.ag3 ok.m0)<|.z .mvP<|.z .nil<|.z (.fa T.fd119_4)<|.z (.ldx T.ag3 ok.m0)<|.z .eql<|.z .pkt<|.nil ?_;refine .end<|?_;have ok:=Hp.pcls (p:=p) (at_:=r.at_) (bs:=r.bs) (ok);refine ⟨_,⟨rfl,rfl,rfl,trivial⟩,ok.n1,by rw [decide_eq_decide];exact ⟨fun h=>⟨List.eq_nil_of_length_eq_zero (by omega),by omega⟩,fun h=>by have:=h.2;omega⟩⟩
  refine .y<|.y<|.y<|.y<|.y<|.y<|.y<|.y<|.y<|.y<|.z .pkf<|.nil ?_;refine .end<|?_;have ok:=Hp.pcls (p:=p) (at_:=r.at_) (bs:=r.bs) (ok);refine ⟨false,⟨rfl,rfl,rfl,trivial⟩,ok.n1,(decide_eq_false (fun h=>by have:=congrArg List.length h.1;simp only [List.length_nil] at this;omega)).symm⟩
 rintro s η4 ⟨bb,hs,ok,hbb⟩;refine .frame hs fun τ=>?_;refine .cond (fun C4=>?_) (fun C4=>?_)
 ·
  refine .seq<|?_;have ok:=(ok.n1).popn;refine .r<|.z .mvP<|.z (.bd #[.bool false,.int .i64 0,.map none] T.zr117 T.pl117 rfl)<|.z .nil<|.z (.fa T.fd119_1)<|.ur' (.stA (vs:=[.bool false,.int .i64 0,.map none]) T.sz117 ok (oneL rfl)) ?_;rintro η5 ⟨ok,cg⟩;refine .nil ?_;refine .seq<|.r<|.z .asI<|.nil ?_;have ok:=ok.nowNil (bs:=[]);have ok:=Hp.pcls (p:=p) (at_:=r.at_) (bs:=[]) (ok.n5.n5.n2.n4.n4);have ok:=(ok.f1).pbsNil;refine .ret ⟨.int .i64 0,Res.one rfl rfl,⟨(⟨r.fr,r.nd,r.link,r.am,r.at_,false,0,none,[],r.d,r.rd,r.size,r.sure,r.c,Fq2,r.S,r.dark⟩:RA),E,Q,(by rw [commitA_4 hA hin (by omega) (list_nil (of_decide_eq_true (hbb.symm.trans C4)).1 (of_decide_eq_true (hbb.symm.trans C4)).2)];rfl),(by rw [commitA_4 hA hin (by omega) (list_nil (of_decide_eq_true (hbb.symm.trans C4)).1 (of_decide_eq_true (hbb.symm.trans C4)).2)];exact ((I.cF (F:=Fq1)).cF (F:=Fq2)).drop),⟨(ok.f1).k1.e2,(fun _ h=>Or.inl h),(fun _ h=>Or.inl h),rfl⟩⟩⟩
 refine .skip<|.seq<|.seq<|.r<|.z .mvS<|.z (.len T.el167)<|.z .eql<|.nil ?_;refine .join (fun s hh=>∃(a5:Option Addr) (n5 c5:Nat),Has s [(0,.pointer (some ⟨p,0,none⟩)),(5,.slice a5 n5 c5)]∧Hp h (pagI p r).F [capI 1 3 (a5,n5,c5) ((pgL (listN A.now A.sure)).map iv),pagI p (⟨r.fr,r.nd,r.link,r.am,r.at_,r.in_,r.many,r.bm,r.bs,r.d,r.rd,r.size,r.sure,r.c,Fq2,r.S,r.dark⟩:RA)] [bysI E r.rd.fs,pbsI Q r.bs] hh∧n5=(listN A.now A.sure).length∧(listN A.now A.sure)≠[]) ?_ ?_
 ·
  refine .cd (fun C5=>?_) (fun C5=>?_)
  ·
   have hu0:unlN A.now A.sure=[]:=List.eq_nil_of_length_eq_zero (by omega);have hll:listN A.now A.sure=[0]:=list_one hu0 (fun h=>by rw [decide_eq_true ⟨hu0,h⟩,C4] at hbb;cases hbb);refine .r<|.a' 60 (.lit [.const (.int .i64 1)] (cs:=[.int .i64 1]) T.el167 T.sz3 T.zr3 ok ⟨rfl,trivial⟩) ?_;rintro _ η6 ⟨pb1,rfl,ok,xe⟩;refine .z .asS<|.nil ?_;refine .end<|⟨some ⟨pb1,0,none⟩,1,1,⟨rfl,rfl,trivial⟩,ok.n2.n1.k2.cx (by first | rfl | (rw [hll];done) | (rw [hll];rfl)),by rw [hll];rfl,by rw [hll];simp⟩
  have hu0:unlN A.now A.sure≠[]:=fun h=>by have:=congrArg List.length h;simp only [List.length_nil] at this;omega
  have hll:listN A.now A.sure=unlN A.now A.sure:=list_unl hu0;rw [←hll] at ok⊢;refine .skip<|.end<|⟨aq2,(pgL (listN A.now A.sure)).length,cq2,⟨rfl,rfl,trivial⟩,ok.n1.n1.cx (by first | rfl | (rw [hll];done) | (rw [hll];rfl)),pgL_len,by rw [hll];exact hu0⟩
 rintro s η7 ⟨a5,n5,c5,hs,ok,hn5,hlne⟩;refine .frame hs fun τ=>?_;refine .seq<|?_;have ok:=(ok.n1).popn;obtain rfl:n5=(pgL (listN A.now A.sure)).length:=hn5.trans pgL_len.symm;have hpl:(pgL (listN A.now A.sure)).length=(listN A.now A.sure).length:=pgL_len;have hpn:pgL (listN A.now A.sure)≠[]:=fun h=>by have:=congrArg List.length h;rw [hpl] at this;simp only [List.length_nil] at this;exact hlne (List.eq_nil_of_length_eq_zero this)
 have hlp:0<(listN A.now A.sure).length:=List.length_pos_iff.2 hlne;have ok:=(ok.n5).frzI rfl;have hm0:mayA A=0:=by omega
 have hnow:=may_now hm0 hlne;have hpnow:=pgOk_now I hA hm0;have hll2:(listN A.now A.sure).length≤A.now.length:=list_len hnow;have hplm:(pgL (listN A.now A.sure)).length*(16+A.size)=(listN A.now A.sure).length*(16+A.size):=by rw [hpl]
 have hpb:(listN A.now A.sure).length*(16+A.size)≤1048576*4112:=Nat.mul_le_mul (by omega) (by omega);refine .r<|.z .mvS<|.z (.len T.el167)<|.z .mvP<|.z .nil<|.z (.fa T.fd119_3)<|.z (.ldx T.ag3 ok.m0)<|.z (.addI (a:=16))<|?_;rw [show (16+r.size)=(16+A.size) from (by rw [hsR])];refine .z .mulI<|.z .asI<|.nil ?_;refine .seq<|.seq<|.r<|.z .mvI<|.z (.addI (a:=20))<|.z .gtr<|.nil ?_;refine .cd (fun C6=>?_) (fun C6=>?_)
 ·
  refine .seq<|.r<|.z .asI<|.nil ?_;have ok:=Hp.pcls (p:=p) (at_:=r.at_) (bs:=r.bs) (ok);refine .ret ⟨.int .i64 5,Res.one rfl rfl,⟨(⟨r.fr,r.nd,r.link,r.am,r.at_,r.in_,r.many,r.bm,r.bs,r.d,r.rd,r.size,r.sure,r.c,Fq2,r.S,r.dark⟩:RA),E,Q,(by rw [commitA_5 hA hin hm0 hlne (by omega)];rfl),(by rw [commitA_5 hA hin hm0 hlne (by omega)];exact ((I.cF (F:=Fq1)).cF (F:=Fq2))),⟨(ok.f2.f2).k1.e2,(fun _ h=>Or.inl h),(fun _ h=>Or.inl h),rfl⟩⟩⟩
 refine .skip<|.seq<|.seq<|.r<|.z .mvP<|.z .nil<|.z (.fa T.fd119_0)<|.z (.fa T.fd114_1)<|.z (.ldx T.ag3 ok.m0)<|.z .mvI<|.z .addI<|.z .gtr<|.nil ?_;refine .join (fun s hh=>∃(r1:RA) (A1:Ah) (E1:Nat→Prop),Has s [(0,.pointer (some ⟨p,0,none⟩)),(5,.slice a5 ((pgL (listN A.now A.sure)).length) c5)]∧Hp h (pagI p r).F [pagI p r1] [bysI E1 r1.rd.fs,pbsI Q r1.bs,rdI (blkC (sv (a5,(pgL (listN A.now A.sure)).length,c5))) none_ (a5,(pgL (listN A.now A.sure)).length,c5) (pgL (listN A.now A.sure))] hh∧PIs r1 A1∧AhOk A1∧commitA A=logA A1 (listN A.now A.sure)∧A1.now=A.now∧A1.sure=A.sure∧A1.size=A.size∧A1.in_=true∧A1.dark=false∧A1.nd+(listN A.now A.sure).length*(16+A.size)≤16777216∧r1.rd.chg<450000000∧r1.d=r.d∧(∀j,E1 j→E j∨h.size≤j)) ?_ ?_
 ·
  refine .cd (fun C7=>?_) (fun C7=>?_)
  ·
   have hnp:0<A.nd:=by omega
   obtain ⟨T,fs,hT,stt⟩:=O.st;obtain ⟨salt,hsl,hokf,hends,hread,hsc,htg,hho,hlgl⟩:=over_eq O stt hnp;obtain ⟨Lg,hLg⟩:∃Lg,Lg=logB A.size salt fs:=⟨_,rfl⟩;rw [←hLg] at hread hsc hho hlgl;have hrd:readN r.rd.abs nL 0 (r.nd:Int)=(Lg,0):=by rw [I.dk,hndR];exact hread
   have h20:20≤Lg.length:=by have:=O.nd;omega
   have hsl2:=scanF_len Lg;refine .seq<|.r<|.z .mvP<|?_;have ok:=Hp.pcls (p:=p) (at_:=r.at_) (bs:=r.bs) (ok);refine .c' 81 .func (HC.mono (over_any (p:=p) (r:=(⟨r.fr,r.nd,r.link,r.am,r.at_,r.in_,r.many,r.bm,r.bs,r.d,r.rd,r.size,r.sure,r.c,Fq2,r.S,r.dark⟩:RA)) (E:=E) (L:=Lg) (ok.f1).loc1 hk (show r.rd.chg<600000000 by omega) (show r.size≤4096 by omega) (show r.nd≤16777216 by omega) hrd h20 hho) fun _ _ q=>aft_split q) ?_;rintro _ η8 (⟨hev1,rdv1,mv1,Ev1,rfl,hav1,upv1⟩ | ⟨hev1,rdv1,Ev1,rfl,hav1,upv1⟩)
   ·
    replace hav1:rdv1.abs=(carryN r.rd.abs r.size (scanF Lg)).1:=hav1;have hzv1:=(ok.f1).chg.size;have ok:=(ok.f1).pag upv1;have hnv1:=fun j hj=>(upv1.new j hj).elim ((fun _ h=>Or.inl h) j) fun h1=>Or.inr (Nat.le_trans hzv1 h1);have hkv1:DkOk rdv1.abs:=by rw [hav1];exact (hk).carry
    have hcv1:rdv1.chg≤r.rd.chg+((scanF Lg).length+6):=Int.le_trans (Int.le_of_eq (congrArg Dk.chg hav1)) carry_chg;refine .z .asI<|.nil ?_;refine .seq<|?_;have hab:rdv1.abs=(carryN A.dk A.size (scanF (readN A.dk nL 0 A.nd).1)).1:=by rw [hread,←I.dk,←hsR];exact hav1
    have hz0:(carryN A.dk A.size (scanF (readN A.dk nL 0 A.nd).1)).2=0:=by rw [hread,←I.dk,←hsR];exact hev1
    refine .r<|.z .mvI<|.z .neq<|.nil ?_;obtain ⟨J1,J2,J3,J4,J5,J6,J7,J8,J9,J10⟩:=PIs.over (cF:=Fq2) (m:=mv1) ((I.cF (F:=Fq1)).cF (F:=Fq2)) hA O hnp hz0 hab;refine .cf<|.skip<|.end<|⟨(((⟨r.fr,r.nd,r.link,r.am,r.at_,r.in_,r.many,r.bm,r.bs,r.d,r.rd,r.size,r.sure,r.c,Fq2,r.S,r.dark⟩:RA)).gone rdv1 mv1),(overA A).1,Ev1,⟨rfl,rfl,trivial⟩,(ok.f1.f2.f2).k1.e3,J1,J2,commitA_7 hA hin hm0 hlne (by omega) (by omega) J3,J5,J6,J7,J4.trans hin,J8,by rw [J9];omega,by show rdv1.chg<_;omega,rfl,hnv1⟩
   replace hav1:rdv1.abs=(carryN r.rd.abs r.size (scanF Lg)).1:=hav1;have hzv1:=(ok.f1).chg.size;have ok:=(ok.f1).pag upv1;have hnv1:=fun j hj=>(upv1.new j hj).elim ((fun _ h=>Or.inl h) j) fun h1=>Or.inr (Nat.le_trans hzv1 h1);have hkv1:DkOk rdv1.abs:=by rw [hav1];exact (hk).carry
   have hcv1:rdv1.chg≤r.rd.chg+((scanF Lg).length+6):=Int.le_trans (Int.le_of_eq (congrArg Dk.chg hav1)) carry_chg;refine .z .asI<|.nil ?_;refine .seq<|?_;have hab:rdv1.abs=(carryN A.dk A.size (scanF (readN A.dk nL 0 A.nd).1)).1:=by rw [hread,←I.dk,←hsR];exact hav1
   refine .r<|.z .mvI<|.z .neq<|.nil ?_;refine .cd (fun C8=>?_) (fun C8=>?_)
   ·
    have hcode:(carryN A.dk A.size (scanF (readN A.dk nL 0 A.nd).1)).2=(carryN r.rd.abs r.size (scanF Lg)).2:=by rw [hread,←I.dk,←hsR]
    obtain ⟨k1,k2,k3,k4,k5,k6⟩:=(over_res O hnp).resolve_left (fun hh=>hev1 (by rw [←hcode];exact hh.2.1));have hz13:(carryN r.rd.abs r.size (scanF Lg)).2=13:=by rw [←hcode];exact k2
    have hcm:commitA A=overA A:=commitA_6 hA hin hm0 hlne (by omega) (by omega) (by omega);refine .seq<|.r<|.z .mvP<|.z .mvI<|?_;have ok:=(ok).popn;refine .c' 86 .func (told_any (p:=p) (r:=(⟨r.fr,r.nd,r.link,r.am,r.at_,r.in_,r.many,r.bm,r.bs,r.d,rdv1,r.size,r.sure,r.c,Fq2,r.S,r.dark⟩:RA)) (z:=((carryN r.rd.abs r.size (scanF Lg)).2:Int)) (ok).loc0) ?_;rintro _ η9 ⟨rfl,q⟩;have ok:=(ok).lift1 q;refine .z .asI<|.nil ?_;have ok:=Hp.pcls (p:=p) (at_:=r.at_) (bs:=r.bs) (ok);refine .ret ⟨.int .i64 ((carryN r.rd.abs r.size (scanF Lg)).2:Int),Res.one rfl rfl,⟨(⟨r.fr,r.nd,r.link,r.am,r.at_,r.in_,r.many,r.bm,r.bs,r.d,rdv1,r.size,r.sure,r.c,Fq2,r.S,(toldB ((carryN r.rd.abs r.size (scanF Lg)).2:Int) r.dark)⟩:RA),Ev1,Q,(by rw [hcm,k1,hz13]),(by rw [hcm,k3];exact PIs.fail (nd:=A.nd) (link:=A.link) ((I.cF (F:=Fq1)).cF (F:=Fq2)) (r':=(⟨r.fr,r.nd,r.link,r.am,r.at_,r.in_,r.many,r.bm,r.bs,r.d,rdv1,r.size,r.sure,r.c,Fq2,r.S,(toldB ((carryN r.rd.abs r.size (scanF Lg)).2:Int) r.dark)⟩:RA)) (by rw [←hndR,←hlkR];show (⟨_,_,_,_,_,_,_,_,_,_,_,_,_,_,_,_,toldB _ _⟩:RA)=_;rw [show toldB (((carryN r.rd.abs r.size (scanF Lg)).2:Nat):Int) r.dark=true from if_pos (by rw [hz13];rfl)]) (by show rdv1.abs=_;exact hab) (I.ok.carry) hndb hlkb),⟨(ok.f2.f1).k1.e2,hnv1,(fun _ h=>Or.inl h),rfl⟩⟩⟩
   exfalso;omega
  refine .skip<|.end<|?_;have ok:=Hp.pcls (p:=p) (at_:=r.at_) (bs:=r.bs) (ok);refine ⟨(⟨r.fr,r.nd,r.link,r.am,r.at_,r.in_,r.many,r.bm,r.bs,r.d,r.rd,r.size,r.sure,r.c,Fq2,r.S,r.dark⟩:RA),A,E,⟨rfl,rfl,trivial⟩,(ok.f2.f2).k1.e3,((I.cF (F:=Fq1)).cF (F:=Fq2)),O,commitA_8 hA hin hm0 hlne (by omega) (by omega),rfl,rfl,rfl,hin,hA,by omega,by show r.rd.chg<_;omega,rfl,(fun _ h=>Or.inl h)⟩
 rintro s η10 ⟨r1,A1,E1,hs,ok,I1,O1,hcm,hn1w,hs1,hz1,hin1,hA1,h2b,hc1,hd1,hn1⟩;refine .frame hs fun τ=>?_;refine .seq<|.seq<|?_;have hlw:listN A1.now A1.sure=(listN A.now A.sure):=by rw [hn1w,hs1]
 have hnow1:A1.now≠[]:=by rw [hn1w];exact hnow
 have hp1:PgOk A1.size A1.now:=by rw [hn1w,hz1];exact hpnow
 have hmR1:r1.many=A1.now.length:=I1.many;have hsR1:r1.sure=A1.sure.length:=I1.sure;have hsm1:=I1.sm;have hnm1:=I1.nm;have hch1:r1.rd.chg=A1.dk.chg:=congrArg Dk.chg I1.dk;have hcb:0≤A1.dk.chg∧A1.dk.chg<18446744073709551616:=⟨I1.ok.chg,by omega⟩;have h1b:20+(listN A1.now A1.sure).length*(16+A1.size)≤16777216:=by rw [hlw,hz1];omega
 have h2c:A1.nd+(listN A1.now A1.sure).length*(16+A1.size)≤16777216:=by rw [hlw,hz1];exact h2b
 have hk1:DkOk r1.rd.abs:=by rw [I1.dk];exact I1.ok
 have hPP:PutP r1 A1.now (listN A.now A.sure):=by rw [←hlw];exact putP_of I1 hA1 hin1 O1 hnow1 h1b h2c hcb
 have hbr:=beg_res O1 hcb;refine .r<|.z .mvP<|.z .mvS<|.c' 89 .func (alog_any2 (p:=p) (r:=r1) (E:=E1) (ok.f2.f2.f2).loc3 I1 (show r1.rd.chg<500000000 by omega) (by rw [←hlw];exact putP_of I1 hA1 hin1 O1 hnow1 h1b h2c hcb)) ?_;rintro _ η11 (⟨hb,rfl,rdw1,Ew1,haw1,upw1⟩ | ⟨hb,hc,rfl,rdw1,atw1,cFw1,Ew1,haw1,upw1⟩ | ⟨hb,hc,rfl,rdw1,cFw1,Ew1,haw1,upw1⟩)
 ·
  have hzw1:=(ok.f2.f2.f2).chg.size;have ok:=(ok.f2.f2.f2).pag upw1;have hnw1:=fun j hj=>(upw1.new j hj).elim (hn1 j) fun h1=>Or.inr (Nat.le_trans hzw1 h1);refine .z .asI<|.nil ?_;refine .seq<|.r<|.z .mvI<|.z .neq<|.nil ?_;refine .cd (fun C9=>?_) (fun C9=>?_)
  ·
   obtain ⟨k1,k2,k3,k4⟩:=hbr.bad hb;have hlog:logA A1 (listN A.now A.sure)=failA A1 (begA A1).1.1 13:=by unfold logA;rw [if_pos hb,k1]
   refine .seq<|.r<|.z .mvP<|.z .mvI<|?_;have ok:=(ok).popn;refine .c' 94 .func (told_any (p:=p) (r:=(⟨r1.fr,r1.nd,r1.link,r1.am,r1.at_,r1.in_,r1.many,r1.bm,r1.bs,r1.d,rdw1,r1.size,r1.sure,r1.c,r1.cF,r1.S,r1.dark⟩:RA)) (z:=((begA A1).1.2:Int)) (ok).loc0) ?_;rintro _ η12 ⟨rfl,q⟩;have ok:=(ok).lift1 q;refine .z .asI<|.nil ?_;have ok:=Hp.pcls (p:=p) (at_:=r1.at_) (bs:=r1.bs) (ok);refine .ret ⟨.int .i64 ((begA A1).1.2:Int),Res.one rfl rfl,⟨(⟨r1.fr,r1.nd,r1.link,r1.am,r1.at_,r1.in_,r1.many,r1.bm,r1.bs,r1.d,rdw1,r1.size,r1.sure,r1.c,r1.cF,r1.S,(toldB ((begA A1).1.2:Int) r1.dark)⟩:RA),Ew1,Q,(by rw [hcm,hlog,k1];rfl),(by rw [hcm,hlog];exact PIs.fail (nd:=A1.nd) (link:=A1.link) I1 (r':=(⟨r1.fr,r1.nd,r1.link,r1.am,r1.at_,r1.in_,r1.many,r1.bm,r1.bs,r1.d,rdw1,r1.size,r1.sure,r1.c,r1.cF,r1.S,(toldB ((begA A1).1.2:Int) r1.dark)⟩:RA)) (by rw [←I1.nd,←I1.link];exact (by show (⟨_,_,_,_,_,_,_,_,_,_,_,_,_,_,_,_,toldB _ _⟩:RA)=_;rw [show toldB (((begA A1).1.2:Nat):Int) r1.dark=true from if_pos (by rw [k1];rfl)])) (by show rdw1.abs=_;exact haw1) I1.ok.begn I1.ndb I1.lkb),⟨(ok.f1.f1).k1.e2,hnw1,(fun _ h=>Or.inl h),hd1⟩⟩⟩
  exfalso;omega
 ·
  have hzw1:=(ok.f2.f2.f2).chg.size;have ok:=(ok.f2.f2.f2).pag upw1;have hnw1:=fun j hj=>(upw1.new j hj).elim (hn1 j) fun h1=>Or.inr (Nat.le_trans hzw1 h1);refine .z .asI<|.nil ?_;refine .seq<|.r<|.z .mvI<|.z .neq<|.nil ?_;refine .cd (fun C9=>?_) (fun C9=>?_)
  ·
   obtain ⟨k1,k2,k3,k4⟩:=((by rw [←hlw] at hc⊢;exact (log_res O1 hp1 hnow1 (by rw [hlw];exact hlne) h1b h2c hcb hb).bad hc):(putA' A1 (listN A.now A.sure)).1.2=13∧(putA' A1 (listN A.now A.sure)).1.1.dark=true∧0≤A1.dk.left∧Gd2 A1.size A1.sure A1.now (putA' A1 (listN A.now A.sure)).1.1);have hlog:logA A1 (listN A.now A.sure)=failA { A1 with nd:=(begA A1).2.1,link:=(begA A1).2.2 } (putA' A1 (listN A.now A.sure)).1.1 13:=by unfold logA;rw [if_neg (by omega),if_pos hc,k1]
   refine .seq<|.r<|.z .mvP<|.z .mvI<|?_;have ok:=(ok).popn;refine .c' 94 .func (told_any (p:=p) (r:=(⟨r1.fr,(begA A1).2.1,(begA A1).2.2,r1.am,atw1,r1.in_,r1.many,r1.bm,r1.bs,r1.d,rdw1,r1.size,r1.sure,r1.c,cFw1,r1.S,r1.dark⟩:RA)) (z:=((putA' A1 (listN A.now A.sure)).1.2:Int)) (ok).loc0) ?_;rintro _ η13 ⟨rfl,q⟩;have ok:=(ok).lift1 q;refine .z .asI<|.nil ?_;have ok:=Hp.pcls (p:=p) (at_:=atw1) (bs:=r1.bs) (ok);refine .ret ⟨.int .i64 ((putA' A1 (listN A.now A.sure)).1.2:Int),Res.one rfl rfl,⟨(⟨r1.fr,(begA A1).2.1,(begA A1).2.2,r1.am,atw1,r1.in_,r1.many,r1.bm,r1.bs,r1.d,rdw1,r1.size,r1.sure,r1.c,cFw1,r1.S,(toldB ((putA' A1 (listN A.now A.sure)).1.2:Int) r1.dark)⟩:RA),Ew1,Q,(by rw [hcm,hlog,k1];rfl),(by rw [hcm,hlog];exact PIs.fail I1 (r':=(⟨r1.fr,(begA A1).2.1,(begA A1).2.2,r1.am,atw1,r1.in_,r1.many,r1.bm,r1.bs,r1.d,rdw1,r1.size,r1.sure,r1.c,cFw1,r1.S,(toldB ((putA' A1 (listN A.now A.sure)).1.2:Int) r1.dark)⟩:RA)) (by show (⟨_,_,_,_,_,_,_,_,_,_,_,_,_,_,_,_,toldB _ _⟩:RA)=_;rw [show toldB (((putA' A1 (listN A.now A.sure)).1.2:Nat):Int) r1.dark=true from if_pos (by rw [k1];rfl)]) (by show rdw1.abs=_;exact haw1) I1.ok.begn.putd (by rw [show (begA A1).2.1=_ from begN_21];have:=I1.ndb;split<;>omega) (begN_22 I1.lkb)),⟨(ok.f1.f1).k1.e2,hnw1,(fun _ h=>Or.inl h),hd1⟩⟩⟩
  exfalso;omega
 have hzw1:=(ok.f2.f2.f2).chg.size;have ok:=(ok.f2.f2.f2).pag upw1;have hnw1:=fun j hj=>(upw1.new j hj).elim (hn1 j) fun h1=>Or.inr (Nat.le_trans hzw1 h1);refine .z .asI<|.nil ?_;refine .seq<|.r<|.z .mvI<|.z .neq<|.nil ?_;refine .cf<|.skip<|.seq<|?_;have hdS:=done_S I1 hmR1 hsR1;rw [hlw] at hdS;refine .r<|.z .mvP<|.z .mvS<|.c' 97 .func (adone_any (p:=p) (r:=(⟨(r1.fr+(listN A.now A.sure).length),(putA' A1 (listN A.now A.sure)).2.1,(putA' A1 (listN A.now A.sure)).2.2,r1.am,(atsN r1.size r1.at_ (begA A1).2.1 (listN A.now A.sure)),r1.in_,r1.many,r1.bm,r1.bs,r1.d,rdw1,r1.size,r1.sure,r1.c,cFw1,r1.S,r1.dark⟩:RA)) (ks:=pgL (listN A.now A.sure)) (S':=fun i=>A1.now[i]?) (ok.f2).loc1 hpn (by omega) (show r1.many≤1048576 by omega) (show r1.sure≤1048576 by omega) hdS) ?_;rintro _ η14 ⟨Fn1,rfl,q⟩;have ok:=(ok.f2).lift1 q;try dsimp only at ok
 refine .nil ?_;refine .seq<|.r<|.z .asI<|.nil ?_;obtain ⟨f1,f2,f3,f4⟩:=PIs.logd (rd:=rdw1) (cF:=Fn1) I1 hA1 O1 hp1 hnow1 (by rw [hlw];exact hlne) h1b h2c hcb hb (by rw [hlw];exact hc) (by rw [hlw];exact haw1);rw [hlw] at f1 f2;have ok:=(ok.f2).pbsNil;refine .ret ⟨.int .i64 0,Res.one rfl rfl,⟨(⟨(r1.fr+(listN A.now A.sure).length),(putA' A1 (listN A.now A.sure)).2.1,(putA' A1 (listN A.now A.sure)).2.2,r1.am,(atF (atsN r1.size r1.at_ (begA A1).2.1 (listN A.now A.sure)) r1.many),false,0,none,[],r1.d,rdw1,r1.size,r1.many,r1.c,Fn1,(fun i=>A1.now[i]?),r1.dark⟩:RA),Ew1,Q,(by rw [hcm,f2];rfl),(by rw [hcm];exact f1),⟨(ok.f2).k1.e2,hnw1,(fun _ h=>Or.inl h),hd1⟩⟩⟩
section
variable {A:Ah}
theorem checkA_1 (h:A.dark=true):checkA A=(A,13):=if_pos h
theorem checkA_2 (h:A.dark=false) (h2:A.in_=true):checkA A=(A,10):=by unfold checkA;rw [if_neg (by rw [h];decide),if_pos h2]
theorem checkA_3 (h:A.dark=false) (h2:A.in_=false) (h3:A.fr=0):checkA A=(A,0):=by unfold checkA;rw [if_neg (by rw [h];decide),if_neg (by rw [h2];decide),if_pos h3]
theorem checkA_4 (h:A.dark=false) (h2:A.in_=false) (h3:A.fr≠0):checkA A=overA A:=by unfold checkA;rw [if_neg (by rw [h];decide),if_neg (by rw [h2];decide),if_neg h3]
end
theorem acheck_any {h:Heap} {p:Nat} {r:RA} {A:Ah} {E Q:Nat→Prop} (ok:Hp h (pagI p r).F [pagI p r] [bysI E r.rd.fs,pbsI Q r.bs] h) (I:PIs r A) (hcg:A.dk.chg<400000000) (hO:A.dark=false→AhOk A) :
  HC Tryz.prog 63 #[.pointer (some ⟨p,0,none⟩)] h (fun v h'=>∃r' E' Q',v=.int .i64 ((checkA A).2:Int)∧PIs r' (checkA A).1∧MUp h h' p r r' E E' Q Q'):=by
 have hk:DkOk r.rd.abs:=by rw [I.dk];exact I.ok
 have hch:r.rd.chg=A.dk.chg:=congrArg Dk.chg I.dk;have hsz:=okSz_cases I.sz;have hsR:r.size=A.size:=I.size;have hmR:r.many=A.now.length:=I.many;have hsuR:r.sure=A.sure.length:=I.sure;have hfrR:r.fr=A.fr:=I.fr;have hndR:r.nd=A.nd:=I.nd;have hlkR:r.link=A.link:=I.link;have hsm:=I.sm;have hnm:=I.nm;have hndb:=I.ndb;have hfrb:=I.frb;have hlkb:=I.lkb;refine HC.go Tryz.func63 24 ?_;refine .seq<|.r<|.z .asI<|.nil ?_;refine .seq<|.seq<|.r<|.z .mvP<|.k 5 .func (look_any (r:=r) ((ok).popn.m0))<|.z .asI<|.nil ?_;refine .seq<|.r<|.z .mvI<|.z .neq<|.nil ?_;refine .cd (fun C0=>?_) (fun C0=>?_)
 ·
  have hdk:r.dark=true:=lookE_t C0;have hA:A.dark=true:=I.dark.symm.trans hdk;refine .seq<|.r<|.z .mvI<|.z .asI<|.nil ?_;refine .ret ⟨.int .i64 ((lookE r.dark:Nat):Int),Res.one rfl rfl,⟨r,E,Q,(by rw [checkA_1 hA,show lookE r.dark=13 from if_pos hdk]),(by rw [checkA_1 hA];exact I),⟨(ok.f1.f1).k1.e2,(fun _ h=>Or.inl h),(fun _ h=>Or.inl h),rfl⟩⟩⟩
 have hdk:r.dark=false:=lookE_f C0;have hA:A.dark=false:=I.dark.symm.trans hdk;refine .skip<|.seq<|.seq<|?_;have ok:=(ok).popn;refine .r<|.z .mvP<|.z .nil<|.z (.fa T.fd119_1)<|.z (.fa T.fd117_0)<|.z (.ldx T.ag4 ok.m0)<|.nil ?_;refine .cond (fun C1=>?_) (fun C1=>?_)
 ·
  refine .seq<|.r<|.z .asI<|.nil ?_;have ok:=Hp.pcls (p:=p) (at_:=r.at_) (bs:=r.bs) (ok);refine .ret ⟨.int .i64 10,Res.one rfl rfl,⟨(⟨r.fr,r.nd,r.link,r.am,r.at_,r.in_,r.many,r.bm,r.bs,r.d,r.rd,r.size,r.sure,r.c,r.cF,r.S,r.dark⟩:RA),E,Q,(by rw [checkA_2 hA (I.in_.symm.trans (by simpa using C1))];rfl),(by rw [checkA_2 hA (I.in_.symm.trans (by simpa using C1))];exact I),⟨(ok.f1.f1).k1.e2,(fun _ h=>Or.inl h),(fun _ h=>Or.inl h),rfl⟩⟩⟩
 refine .skip<|.seq<|.seq<|.r<|.z .mvP<|.z .nil<|.z (.fa T.fd119_0)<|.z (.fa T.fd114_0)<|.z (.ldx T.ag3 ok.m0)<|.z .eql<|.nil ?_;refine .cd (fun C2=>?_) (fun C2=>?_)
 ·
  refine .seq<|.r<|.z .asI<|.nil ?_;have ok:=Hp.pcls (p:=p) (at_:=r.at_) (bs:=r.bs) (ok);refine .ret ⟨.int .i64 0,Res.one rfl rfl,⟨(⟨r.fr,r.nd,r.link,r.am,r.at_,r.in_,r.many,r.bm,r.bs,r.d,r.rd,r.size,r.sure,r.c,r.cF,r.S,r.dark⟩:RA),E,Q,(by rw [checkA_3 hA (I.in_.symm.trans (by simpa using C1)) (by omega)];rfl),(by rw [checkA_3 hA (I.in_.symm.trans (by simpa using C1)) (by omega)];exact I),⟨(ok.f1.f1).k1.e2,(fun _ h=>Or.inl h),(fun _ h=>Or.inl h),rfl⟩⟩⟩
 refine .skip<|.seq<|?_;have hin:A.in_=false:=I.in_.symm.trans (by simpa using C1);have O:=hO hA;have hnp:0<A.nd:=by have:=O.nd;omega
 obtain ⟨T,fs,hT,stt⟩:=O.st;obtain ⟨salt,hsl,hokf,hends,hread,hsc,htg,hho,hlgl⟩:=over_eq O stt hnp;obtain ⟨Lg,hLg⟩:∃Lg,Lg=logB A.size salt fs:=⟨_,rfl⟩;rw [←hLg] at hread hsc hho hlgl;have hrd:readN r.rd.abs nL 0 (r.nd:Int)=(Lg,0):=by rw [I.dk,hndR];exact hread
 have h20:20≤Lg.length:=by have:=O.nd;omega
 have hsl2:=scanF_len Lg;have hck:=checkA_4 hA hin (by omega);refine .r<|.z .mvP<|.z .mvP<|?_;have ok:=Hp.pcls (p:=p) (at_:=r.at_) (bs:=r.bs) (ok);refine .c' 22 .func (HC.mono (over_any (p:=p) (r:=(⟨r.fr,r.nd,r.link,r.am,r.at_,r.in_,r.many,r.bm,r.bs,r.d,r.rd,r.size,r.sure,r.c,r.cF,r.S,r.dark⟩:RA)) (E:=E) (L:=Lg) (ok).loc1 hk (show r.rd.chg<600000000 by omega) (show r.size≤4096 by omega) (show r.nd≤16777216 by omega) hrd h20 hho) fun _ _ q=>aft_split q) ?_;rintro _ η1 (⟨hev1,rdv1,mv1,Ev1,rfl,hav1,upv1⟩ | ⟨hev1,rdv1,Ev1,rfl,hav1,upv1⟩)
 ·
  replace hav1:rdv1.abs=(carryN r.rd.abs r.size (scanF Lg)).1:=hav1;have hzv1:=(ok).chg.size;have ok:=(ok).pag upv1;have hnv1:=fun j hj=>(upv1.new j hj).elim ((fun _ h=>Or.inl h) j) fun h1=>Or.inr (Nat.le_trans hzv1 h1);have hkv1:DkOk rdv1.abs:=by rw [hav1];exact (hk).carry
  have hcv1:rdv1.chg≤r.rd.chg+((scanF Lg).length+6):=Int.le_trans (Int.le_of_eq (congrArg Dk.chg hav1)) carry_chg;have ok:=(ok).popn;refine .c' 23 .func (told_any (p:=p) (r:=(⟨0,0,0,mv1,[],r.in_,r.many,r.bm,r.bs,r.d,rdv1,r.size,r.sure,r.c,r.cF,r.S,r.dark⟩:RA)) (z:=0) (ok).loc0) ?_;rintro _ η2 ⟨rfl,q⟩;have ok:=(ok).lift1 q;refine .z .asI<|.nil ?_;have ok:=Hp.pcls (p:=p) (at_:=[]) (bs:=r.bs) (ok);have hab:rdv1.abs=(carryN A.dk A.size (scanF (readN A.dk nL 0 A.nd).1)).1:=by rw [hread,←I.dk,←hsR];exact hav1
  have hz0:(carryN A.dk A.size (scanF (readN A.dk nL 0 A.nd).1)).2=0:=by rw [hread,←I.dk,←hsR];exact hev1
  obtain ⟨J1,J2,J3,J4,J5,J6,J7,J8,J9,J10⟩:=PIs.over (cF:=r.cF) (m:=mv1) I hA O hnp hz0 hab;refine .ret ⟨.int .i64 0,Res.one rfl rfl,⟨(⟨0,0,0,mv1,[],r.in_,r.many,r.bm,r.bs,r.d,rdv1,r.size,r.sure,r.c,r.cF,r.S,(toldB 0 r.dark)⟩:RA),Ev1,Q,(by rw [hck,J3];rfl),(by rw [hck];exact J1.told (z:=0) (by decide)),⟨(ok.f1.f1).k1.e2,hnv1,(fun _ h=>Or.inl h),rfl⟩⟩⟩
 replace hav1:rdv1.abs=(carryN r.rd.abs r.size (scanF Lg)).1:=hav1;have hzv1:=(ok).chg.size;have ok:=(ok).pag upv1;have hnv1:=fun j hj=>(upv1.new j hj).elim ((fun _ h=>Or.inl h) j) fun h1=>Or.inr (Nat.le_trans hzv1 h1);have hkv1:DkOk rdv1.abs:=by rw [hav1];exact (hk).carry
 have hcv1:rdv1.chg≤r.rd.chg+((scanF Lg).length+6):=Int.le_trans (Int.le_of_eq (congrArg Dk.chg hav1)) carry_chg;have ok:=(ok).popn;refine .c' 23 .func (told_any (p:=p) (r:=(⟨r.fr,r.nd,r.link,r.am,r.at_,r.in_,r.many,r.bm,r.bs,r.d,rdv1,r.size,r.sure,r.c,r.cF,r.S,r.dark⟩:RA)) (z:=((carryN r.rd.abs r.size (scanF Lg)).2:Int)) (ok).loc0) ?_;rintro _ η3 ⟨rfl,q⟩;have ok:=(ok).lift1 q;refine .z .asI<|.nil ?_;have ok:=Hp.pcls (p:=p) (at_:=r.at_) (bs:=r.bs) (ok);have hab:rdv1.abs=(carryN A.dk A.size (scanF (readN A.dk nL 0 A.nd).1)).1:=by rw [hread,←I.dk,←hsR];exact hav1
 have hcode:(carryN A.dk A.size (scanF (readN A.dk nL 0 A.nd).1)).2=(carryN r.rd.abs r.size (scanF Lg)).2:=by rw [hread,←I.dk,←hsR]
 obtain ⟨k1,k2,k3,k4,k5,k6⟩:=(over_res O hnp).resolve_left (fun hh=>hev1 (by rw [←hcode];exact hh.2.1));have hz13:(carryN r.rd.abs r.size (scanF Lg)).2=13:=by rw [←hcode];exact k2
 refine .ret ⟨.int .i64 ((carryN r.rd.abs r.size (scanF Lg)).2:Int),Res.one rfl rfl,⟨(⟨r.fr,r.nd,r.link,r.am,r.at_,r.in_,r.many,r.bm,r.bs,r.d,rdv1,r.size,r.sure,r.c,r.cF,r.S,(toldB ((carryN r.rd.abs r.size (scanF Lg)).2:Int) r.dark)⟩:RA),Ev1,Q,(by rw [hck,k1,hz13]),(by rw [hck,k3];exact PIs.fail (nd:=A.nd) (link:=A.link) I (r':=(⟨r.fr,r.nd,r.link,r.am,r.at_,r.in_,r.many,r.bm,r.bs,r.d,rdv1,r.size,r.sure,r.c,r.cF,r.S,(toldB ((carryN r.rd.abs r.size (scanF Lg)).2:Int) r.dark)⟩:RA)) (by rw [←hndR,←hlkR];show (⟨_,_,_,_,_,_,_,_,_,_,_,_,_,_,_,_,toldB _ _⟩:RA)=_;rw [show toldB (((carryN r.rd.abs r.size (scanF Lg)).2:Nat):Int) r.dark=true from if_pos (by rw [hz13];rfl)]) (by show rdv1.abs=_;exact hab) (I.ok.carry) hndb hlkb),⟨(ok.f1.f1).k1.e2,hnv1,(fun _ h=>Or.inl h),rfl⟩⟩⟩
open Go Go.HL
structure CrInv (fs0 fs:List UInt8→Option Fl) (S:List (List UInt8)) (k0 ks:List UInt8) (i:Nat):Prop where
 le:i≤S.length
 eq:crashL fs0 S k0=crashL fs (S.drop i) ks
 old:∀n∈S.drop i,fs n=fs0 n
theorem CrInv.step {fs0 fs:List UInt8→Option Fl} {S:List (List UInt8)} {k0 ks:List UInt8} {i:Nat} {f:Fl} (v:CrInv fs0 fs S k0 ks i) (hs:S.Pairwise (· < ·)) (hi:i<S.length) (hf:fs S[i]=some f):CrInv fs0 (put1 fs S[i] (crF f ks)) S k0 (ks.drop f.opn.length) (i+1):=by
 have h1:=v.eq;rw [List.drop_eq_getElem_cons hi,crashL,hf] at h1;refine ⟨hi,h1,fun n hn=>?_⟩;have h2:n≠S[i]:=fun e=>by
  subst e;obtain ⟨j,hj,e⟩:=List.mem_iff_getElem.1 hn;rw [List.getElem_drop] at e;have h3:=List.pairwise_iff_getElem.1 hs i (i+1+j) hi (by simp at hj;omega) (by omega);rw [e] at h3;exact absurd h3 (List.lt_irrefl _)
 rw [put1_ne h2];exact v.old n (by rw [List.drop_eq_getElem_cons hi];exact List.mem_cons_of_mem _ hn)
structure DgP (h:Heap) (d:Nat) (F:Nat→Prop) (D:Dk) (r:RD) (E:Nat→Prop):Prop where
 p:(dskI d r).p h
 b:Bys h E r.fs
 f:∀j,(dskI d r).F j→F j
 e:∀j,E j→F j
 n:∀j,(dskI d r).F j→¬E j
 a:r.abs=D
@[reducible] def dgI (d:Nat) (F:Nat→Prop) (D:Dk):Itm:=⟨fun h=>∃r E,DgP h d F D r E,F,fun _ _ _ c g ⟨r,E,q⟩=>⟨r,E,(dskI d r).st _ _ _ c (fun j hj=>g j (q.f j hj)) q.p,(bysI E r.fs).st _ _ _ c (fun j hj=>g j (q.e j hj)) q.b,q.f,q.e,q.n,q.a⟩⟩
section
variable {h h':Heap} {d p:Nat} {F G E E':Nat→Prop} {D:Dk} {r r':RD}
theorem dg_open {M:List Itm} (ok:Hp h F [dgI d F D] M h):∃r E,r.abs=D∧Hp h (dskI d r).F [dskI d r] [bysI E r.fs] h∧(∀j,(dskI d r).F j→F j)∧∀j,E j→F j:=by
 obtain ⟨r,E,q⟩:=ok.m0;have hl:=(ok.m (dgI d F D) (by simp)).2;exact ⟨r,E,q.a,⟨Chg.refl _ _,fun i hi=>by rw [List.mem_singleton.1 hi];exact ⟨q.p,fun j hj=>⟨(hl j (q.f j hj)).1,.inl hj⟩⟩,fun i hi=>by rw [List.mem_singleton.1 hi];exact ⟨q.b,fun j hj=>(hl j (q.e j hj)).1⟩,List.pairwise_singleton _ _,fun a ha b hb=>by rw [List.mem_singleton.1 ha,List.mem_singleton.1 hb];exact q.n⟩,q.f,q.e⟩
theorem dg_close {M:List Itm} (q:Hp h G (dskI d r'::M) [bysI E' r'.fs] h') (hG:∀j,G j→F j) (hE:∀j,E' j→F j∨h.size≤j):Hp h F (dgI d (fun j=>(dskI d r').F j∨E' j) r'.abs::M) [] h':=by
 have hm:=List.pairwise_cons.1 q.mm;refine ⟨q.chg.mono fun j _=>hG j,fun i hi=>?_,by simp,List.pairwise_cons.2 ⟨fun b hb j hj hb2=>?_,hm.2⟩,by simp⟩
 ·rcases List.mem_cons.1 hi with rfl | hi
  ·refine ⟨⟨r',E',q.m0,q.r0,fun j hj=>.inl hj,fun j hj=>.inr hj,q.mr (dskI d r') (by simp) (bysI E' r'.fs) (by simp),rfl⟩,fun j hj=>?_⟩;rcases hj with hj | hj
   ·have:=(q.m _ List.mem_cons_self).2 j hj;exact ⟨this.1,this.2.imp (hG j) id⟩
   ·exact ⟨(q.r _ List.mem_cons_self).2 j hj,hE j hj⟩
  ·have:=q.m i (List.mem_cons_of_mem _ hi);exact ⟨this.1,fun j hj=>⟨(this.2 j hj).1,(this.2 j hj).2.imp (hG j) id⟩⟩
 ·rcases hj with hj | hj
  ·exact hm.1 b hb j hj hb2
  ·exact q.mr b (List.mem_cons_of_mem _ hb) _ List.mem_cons_self j hb2 hj
theorem dg_up (up:DUp h h' d r r' E E') (hf:∀j,(dskI d r).F j→F j) (he:∀j,E j→F j):∃F',Hp h F [dgI d F' r'.abs] [] h':=⟨_,dg_close up.hp hf fun j hj=>(up.new j hj).imp (he j) id⟩
section
variable {n:List UInt8} {z y:Int} {a:Option Addr} {c:Nat} {l:List UInt8} {F2 E2:Nat→Prop}
theorem dgsize_any (ok:Hp h F [dgI d F D] [] h) :
  HC Tryz.prog 24 #[.pointer (some ⟨d,0,none⟩),.string (BA n)] h (fun v h'=>v=.tuple #[.int .i64 ((sizeN D n).1:Int),.bool (sizeN D n).2]∧h'=h):=by
 obtain ⟨r,E,rfl,o,hf,he⟩:=dg_open ok;exact size_anyD o.m0
end
theorem dgnew_any:HC Tryz.prog 16 #[] h (fun v h'=>∃d F,v=.pointer (some ⟨d,0,none⟩)∧Hp h none_ [dgI d F newN] [] h'):=
 new_any.mono fun v h' ⟨d,r,hv,ha,q⟩=>⟨d,_,hv,by
  have hp:=dg_close (F:=none_) q (fun _ f=>f) (fun j f=>f.elim);rw [ha] at hp;exact hp⟩
end
structure AgP (h:Heap) (p d:Nat) (F:Nat→Prop) (A:Ah) (r:RA) (E Q:Nat→Prop):Prop where
 pi:(pagI p r).p h
 b:Bys h E r.rd.fs
 q:Pbs h Q r.bs
 f:∀j,(pagI p r).F j→F j
 e:∀j,E j→F j
 g:∀j,Q j→F j
 ne:∀j,(pagI p r).F j→¬E j
 nq:∀j,(pagI p r).F j→¬Q j
 I:PIs r A
 O:A.dark=false→AhOk A
 d:r.d=d
@[reducible] def agI (p d:Nat) (F:Nat→Prop) (A:Ah):Itm:=⟨fun h=>∃r E Q,AgP h p d F A r E Q,F,fun _ _ _ c g ⟨r,E,Q,q⟩=>⟨r,E,Q,(pagI p r).st _ _ _ c (fun j hj=>g j (q.f j hj)) q.pi,(bysI E r.rd.fs).st _ _ _ c (fun j hj=>g j (q.e j hj)) q.b,(pbsI Q r.bs).st _ _ _ c (fun j hj=>g j (q.g j hj)) q.q,q.f,q.e,q.g,q.ne,q.nq,q.I,q.O,q.d⟩⟩
section
variable {h h':Heap} {d p:Nat} {F G E Q E' Q':Nat→Prop} {A A':Ah} {r r':RA}
theorem ag_open {M:List Itm} (ok:Hp h F [agI p d F A] M h):∃r E Q,PIs r A∧(A.dark=false→AhOk A)∧r.d=d∧Hp h (pagI p r).F [pagI p r] [bysI E r.rd.fs,pbsI Q r.bs] h∧(∀j,(pagI p r).F j→F j)∧(∀j,E j→F j)∧∀j,Q j→F j:=by
 obtain ⟨r,E,Q,q⟩:=ok.m0;have hl:=(ok.m (agI p d F A) (by simp)).2;refine ⟨r,E,Q,q.I,q.O,q.d,⟨Chg.refl _ _,fun i hi=>by rw [List.mem_singleton.1 hi];exact ⟨q.pi,fun j hj=>⟨(hl j (q.f j hj)).1,.inl hj⟩⟩,fun i hi=>?_,List.pairwise_singleton _ _,fun a ha b hb=>?_⟩,q.f,q.e,q.g⟩
 ·rcases List.mem_cons.1 hi with rfl | hi
  ·exact ⟨q.b,fun j hj=>(hl j (q.e j hj)).1⟩
  ·rw [List.mem_singleton.1 hi];exact ⟨q.q,fun j hj=>(hl j (q.g j hj)).1⟩
 ·rw [List.mem_singleton.1 ha];rcases List.mem_cons.1 hb with rfl | hb
  ·exact q.ne
  ·rw [List.mem_singleton.1 hb];exact q.nq
theorem ag_close {M:List Itm} (q:Hp h G (pagI p r'::M) [bysI E' r'.rd.fs,pbsI Q' r'.bs] h') (hG:∀j,G j→F j) (hE:∀j,E' j→F j∨h.size≤j) (hQ:∀j,Q' j→F j∨h.size≤j) (I:PIs r' A') (O:A'.dark=false→AhOk A') (hd:r'.d=d):Hp h F (agI p d (fun j=>(pagI p r').F j∨E' j∨Q' j) A'::M) [] h':=by
 have hm:=List.pairwise_cons.1 q.mm;refine ⟨q.chg.mono fun j _=>hG j,fun i hi=>?_,by simp,List.pairwise_cons.2 ⟨fun b hb j hj hb2=>?_,hm.2⟩,by simp⟩
 ·rcases List.mem_cons.1 hi with rfl | hi
  ·refine ⟨⟨r',E',Q',q.m0,(q.r (bysI E' r'.rd.fs) (by simp)).1,(q.r (pbsI Q' r'.bs) (by simp)).1,fun j hj=>.inl hj,fun j hj=>.inr (.inl hj),fun j hj=>.inr (.inr hj),q.mr (pagI p r') (by simp) (bysI E' r'.rd.fs) (by simp),q.mr (pagI p r') (by simp) (pbsI Q' r'.bs) (by simp),I,O,hd⟩,fun j hj=>?_⟩;rcases hj with hj | hj | hj
   ·have:=(q.m _ List.mem_cons_self).2 j hj;exact ⟨this.1,this.2.imp (hG j) id⟩
   ·exact ⟨(q.r _ List.mem_cons_self).2 j hj,hE j hj⟩
   ·exact ⟨(q.r (pbsI Q' r'.bs) (by simp)).2 j hj,hQ j hj⟩
  ·have:=q.m i (List.mem_cons_of_mem _ hi);exact ⟨this.1,fun j hj=>⟨(this.2 j hj).1,(this.2 j hj).2.imp (hG j) id⟩⟩
 ·rcases hj with hj | hj | hj
  ·exact hm.1 b hb j hj hb2
  ·exact q.mr b (List.mem_cons_of_mem _ hb) _ List.mem_cons_self j hb2 hj
  ·exact q.mr b (List.mem_cons_of_mem _ hb) (pbsI Q' r'.bs) (by simp) j hb2 hj
theorem ag_up (up:MUp h h' p r r' E E' Q Q') (hf:∀j,(pagI p r).F j→F j) (he:∀j,E j→F j) (hg:∀j,Q j→F j) (I:PIs r' A') (O:A'.dark=false→AhOk A') (hd:r.d=d):∃F',Hp h F [agI p d F' A'] [] h':=
 ⟨_,ag_close up.hp hf (fun j hj=>(up.new j hj).imp (he j) id) (fun j hj=>(up.newb j hj).imp (hg j) id) I O (up.d.trans hd)⟩
theorem ag_dg (ok:(agI p d F A).p h):(dgI d F A.dk).p h:=by
 obtain ⟨r,E,Q,q⟩:=ok;have h1:=q.pi;have hF:∀j,(dskI d r.rd).F j→(pagI p r).F j:=fun j hj=>pag_F.2 (.inr (.inr (.inr (.inr (by rw [q.d];exact hj)))));refine ⟨r.rd,E,?_,q.b,fun j hj=>q.f j (hF j hj),q.e,fun j hj=>q.ne j (hF j hj),q.I.dk⟩;have:=h1.1 (dskI r.d r.rd) (by simp);rw [q.d] at this;exact this
theorem ag_dgo {M R:List Itm} {h0:Heap} {D:Nat→Prop} (ok:Hp h0 D (agI p d F A::M) R h):Hp h0 D (dgI d F A.dk::M) R h:=ok.re _ (ag_dg ok.m0) fun _ x=>x
end
open Go Go.HL
theorem checkP_1 {w:WPg} (h:w.in_=true):checkP w=(w,10):=if_pos h
theorem checkP_2 {w:WPg} (h:¬w.in_=true):checkP w=(⟨w.z,w.sure,[],false,0⟩,0):=if_neg h
theorem pgs_snoc {l:List RB} {x:RB} : pgs (l++[x])=pgs l++[x.l]:=List.map_append
section
variable {w:WPg}
theorem commitP_1 (h:w.in_=false):commitP w=(w,10):=if_pos h
variable (h:¬w.in_=false)
include h
theorem commitP_2 (h2:w.now=[]∧w.sure≠[]):commitP w=(w,8):=by unfold commitP;rw [if_neg h,if_pos h2]
variable (h2:¬(w.now=[]∧w.sure≠[]))
include h2
theorem commitP_3 (h3:w.now≠[]∧hdOk (w.now.getD 0 []) w.z=false):commitP w=(w,8):=by unfold commitP;rw [if_neg h,if_neg h2,if_pos h3]
variable (h3:¬(w.now≠[]∧hdOk (w.now.getD 0 []) w.z=false))
include h3
theorem commitP_4 (h4:16777196 / (w.z+16)<(listN w.now w.sure).length):commitP w=(w,5):=by unfold commitP;rw [if_neg h,if_neg h2,if_neg h3,if_pos h4]
theorem commitP_5 (h4:¬16777196 / (w.z+16)<(listN w.now w.sure).length):commitP w=(⟨w.z,w.now,[],false,(if 16777196 / (w.z+16)<w.fr+(listN w.now w.sure).length then 0 else w.fr)+(listN w.now w.sure).length⟩,0):=by unfold commitP;rw [if_neg h,if_neg h2,if_neg h3,if_neg h4]
end
open Go Go.HL
structure APl (A:Ah):Prop where
 sz:okSz A.size=true
 sm:A.sure.length≤1048576∧A.sure.length*A.size≤16777216
 nm:A.now.length≤1048576∧A.now.length*A.size≤16777216
 ndb:A.nd≤16777216
 frb:A.fr≤16777216
 lkb:A.link<18446744073709551616
 ok:DkOk A.dk
 nl:A.dark=false→∀l∈A.now,l.length=A.size
 O:A.dark=false→AhOk A
theorem PIs.pl {r:RA} {A:Ah} (I:PIs r A) (O:A.dark=false→AhOk A):APl A:=⟨I.sz,I.sm,I.nm,I.ndb,I.frb,I.lkb,I.ok,fun h=>(I.good h).nl,O⟩
theorem APl.pgNow {A:Ah} (P:APl A) (hA:A.dark=false) (hm:mayA A=0):PgOk A.size A.now:=by
 refine ⟨P.sz,P.nl hA,P.nm.2,fun h=>?_⟩;unfold mayA at hm;rw [if_neg h] at hm;split at hm
 ·rename_i h1;exact h1
 ·cases hm
structure Com (A A':Ah) (fr:Nat):Prop where
 O:AhOk A'
 in_:A'.in_=false
 now:A'.now=[]
 sure:A'.sure=A.now
 size:A'.size=A.size
 dark:A'.dark=false
 fr:A'.fr=fr
 left:A.dk.left<0→A'.dk.left<0
 T:A.nd+(listN A.now A.sure).length*(16+A.size)≤16777216→A'.dk.fs nT=A.dk.fs nT
structure Fail (A A':Ah) (P:Dk→Prop):Prop where
 dark:A'.dark=true
 dd:A'.dk.dark=true
 left:0≤A.dk.left
 gd:P A'.dk
theorem GdD.two {z:Nat} {s s':List (List UInt8)} {d:Dk} (h:GdD z s d):Gd2 z s s' d:=fun T L M h1 h2 h3=>.inl (h T L M h1 h2 h3)
section
variable {A:Ah}
theorem log_out (O:AhOk A) (hd:A.dark=false) (hp:PgOk A.size A.now) (hn:A.now≠[]) (hl:listN A.now A.sure≠[]) (h1:20+(listN A.now A.sure).length*(16+A.size)≤16777216) (h2:A.nd+(listN A.now A.sure).length*(16+A.size)≤16777216) (hc:0≤A.dk.chg∧A.dk.chg<18446744073709551616) :
  ((logA A (listN A.now A.sure)).2=0∧Com A (logA A (listN A.now A.sure)).1 (A.fr+(listN A.now A.sure).length))∨((logA A (listN A.now A.sure)).2=13∧Fail A (logA A (listN A.now A.sure)).1 (Gd2 A.size A.sure A.now)):=by
 have hb:=beg_res O hc;by_cases hb0:(begA A).1.2=0
 ·have hg:=log_res O hp hn hl h1 h2 hc hb0;by_cases hp0:(putA' A (listN A.now A.sure)).1.2=0
  ·left;obtain ⟨q1,q2,T,fs,q3,q4,q5,_⟩:=hg.good hp0;have e:logA A (listN A.now A.sure)=(⟨(putA' A (listN A.now A.sure)).1.1,A.fr+(listN A.now A.sure).length,(putA' A (listN A.now A.sure)).2.1,(putA' A (listN A.now A.sure)).2.2,false,[],A.now,A.size,A.dark⟩,0):=by
    unfold logA;rw [if_neg (by omega),if_neg (by omega)]
   rw [e];refine ⟨rfl,⟨q1,hp,T,fs,q4,?_⟩,rfl,rfl,rfl,rfl,hd,rfl,q2,fun _=>q3⟩;cases q5 with
   | none h4 h5 h6 h7 h8=>exact .none h4 h5 h6 h7 h8
   | log salt mk hs hok he hnd hfr hlk hL hM hmk hov hnb=>exact .log salt mk hs hok he hnd hfr hlk hL hM hmk hov hnb
  ·right;obtain ⟨q1,q2,q3,q4⟩:=hg.bad hp0;have e:logA A (listN A.now A.sure)=failA { A with nd:=(begA A).2.1,link:=(begA A).2.2 } (putA' A (listN A.now A.sure)).1.1 13:=by
    unfold logA;rw [if_neg (by omega),if_pos hp0,q1]
   rw [e];exact ⟨rfl,rfl,q2,q3,q4⟩
 ·right;obtain ⟨q1,q2,q3,q4⟩:=hb.bad hb0;have e:logA A (listN A.now A.sure)=failA A (begA A).1.1 13:=by unfold logA;rw [if_pos hb0,q1]
  rw [e];exact ⟨rfl,rfl,q2,q3,q4.two⟩
theorem over_chg (k:DkOk A.dk):(carryN A.dk A.size (scanF (readN A.dk nL 0 A.nd).1)).1.chg≤A.dk.chg+1048582:=by
 have h1:=carry_chg (d:=A.dk) (size:=A.size) (l:=scanF (readN A.dk nL 0 A.nd).1);have h2:=scanF_len (readN A.dk nL 0 A.nd).1;have h3:(readN A.dk nL 0 A.nd).1.length≤16777216:=readN_len k;omega
theorem commit_out (P:APl A) (hd:A.dark=false) (hin:A.in_=true) (hc:A.dk.chg<400000000) (hm:mayA A=0) (hl:listN A.now A.sure≠[]) (h5:¬16777216<20+(listN A.now A.sure).length*(16+A.size)) :
  ((commitA A).2=0∧Com A (commitA A).1 ((if 16777216<A.nd+(listN A.now A.sure).length*(16+A.size) then 0 else A.fr)+(listN A.now A.sure).length))∨((commitA A).2=13∧Fail A (commitA A).1 (Gd2 A.size A.sure A.now)):=by
 have O:=P.O hd;have hp:=P.pgNow hd hm;have hn:=may_now hm hl;have hc0:=P.ok.chg;by_cases h6:16777216<A.nd+(listN A.now A.sure).length*(16+A.size)
 ·rw [if_pos h6];rcases over_res O (by omega) with ⟨e1,e2,e3,e4,e5,_⟩ | ⟨e1,e2,e3,e4,e5,e6⟩
  ·rw [commitA_7 hd hin hm hl h5 h6 e1];have hch:=over_chg (A:=A) P.ok;have hk:DkOk (carryN A.dk A.size (scanF (readN A.dk nL 0 A.nd).1)).1:=P.ok.carry;have hk0:=hk.chg;rw [e4] at e3 e5⊢;have:=log_out (A:={ A with dk:=(carryN A.dk A.size (scanF (readN A.dk nL 0 A.nd).1)).1,fr:=0,nd:=0,link:=0 }) e3 hd hp hn hl (by simp only;omega) (by simp only;omega) ⟨hk0,by simp only;omega⟩;rcases this with ⟨f1,f2⟩ | ⟨f1,f2⟩
   ·exact .inl ⟨f1,f2.O,f2.in_,f2.now,f2.sure,f2.size,f2.dark,f2.fr,fun h=>f2.left (e5 h),fun h=>absurd h (by omega)⟩
   ·exact .inr ⟨f1,f2.dark,f2.dd,by
     rcases Int.lt_or_le A.dk.left 0 with h | h
     ·have h1:=e5 h;have h2:=f2.left;simp only at h1 h2;omega
     ·exact h,f2.gd⟩
  ·rw [commitA_6 hd hin hm hl h5 h6 (by omega)];rw [e3] at e4 e6⊢;exact .inr ⟨rfl,rfl,e4,e5,e6.two⟩
 ·rw [if_neg h6,commitA_8 hd hin hm hl h5 h6];exact log_out O hd hp hn hl (by omega) (by omega) ⟨hc0,by omega⟩
theorem check_out (P:APl A) (hd:A.dark=false) (hin:A.in_=false) (hf:A.fr≠0) :
  ((checkA A).2=0∧AhOk (checkA A).1∧(∃d,(checkA A).1 = { A with dk:=d,fr:=0,nd:=0,link:=0 })∧(A.dk.left<0→(checkA A).1.dk.left<0))∨((checkA A).2=13∧Fail A (checkA A).1 (GdD A.size A.sure)):=by
 have O:=P.O hd;have h0:=O.nd;have e:checkA A=overA A:=by unfold checkA;rw [if_neg (by rw [hd];decide),if_neg (by rw [hin];decide),if_neg hf]
 rw [e];rcases over_res O (by omega) with ⟨e1,e2,e3,e4,e5,_⟩ | ⟨e1,e2,e3,e4,e5,e6⟩
 ·exact .inl ⟨e1,e3,⟨_,e4⟩,e5⟩
 ·rw [e3] at e4 e6⊢;exact .inr ⟨rfl,rfl,e4,e5,e6⟩
theorem logs_chg:∀ {l:List Fr} {d:Dk} {e p:Nat},(logsN d e p l).1.1.chg≤d.chg+l.length
 | [],d,e,p=>by simp [logsN]
 | f::l,d,e,p=>by
  have h1:=write_chg (d:=d) (n:=nL) (z:=(e:Int)) (l:=putN p f);unfold logsN;split
  ·have h2:=logs_chg (l:=l) (d:=(writeN d nL (e:Int) (putN p f)).1) (e:=e+(putN p f).length) (p:=nextN p (putN p f));simp only [List.length_cons];first | omega | (refine Int.le_trans (logs_chg (l:=l)) ?_;omega)
  ·simp only [List.length_cons];omega
theorem putD_chg {d:Dk} {fr e p:Nat} {l:List Fr} : (putD d fr e p l).1.1.chg≤d.chg+l.length+3:=by
 have:=then_chg (y:=1) (f:=fun d=>syncN d nM) (then_chg (y:=1) (f:=fun d=>writeN d nM ((sizeN d nM).1:Int) (List.replicate (1+fr+l.length-(sizeN d nM).1) 0)) (then_chg (y:=1) (f:=fun d=>syncN d nL) (logs_chg (l:=l) (d:=d) (e:=e) (p:=p)) (fun d=>sync_chg) (by omega)) (fun d=>write_chg) (by omega)) (fun d=>sync_chg) (by omega);show (thenN _ _).1.chg≤_;omega
theorem logA_chg {A:Ah} {l:List Nat} : (logA A l).1.dk.chg≤A.dk.chg+l.length+4:=by
 have h1:(begA A).1.1.chg≤A.dk.chg+1:=beg_chg;have h2:(putA' A l).1.1.chg≤(begA A).1.1.chg+(frmsN A.now l).length+3:=putD_chg;rw [frmsN_len] at h2;unfold logA;split
 ·show (begA A).1.1.chg≤_;omega
 ·split
  ·show (putA' A l).1.1.chg≤_;omega
  ·show (putA' A l).1.1.chg≤_;omega
theorem overA_chg (k:DkOk A.dk):(overA A).1.dk.chg≤A.dk.chg+1048582:=by
 have:=over_chg (A:=A) k;unfold overA;split<;>exact this
theorem commit_chg (P:APl A):(commitA A).1.dk.chg≤A.dk.chg+1200000:=by
 have hz:=(okSz_b P.sz).1;have hn:A.now.length*256≤A.now.length*A.size:=Nat.mul_le_mul_left _ hz;have hnm:=P.nm.2;have hl:(listN A.now A.sure).length≤65536:=by
  unfold listN;split
  ·simp
  ·unfold unlN;refine Nat.le_trans (List.length_filter_le _ _) ?_;rw [List.length_range];omega
 have h1:=overA_chg (A:=A) P.ok;have h2:=logA_chg (A:=(overA A).1) (l:=listN A.now A.sure);have h3:=logA_chg (A:=A) (l:=listN A.now A.sure);unfold commitA
 repeat' split
 all_goals first | omega | (simp only;omega)
theorem check_chg (P:APl A):(checkA A).1.dk.chg≤A.dk.chg+1200000:=by
 have h1:=overA_chg (A:=A) P.ok;unfold checkA
 repeat' split
 all_goals first | omega | (simp only;omega)
theorem AhOk.as {A A':Ah} (O:AhOk A) (h1:A'.dk=A.dk) (h2:A'.fr=A.fr) (h3:A'.nd=A.nd) (h4:A'.link=A.link) (h5:A'.sure=A.sure) (h6:A'.size=A.size):AhOk A':=by
 obtain ⟨a,b,c,d,e,f,g,i,j⟩:=A;obtain ⟨a',b',c',d',e',f',g',i',j'⟩:=A';simp only at h1 h2 h3 h4 h5 h6;subst h1 h2 h3 h4 h5 h6;obtain ⟨x,y,T,fs,t,st⟩:=O;refine ⟨x,y,T,fs,t,?_⟩;cases st with
 | none h4 h5 h6 h7 h8=>exact .none h4 h5 h6 h7 h8
 | log salt mk hs hok he hnd hfr hlk hL hM hmk hov hnb=>exact .log salt mk hs hok he hnd hfr hlk hL hM hmk hov hnb
theorem begin_O (P:APl A) (h:(beginA A).1.dark=false):AhOk (beginA A).1:=by
 revert h;unfold beginA
 repeat' split
 all_goals exact fun h=>(P.O h).as rfl rfl rfl rfl rfl rfl
theorem write_O {no:Int} {b:List UInt8} (P:APl A) (h:(writeA A no b).1.dark=false):AhOk (writeA A no b).1:=by
 revert h;unfold writeA
 repeat' split
 all_goals exact fun h=>(P.O h).as rfl rfl rfl rfl rfl rfl
theorem resize_O {n:Int} (P:APl A) (h:(resizeA A n).1.dark=false):AhOk (resizeA A n).1:=by
 revert h;unfold resizeA
 repeat' split
 all_goals exact fun h=>(P.O h).as rfl rfl rfl rfl rfl rfl
theorem commit_O (P:APl A) (hc:A.dk.chg<400000000) (h:(commitA A).1.dark=false):AhOk (commitA A).1:=by
 by_cases hd:A.dark=true
 ·rw [commitA_1 hd] at h⊢;exact P.O h
 replace hd:A.dark=false:=by simpa using hd
 by_cases hin:A.in_=true
 ·by_cases hm:mayA A=0
  ·by_cases hl:listN A.now A.sure=[]
   ·rw [commitA_4 hd hin hm hl];exact (P.O hd).as rfl rfl rfl rfl rfl rfl
   ·by_cases h5:16777216<20+(listN A.now A.sure).length*(16+A.size)
    ·rw [commitA_5 hd hin hm hl h5];exact P.O hd
    ·rcases commit_out P hd hin hc hm hl h5 with ⟨_,q⟩ | ⟨_,q⟩
     ·exact q.O
     ·rw [q.dark] at h;cases h
  ·rw [commitA_3 hd hin hm];exact P.O hd
 ·rw [commitA_2 hd (by simpa using hin)];exact P.O hd
theorem check_O (P:APl A) (h:(checkA A).1.dark=false):AhOk (checkA A).1:=by
 by_cases hd:A.dark=true
 ·have e:checkA A=(A,13):=by unfold checkA;rw [if_pos hd]
  rw [e] at h⊢;exact P.O h
 replace hd:A.dark=false:=by simpa using hd
 by_cases hin:A.in_=true
 ·have e:checkA A=(A,10):=by unfold checkA;rw [if_neg (by rw [hd];decide),if_pos hin]
  rw [e];exact P.O hd
 ·by_cases hf:A.fr=0
  ·have e:checkA A=(A,0):=by unfold checkA;rw [if_neg (by rw [hd];decide),if_neg hin,if_pos hf]
   rw [e];exact P.O hd
  ·rcases check_out P hd (by simpa using hin) hf with ⟨_,q,_⟩ | ⟨_,q⟩
   ·exact q
   ·rw [q.dark] at h;cases h
end
structure RelA (A:Ah) (w:WPg):Prop where
 dark:A.dark=false
 in_:A.in_=w.in_
 now:A.now=w.now
 sure:A.sure=w.sure
 size:A.size=w.z
 fr:A.fr=w.fr
 no:w.in_=false→w.now=[]
section
variable {A:Ah} {w:WPg} (R:RelA A w)
include R
theorem RelA.pages:pagesA A=w.pages:=by unfold pagesA WPg.pages;rw [R.in_,R.now,R.sure]
theorem RelA.begin':(beginA A).2=(beginP w).2∧RelA (beginA A).1 (beginP w).1:=by
 unfold beginA beginP;rw [if_neg (by rw [R.dark];decide),R.in_];split
 ·exact ⟨rfl,R⟩
 ·exact ⟨rfl,R.dark,rfl,R.sure,R.sure,R.size,R.fr,fun h=>by cases h⟩
theorem RelA.read {no:Int} : readA A no=readP w no:=by unfold readA readP;rw [if_neg (by rw [R.dark];decide),R.pages]
theorem RelA.write {no:Int} {b:List UInt8} : (writeA A no b).2=(writeP w no b).2∧RelA (writeA A no b).1 (writeP w no b).1:=by
 unfold writeA writeP;rw [if_neg (by rw [R.dark];decide),R.in_,R.now,R.size];split
 ·exact ⟨rfl,R⟩
 ·rename_i h;split
  ·exact ⟨rfl,R⟩
  ·exact ⟨rfl,R.dark,rfl,rfl,R.sure,rfl,R.fr,fun h2=>absurd h2 h⟩
theorem RelA.resize {n:Int} (hz:0<w.z):(resizeA A n).2=(resizeP w n).2∧RelA (resizeA A n).1 (resizeP w n).1:=by
 unfold resizeA resizeP;rw [if_neg (by rw [R.dark];decide),R.in_,R.now,R.size];split
 ·exact ⟨rfl,R⟩
 ·rename_i h;split
  ·exact ⟨rfl,R⟩
  ·have e:(16777216<n*(w.z:Int))↔16777216 / (w.z:Int)<n:=by
    rw [Int.ediv_lt_iff_lt_mul (by omega)]
   by_cases h3:1048576<n∨16777216 / (w.z:Int)<n
   ·rw [if_pos (h3.imp id e.2),if_pos h3];exact ⟨rfl,R⟩
   ·rw [if_neg (fun h4=>h3 (h4.imp id e.1)),if_neg h3];exact ⟨rfl,R.dark,rfl,rfl,R.sure,rfl,R.fr,fun h2=>absurd h2 h⟩
theorem RelA.rollback:(rollbackA A).2=(rollbackP w).2∧RelA (rollbackA A).1 (rollbackP w).1:=by
 unfold rollbackA rollbackP;rw [if_neg (by rw [R.dark];decide),R.in_];split
 ·exact ⟨rfl,R⟩
 ·exact ⟨rfl,R.dark,rfl,rfl,R.sure,R.size,R.fr,fun _=>rfl⟩
theorem RelA.may:mayA A=if w.now=[] then (if w.sure=[] then 0 else 8) else if hdOk (w.now.getD 0 []) w.z=true then 0 else 8:=by unfold mayA;rw [R.now,R.sure,R.size]
theorem list_none {now sure:List (List UInt8)} (h:listN now sure=[]):now=sure:=by
 unfold listN at h;split at h
 ·cases h
 ·rename_i h1;have h2:now.length=sure.length:=Classical.byContradiction fun h3=>h1 ⟨h,h3⟩;refine List.ext_getElem? fun i=>?_;by_cases hi:i<now.length
  ·have h4:i∉unlN now sure:=by rw [h];simp
   unfold unlN at h4;simp only [List.mem_filter,List.mem_range,decide_eq_true_eq,not_and] at h4;exact Classical.not_not.1 (h4 hi)
  ·rw [List.getElem?_eq_none (by omega),List.getElem?_eq_none (by omega)]
theorem RelA.commit (P:APl A) (hc:A.dk.chg<400000000) :
  ((commitA A).2=(commitP w).2∧RelA (commitA A).1 (commitP w).1∧(A.dk.left<0→(commitA A).1.dk.left<0))∨((commitA A).2=13∧w.in_=true∧Fail A (commitA A).1 (Gd2 w.z w.sure w.now)):=by
 by_cases hin:w.in_=true
 ·have hiA:A.in_=true:=R.in_.trans hin;have hin':¬w.in_=false:=by rw [hin];decide
  by_cases hm:mayA A=0
  ·have hm2:=hm;rw [R.may] at hm2;have g2:¬(w.now=[]∧w.sure≠[]):=fun h=>by rw [if_pos h.1,if_neg h.2] at hm2;cases hm2
   have g3:¬(w.now≠[]∧hdOk (w.now.getD 0 []) w.z=false):=fun h=>by rw [if_neg h.1,if_neg (by rw [h.2];decide)] at hm2;cases hm2
   have eN:listN A.now A.sure=listN w.now w.sure:=by rw [R.now,R.sure]
   have hdiv:∀n:Nat,16777196 / (w.z+16)<n↔16777216<20+n*(16+w.z):=fun n=>by
    rw [Nat.div_lt_iff_lt_mul (by omega),Nat.add_comm w.z 16];omega
   have hnd:=(P.O R.dark).nd;have hov:20+A.fr*(16+A.size)≤16777216:=by
    have:=P.ndb;rcases hnd with ⟨_,n2⟩ | n1
    ·rw [n2];simp
    ·omega
   by_cases hl:listN w.now w.sure=[]
   ·left;have e:=list_none R hl;rw [commitA_4 R.dark hiA hm (eN.trans hl)];have hs:¬16777196 / (w.z+16)<(listN w.now w.sure).length:=by rw [hl];simp
    have hs2:¬16777196 / (w.z+16)<w.fr+(listN w.now w.sure).length:=by rw [hl,hdiv];rw [R.fr,R.size] at hov;rw [List.length_nil,Nat.add_zero];omega
    rw [commitP_5 hin' g2 g3 hs,if_neg hs2,hl];exact ⟨rfl,⟨R.dark,rfl,rfl,R.sure.trans e.symm,R.size,R.fr,fun _=>rfl⟩,id⟩
   ·by_cases h5:16777196 / (w.z+16)<(listN w.now w.sure).length
    ·left;rw [commitA_5 R.dark hiA hm (by rw [eN];exact hl) (by rw [eN,R.size];exact (hdiv _).1 h5),commitP_4 hin' g2 g3 h5];exact ⟨rfl,R,id⟩
    ·rcases commit_out P R.dark hiA hc hm (by rw [eN];exact hl) (by rw [eN,R.size];exact fun h=>h5 ((hdiv _).2 h)) with ⟨e1,q⟩ | ⟨e1,q⟩
     ·left;rw [commitP_5 hin' g2 g3 h5];refine ⟨e1,⟨q.dark,q.in_,q.now,q.sure.trans R.now,q.size.trans R.size,q.fr.trans ?_,fun _=>rfl⟩,q.left⟩;rw [eN];have e2:(16777216<A.nd+(listN w.now w.sure).length*(16+A.size))↔16777196 / (w.z+16)<w.fr+(listN w.now w.sure).length:=by
       rw [hdiv,Nat.add_mul,←R.fr,←R.size];rw [hdiv,←R.size] at h5;rcases hnd with ⟨n1,n2⟩ | n1
       ·rw [n1,n2];simp only [Nat.zero_mul];omega
       ·rw [n1];omega
      by_cases e3:16777216<A.nd+(listN w.now w.sure).length*(16+A.size)
      ·rw [if_pos e3,if_pos (e2.1 e3)]
      ·rw [if_neg e3,if_neg (fun h=>e3 (e2.2 h)),R.fr]
     ·right;rw [R.size,R.sure,R.now] at q;exact ⟨e1,hin,q⟩
  ·left;have h8:mayA A=8:=by unfold mayA at hm⊢;repeat' split at hm;all_goals simp_all
   have hm2:=h8;rw [R.may] at hm2;rw [commitA_3 R.dark hiA hm,h8];have e:commitP w=(w,8):=by
    by_cases hn:w.now=[]
    ·rw [if_pos hn] at hm2;exact commitP_2 hin' ⟨hn,fun h=>by rw [if_pos h] at hm2;cases hm2⟩
    ·rw [if_neg hn] at hm2;exact commitP_3 hin' (fun h=>hn h.1) ⟨hn,by cases h9:hdOk (w.now.getD 0 []) w.z;rfl;rw [h9,if_pos rfl] at hm2;cases hm2⟩
   rw [e];exact ⟨rfl,R,id⟩
 ·left;have hin':w.in_=false:=by simpa using hin
  rw [commitA_2 R.dark (R.in_.trans hin'),commitP_1 hin'];exact ⟨rfl,R,id⟩
theorem RelA.check (P:APl A) :
  ((checkA A).2=(checkP w).2∧RelA (checkA A).1 (checkP w).1∧(A.dk.left<0→(checkA A).1.dk.left<0))∨((checkA A).2=13∧Fail A (checkA A).1 (GdD w.z w.sure)):=by
 by_cases hin:w.in_=true
 ·left;have e:checkA A=(A,10):=by unfold checkA;rw [if_neg (by rw [R.dark];decide),if_pos (R.in_.trans hin)]
  rw [e,checkP_1 hin];exact ⟨rfl,R,id⟩
 ·have hin':w.in_=false:=by simpa using hin
  have hiA:=R.in_.trans hin';rw [checkP_2 hin];by_cases hf:A.fr=0
  ·left;have e:checkA A=(A,0):=by unfold checkA;rw [if_neg (by rw [R.dark];decide),if_neg (by rw [hiA];decide),if_pos hf]
   rw [e];exact ⟨rfl,⟨R.dark,hiA,R.now.trans (R.no hin'),R.sure,R.size,hf,fun _=>rfl⟩,id⟩
  ·rcases check_out P R.dark hiA hf with ⟨e1,e2,⟨d,e3⟩,e4⟩ | ⟨e1,q⟩
   ·left;rw [e3] at e2 e4⊢;exact ⟨e1,⟨R.dark,hiA,R.now.trans (R.no hin'),R.sure,R.size,rfl,fun _=>rfl⟩,e4⟩
   ·right;rw [R.size,R.sure] at q;exact ⟨e1,q⟩
end
open Go Go.HL
section
variable {h h':Heap} {d p:Nat} {F:Nat→Prop} {A:Ah}
theorem ag_pl (ok:(agI p d F A).p h):APl A:=let ⟨_,_,_,q⟩:=ok;q.I.pl q.O
theorem gbegin_any (ok:Hp h F [agI p d F A] [] h) (hcg:A.dk.chg<400000000) :
  HC Tryz.prog 48 #[.pointer (some ⟨p,0,none⟩)] h (fun v h'=>∃F',v=.int .i64 ((beginA A).2:Int)∧Hp h F [agI p d F' (beginA A).1] [] h'):=by
 have P:=ag_pl ok.m0;obtain ⟨r,E,Q,I,O,hd,o,hf,he,hg⟩:=ag_open ok;refine (abegin_any o I hcg).mono fun v h' ⟨r',E',Q',hv,I',up⟩=>?_;obtain ⟨F',q⟩:=ag_up up hf he hg I' (begin_O P) hd;exact ⟨F',hv,q⟩
theorem gcommit_any (ok:Hp h F [agI p d F A] [] h) (hcg:A.dk.chg<400000000) :
  HC Tryz.prog 49 #[.pointer (some ⟨p,0,none⟩)] h (fun v h'=>∃F',v=.int .i64 ((commitA A).2:Int)∧Hp h F [agI p d F' (commitA A).1] [] h'):=by
 have P:=ag_pl ok.m0;obtain ⟨r,E,Q,I,O,hd,o,hf,he,hg⟩:=ag_open ok;refine (acommit_any o I hcg O).mono fun v h' ⟨r',E',Q',hv,I',up⟩=>?_;obtain ⟨F',q⟩:=ag_up up hf he hg I' (commit_O P hcg) hd;exact ⟨F',hv,q⟩
theorem gcheck_any (ok:Hp h F [agI p d F A] [] h) (hcg:A.dk.chg<400000000) :
  HC Tryz.prog 63 #[.pointer (some ⟨p,0,none⟩)] h (fun v h'=>∃F',v=.int .i64 ((checkA A).2:Int)∧Hp h F [agI p d F' (checkA A).1] [] h'):=by
 have P:=ag_pl ok.m0;obtain ⟨r,E,Q,I,O,hd,o,hf,he,hg⟩:=ag_open ok;refine (acheck_any o I hcg O).mono fun v h' ⟨r',E',Q',hv,I',up⟩=>?_;obtain ⟨F',q⟩:=ag_up up hf he hg I' (check_O P) hd;exact ⟨F',hv,q⟩
theorem gresize_any {n:Int} (ok:Hp h F [agI p d F A] [] h) (hcg:A.dk.chg<400000000) (hn : -9223372036854775808≤n∧n≤9223372036854775807) :
  HC Tryz.prog 50 #[.pointer (some ⟨p,0,none⟩),.int .i64 n] h (fun v h'=>∃F',v=.int .i64 ((resizeA A n).2:Int)∧Hp h F [agI p d F' (resizeA A n).1] [] h'):=by
 have P:=ag_pl ok.m0;obtain ⟨r,E,Q,I,O,hd,o,hf,he,hg⟩:=ag_open ok;refine (aresize_any o I hcg hn).mono fun v h' ⟨r',E',Q',hv,I',up⟩=>?_;obtain ⟨F',q⟩:=ag_up up hf he hg I' (resize_O P) hd;exact ⟨F',hv,q⟩
theorem gwrite_any {a:Option Addr} {c:Nat} {l:List UInt8} {no:Int} {F2 E2:Nat→Prop} (ok:Hp h F [agI p d F A] [rdI F2 E2 (a,l.length,c) l] h) (hcg:A.dk.chg<400000000) :
  HC Tryz.prog 51 #[.pointer (some ⟨p,0,none⟩),.int .i64 no,.slice a l.length c] h (fun v h'=>∃F',v=.int .i64 ((writeA A no l).2:Int)∧Hp h F [agI p d F' (writeA A no l).1] [] h'):=by
 have P:=ag_pl ok.m0;obtain ⟨r,E,Q,I,O,hd,o,hf,he,hg⟩:=ag_open ok;have o2:Hp h (pagI p r).F [pagI p r] [bysI E r.rd.fs,pbsI Q r.bs,rdI F2 E2 (a,l.length,c) l] h:=⟨o.chg,o.m,fun i hi=>by
  rcases List.mem_cons.1 hi with rfl | hi
  ·exact o.r _ (by simp)
  ·rcases List.mem_cons.1 hi with rfl | hi
   ·exact o.r (pbsI Q r.bs) (by simp)
   ·exact ok.r i hi,o.mm,fun x hx b hb=>by
  rcases List.mem_cons.1 hb with rfl | hb
  ·exact o.mr x hx _ (by simp)
  ·rcases List.mem_cons.1 hb with rfl | hb
   ·exact o.mr x hx (pbsI Q r.bs) (by simp)
   ·rw [List.mem_singleton.1 hx,List.mem_singleton.1 hb];exact fun j hj=>ok.mr (agI p d F A) (by simp) (rdI F2 E2 (a,l.length,c) l) (by simp) j (hf j hj)⟩
 refine (awrite_any o2 I hcg).mono fun v h' ⟨r',E',Q',hv,I',up⟩=>?_;obtain ⟨F',q⟩:=ag_up up hf he hg I' (write_O P) hd;exact ⟨F',hv,q⟩
theorem gread_any {no:Int} (ok:Hp h F [agI p d F A] [] h) (hcg:A.dk.chg<400000000) :
  HC Tryz.prog 21 #[.pointer (some ⟨p,0,none⟩),.int .i64 no] h (fun v h'=>∃F' a c,v=.tuple #[.slice a (readA A no).1.length c,.int .i64 ((readA A no).2:Int)]∧Hp h F [capI 1 5 (a,(readA A no).1.length,c) ((readA A no).1.map bv),agI p d F' A] [] h'):=by
 obtain ⟨r,E,Q,I,O,hd,o,hf,he,hg⟩:=ag_open ok;refine (aread_any o I hcg).mono fun v h' ⟨F',a,c,hv,q⟩=>?_;have o2:=Hp.n1 (o.lift2 q);have o3:=ag_close (r':={ r with cF:=F' }) o2 hf (fun j hj=>.inl (he j hj)) (fun j hj=>.inl (hg j hj)) I.cF O hd;exact ⟨_,a,c,hv,o3.n1⟩
theorem ag_box (ok:(agI p d F A).p h):∃r,PIs r A∧(aboxI p r).p h:=by
 obtain ⟨r,E,Q,q⟩:=ok;exact ⟨r,q.I,q.pi.1 (aboxI p r) (by simp)⟩
theorem gframes_any (ok:(agI p d F A).p h) :
  HC Tryz.prog 20 #[.pointer (some ⟨p,0,none⟩)] h (fun v h'=>v=.int .i64 ((if A.dark=true then 0 else A.fr:Nat):Int)∧h'=h):=by
 obtain ⟨r,I,hb⟩:=ag_box ok;have:=aframes_any hb;rw [I.dark,I.fr] at this;exact this
theorem src_same {d d':Dk} {at_:List (Int × Nat)} {z i:Nat} {l:List UInt8} (hd:d'.dark=d.dark) (hf:d'.fs=d.fs) (s:SrcOk d at_ z i l):SrcOk d' at_ z i l:=by
 unfold SrcOk at s⊢;split at s
 ·rw [read_same hd (by rw [hf])];exact s
 ·rw [read_same hd (by rw [hf])];exact s
theorem DkOk.opn {D:Dk} {z room:Int} (k:DkOk D):DkOk (openN D z room).1:=by
 have k2:DkOk (startN D z.toNat).1:=by
  unfold startN;split
  ·exact k.rcv
  ·exact k.clear
 unfold openN
 repeat' split
 all_goals first | exact k | exact k2
theorem PIs.cut {r:RA} {z:Int} (hz:z≤9223372036854775807) (I:PIs r A):PIs { r with rd:=cutR r.rd z } { A with dk:=cutN A.dk z }:=
  have hf:(cutN A.dk z).fs=A.dk.fs:=by unfold cutN;split<;>rfl
  have hd:(cutN A.dk z).dark=A.dk.dark:=by unfold cutN;split<;>rfl
  { I with
    dk:=by simp only;rw [cutR_abs,I.dk]
    good:=fun h=>let g:=I.good h;⟨g.sl,g.nl,fun i hi=>src_same hd hf (g.src i hi),g.now,g.keys,g.bm,by simp only;rw [hd];exact g.drk⟩
    ok:=I.ok.cut hz }
theorem gopen_any {D:Dk} {z room:Int} {sure:List (List UInt8)} (ok:Hp h F [dgI d F D] [] h) (hk:DkOk D) (hcg:D.chg<500000000) (hz : -9223372036854775808≤z∧z≤9223372036854775807) (hS:(openN D z room).2.2=0→AhOk ⟨(openN D z room).1,0,0,0,false,[],sure,z.toNat,false⟩∧sure.length=(openN D z room).2.1) :
    HC Tryz.prog 18 #[.pointer (some ⟨d,0,none⟩),.int .i64 z,.int .i64 room] h (fun v h'=>(∃F',(openN D z room).2.2≠0∧v=.tuple #[.pointer none,.int .i64 ((openN D z room).2.2:Int)]∧Hp h F [dgI d F' (openN D z room).1] [] h')∨
      (∃p F',(openN D z room).2.2=0∧v=.tuple #[.pointer (some ⟨p,0,none⟩),.int .i64 0]∧Hp h F [agI p d F' ⟨(openN D z room).1,0,0,0,false,[],sure,z.toNat,false⟩] [] h')):=by
  obtain ⟨r,E,rfl,o,hf,he⟩:=dg_open ok;refine (aopen_any (fun i=>sure[i]?) o hk hcg hz).mono fun v h' q=>?_;rcases q with ⟨r',E',e1,hv,ha,up⟩ | ⟨p,m,rd',c,cF,E',e1,hv,ha,hp,hn⟩
  · obtain ⟨F',q⟩:=dg_up up hf he;rw [ha] at q;exact .inl ⟨F',e1,hv,q⟩
  · obtain ⟨O,hl⟩:=hS e1;have hp2:Hp h (dskI d r).F [pagI p ⟨0,0,0,m,[],false,0,none,[],d,rd',z.toNat,(openN r.abs z room).2.1,c,cF,fun i=>sure[i]?,false⟩] [bysI E' rd'.fs,pbsI none_ []] h':=(hp.dE (pbsI none_ []) Pbs.nil (fun _ f=>f)).f1;obtain ⟨T,fs,hT,st⟩:=O.st;have hTs:T.getD []=sure.flatten:=by
      cases st with
      | none h4 h5 h6 h7 h8=>exact h8
      | log salt mk hs hok he hnd=>simp only at hnd;omega
    have hzb:=okSz_b O.pg.sz;have hmn:=O.pg.many;have I:PIs ⟨0,0,0,m,[],false,0,none,[],d,rd',z.toNat,(openN r.abs z room).2.1,c,cF,fun i=>sure[i]?,false⟩ ⟨(openN r.abs z room).1,0,0,0,false,[],sure,z.toNat,false⟩:=
      { dk:=ha,fr:=rfl,nd:=rfl,link:=rfl,in_:=rfl,many:=rfl,sure:=hl.symm,S:=rfl,size:=rfl,dark:=rfl
        good:=fun _=>⟨O.pg.len,(fun l hl=>by cases hl),src_T O.hd (show 0<z.toNat by have h9:256≤z.toNat:=hzb.1;omega) O.pg.len hT hTs,(fun i hi=>by cases hi),(fun x hx=>by cases hx),(fun h=>by cases h),O.hd⟩
        sz:=O.pg.sz,sm:=⟨by have h9:sure.length≤65536:=hmn;show sure.length≤_;omega,O.pg.fit⟩,nm:=by simp,ndb:=by simp,frb:=by simp,lkb:=by simp,ok:=hk.opn }
    exact .inr ⟨p,_,e1,hv,ag_close hp2 hf (fun j hj=>(hn j hj).imp (he j) id) (fun j f=>f.elim) I (fun _=>O) rfl⟩
theorem gopen0_any {D:Dk} {z room:Int} {sure:List (List UInt8)} (ok:Hp h F [dgI d F D] [] h) (hk:DkOk D) (hcg:D.chg<500000000) (hz : -9223372036854775808≤z∧z≤9223372036854775807) (h0:(openN D z room).2.2=0) (hS:AhOk ⟨(openN D z room).1,0,0,0,false,[],sure,z.toNat,false⟩∧sure.length=(openN D z room).2.1) :
  HC Tryz.prog 18 #[.pointer (some ⟨d,0,none⟩),.int .i64 z,.int .i64 room] h (fun v h'=>∃p F',v=.tuple #[.pointer (some ⟨p,0,none⟩),.int .i64 0]∧Hp h F [agI p d F' ⟨(openN D z room).1,0,0,0,false,[],sure,z.toNat,false⟩] [] h'):=
 (gopen_any ok hk hcg hz (fun _=>hS)).mono fun v h' q=>q.elim (fun ⟨_,h1,_⟩=>absurd h0 h1) fun ⟨p,F',_,hv,hp⟩=>⟨p,F',hv,hp⟩
end
open Go Go.HL
def writeL (z:Nat) (x:PO6):List UInt8:=if x.n<0 then (pageP z x).drop 1 else pageP z x
theorem begin_dk {A : Ah} : (beginA A).1.dk = A.dk := by unfold beginA; repeat' split
                                                         all_goals rfl
theorem rollback_dk {A : Ah} : (rollbackA A).1.dk = A.dk := by unfold rollbackA; repeat' split
                                                               all_goals rfl
theorem resize_dk {A : Ah} {n : Int} : (resizeA A n).1.dk = A.dk := by unfold resizeA; repeat' split
                                                                       all_goals rfl
theorem write_dk {A : Ah} {no : Int} {b : List UInt8} : (writeA A no b).1.dk = A.dk := by unfold writeA; repeat' split
                                                                                          all_goals rfl
end Go.Proofs.YtpeaicddbnghfaaGreat
namespace Go.HL
open Go Go.Proofs.YtpeaicddbnghfaaGreat
theorem Hp.locC {h0 h:Heap} {D:Nat→Prop} {M R:List Itm} {x:Itm} {e:TypeId} {a:Option Addr} {c:Nat} {l:List UInt8} (ok:Hp h0 D (x::capI 1 e (a,l.length,c) (l.map bv)::M) R h):Hp h x.F [x] [rdI (blkC (sv (a,l.length,c))) none_ (a,l.length,c) l] h:=
 (ok.k2.n1.frzB (l:=l) rfl).loc1
end Go.HL
namespace Go.Proofs.YtpeaicddbnghfaaGreat
open Go Go.HL
noncomputable def stepA14 (A:Ah) (z:Nat) (x:PO6):Ah × Nat:=match x.k%7 with
 | 0=>beginA A
 | 1=>writeA A x.no (writeL z x)
 | 2=>resizeA A x.n
 | 3=>commitA A
 | 4=>rollbackA A
 | 5=>(A,(readA A x.no).2)
 | _=>checkA A
def stepP14 (w:WPg) (x:PO6):WPg × Nat:=match x.k%7 with
 | 0=>beginP w
 | 1=>writeP w x.no (writeL w.z x)
 | 2=>resizeP w x.n
 | 3=>commitP w
 | 4=>rollbackP w
 | 5=>(w,(readP w x.no).2)
 | _=>checkP w
def told14 (A:Ah) (w:WPg) (x:PO6):Prop:=(x.k%7=5→(readA A x.no).1=(readP w x.no).1)∧(stepA14 A w.z x).2=(stepP14 w x).2
end Go.Proofs.YtpeaicddbnghfaaGreat
