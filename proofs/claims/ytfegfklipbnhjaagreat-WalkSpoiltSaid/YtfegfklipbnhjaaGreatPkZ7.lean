/- A page is taken; a page is given. Conditions: the store is in order. Get, Pages, Local, Drop of chains. Conditions: the store is in order. Rows of pages in memory, and the document's pager, in plain terms and in memory. Conditions: those that each fact names. Bytes in parts: slices.Chunk, slices.Collect. Conditions: the parts are not too short. Bytes are put into a chain. Conditions: the store is in order, the bytes are readable. A disk as one item that is told in plain terms alone; its calls so. Conditions: those that each fact names. The pager that logs ahead, its small parts: a page's size, a file removed for good, a whole file, a page's head. Conditions: the disk is in order. The pager that logs ahead: what is told first, the power gone, the log forgotten, the mark and the log removed. Conditions: the disk is in order. The pager that logs ahead: what is told of it; its pages are read. Conditions: the disk is in order; the pages stand where the pager has them. Files of a disk, byte by byte: what changes do to them, how the power goes, and what a crash may leave. Conditions: those that each fact names. Carrying over and clearing away, in plain terms: what is left when it is done, and what a crash may leave wherever the power goes. Conditions: those that each fact names. The pager that keeps a journal, in plain terms: what each of its functions does to the disk, the cache and its own state. Conditions: those that each fact names. The pager that keeps a journal, in memory: its box, the map of what is kept, and its disk as one item that turns (the core); the cache beside it. Conditions: those that each fact names. The pager that keeps a journal: its state, its present pages, a call's end, a page's bytes in the file. Conditions: the pager is in order. The pager that keeps a journal: a transaction begins; what it tells of itself. Conditions: the pager is in order. Pagers of either make, opened on a new disk: nothing is in them. Conditions: the size and the room may be. A store is opened on a new disk, with either pager. Conditions: the size and the room may be. A page's bytes of a number; numbers among others; rows of numbers that are the same. Conditions: few. Chains of trunks, told by their numbers: what Give and Take do to them. Conditions: those that each fact names. A store with so many pages, in a transaction, and the document's beside it. Conditions: the size and the room may be. A fresh store, bytes of a number, and the document's Local. Conditions: few. The chapter's first example of the free list. Conditions: none. The chapter's first example of chains, in plain terms. Conditions: none. -/
import Derived.Test.YtfegfklipbnhjaaGreatPkZ6
set_option maxRecDepth 100000
set_option maxHeartbeats 2000000
set_option linter.all false
namespace Go.Proofs.YtfegfklipbnhjaaGreat
open Go Go.HL
section
variable {no:Int} {h:Heap} {F:Nat->Prop} {G:Pgr} {so:Nat}
theorem ix_iff {v:Int} {l:List Int} : 0<=ixOf v l↔v∈l:=⟨fun h=>Classical.byContradiction fun hn=>by rw [ixOf_none hn] at h;omega,fun h=>Classical.byContradiction fun hn=>ixOf_lt (by omega) h⟩
theorem zer_len {z:Nat} : (zer z).length=z:=kW
theorem contains_any {E:Nat->Prop} {a:Option Addr} {c:Nat} {l:List Int} {v:Int} (hl:RdL h F E (a,l.length,c) l) (hN:l.length<=1000000) :
  Hc 160 #[.slice a l.length c,.J v] h (fun r h'=>r=.bool (decide (v∈l))/\h'=h):=by
 refine HC.go Tryz.func160 9 ?_;refine .s<|.z .asB<|.nil<|.s<|.z .mvS<|.z .mvI<|.k 7 .func (index_any (a:=a) (n:=l.length) (c:=c) (v:=v) (l:=l) (RdL.ints (x:=(a,l.length,c)) hl))<|.z .geq<|.z .asB<|.nil<|.ret ⟨.bool (decide (0<=(ixOf v l))),Res.one rfl rfl,⟨by rw [decide_eq_decide.2 ix_iff],rfl⟩⟩
theorem frGrow_5 {w:St} (h:16777216 / (w.z:Int)<(w.pgs.length:Int)+1):frGrow w=(w,0,5):=if_pos h
theorem frGrow_e {w:St} (h:¬16777216 / (w.z:Int)<(w.pgs.length:Int)+1) (h2:(w.write ((w.pgs.length:Int)+1) (zer w.z)).2≠0):frGrow w=((w.write ((w.pgs.length:Int)+1) (zer w.z)).1,0,(w.write ((w.pgs.length:Int)+1) (zer w.z)).2):=by unfold frGrow;rw [if_neg h,if_pos h2]
theorem frGrow_h {w:St} (h:¬16777216 / (w.z:Int)<(w.pgs.length:Int)+1) (h2:(w.write ((w.pgs.length:Int)+1) (zer w.z)).2=0):frGrow w=((hdd (w.write ((w.pgs.length:Int)+1) (zer w.z)).1 0 0).1,(w.pgs.length:Int)+1,(hdd (w.write ((w.pgs.length:Int)+1) (zer w.z)).1 0 0).2):=by unfold frGrow;rw [if_neg h,if_neg (by rw [h2];decide)]
theorem fgrow_any {w:St} (ok:Hp h F [dsI G so F w] [] h) :
  Hc 124 #[.P so] h (fun v h'=>∃F',v=.tuple #[.J (frGrow w).2.1,.J (((frGrow w).2.2:Nat):Int)]/\Hp h F [dsI G so F' (frGrow w).1] [] h'):=by
 have hso:=ds_ok ok.m0;have hzc:=okSz_c hso.z;have hfew:=St.few hso;have hhr:=St.head_r hso;have hhp:=St.head_pages (w:=w);have hH:=hhr.size;have hHf:=hhr.free;have hHm:=hhr.many;have hHc:=hhr.cookie;have hHv:=hhr.version;refine HC.go Tryz.func124 27 ?_;refine .s<|.z .asI<|.z .asI<|.nil<|.s<|.z .mvP<|.c' 7 .func (sHead_any (G:=G) (w:=w) (ok).loc0) ?_;rintro _ U1 ⟨Fh1,rfl,q⟩;have ok:=(ok).lift1 q;rw [show w.head.val=.agg #[.J w.head.size,.J (w.pgs.length:Int),.J w.head.free,.J w.head.many,.J w.head.cookie,.J w.head.version] from (by rw [<-St.head_pages];rfl)];refine .z (.fd T.fd97_1 T.ag3)<|.z .add<|.z .asI<|.nil<|.seq<|.s<|.z .mvI<|.z .mvP<|.k 12 .func (sSize_any (G:=G) (F:=Fh1) (w:=w) ok.m0)<|.z .quo<|.z .gtr<|.nil<|.cd (fun C0=>?_) (fun C0=>?_)
 ·
  refine .s<|.z .asI<|.z .asI<|.nil<|.ret ⟨.tuple #[.J 0,.J 5],Res.two rfl rfl rfl,⟨_,by rw [frGrow_5 (by omega)]<;>rfl,by rw [frGrow_5 (by omega)];exact (ok)⟩⟩
 refine .skip<|.seq<|.s<|.z .mvP<|.z .mvI<|.z .mvP<|.k 18 .func (sSize_any (G:=G) (F:=Fh1) (w:=w) ok.m0)<|.a' 19 (.mks w.z w.z T.el35 T.sz5 T.by5 T.zr5 ok (hnm:=by omega)) ?_;rintro _ U2 ⟨pb1,rfl,ok,xe⟩;have ok:=ok.cx (ys:=(List.replicate w.z (0:UInt8)).map bv) (zeros8 _);refine .c' 20 .func (sWriteC_any (G:=G) (w:=w) (no:=((w.pgs.length:Int)+1)) (l:=(zer w.z)) (ok.n1) (by rw [zer_len];omega)) ?_;rintro _ U3 ⟨Fk1,rfl,q⟩;have ok:=(ok.n1).lift1 q;refine .z .asI<|.nil<|.s<|.z .mvI<|.z .neq<|.nil<|.cd (fun C1=>?_) (fun C1=>?_)
 ·
  refine .s<|.z .mvI<|.z .asI<|.z .asI<|.nil<|.ret ⟨.tuple #[.J 0,.J (((w.write ((w.pgs.length:Int)+1) (zer w.z)).2:Nat):Int)],Res.two rfl rfl rfl,⟨_,by rw [frGrow_e (by omega) (by omega)]<;>rfl,by rw [frGrow_e (by omega) (by omega)];exact (ok).k1⟩⟩
 refine .skip<|.s<|.z .mvI<|.z .mvP<|.c' 26 .func (fheaded_any (G:=G) (w:=(w.write ((w.pgs.length:Int)+1) (zer w.z)).1) (f:=0) (m:=0) (ok).loc0 (by omega) (by omega)) ?_;rintro _ U4 ⟨Fz1,rfl,q⟩;have ok:=(ok).lift1 q;refine .z .asI<|.z .asI<|.nil<|.ret ⟨.tuple #[.J ((w.pgs.length:Int)+1),.J (((hdd ((w.write ((w.pgs.length:Int)+1) (zer w.z)).1) 0 0).2:Nat):Int)],Res.two rfl rfl rfl,⟨_,by rw [frGrow_h (by omega) (by omega)]<;>rfl,by rw [frGrow_h (by omega) (by omega)];exact (ok).k1⟩⟩
section
variable {w:St}
theorem write_z {b:List UInt8} : (w.write no b).1.z=w.z:=by
 unfold St.write;split<;>(try rfl);split<;>(try rfl);split<;>rfl
theorem tkW_z:(tkW w).1.z=w.z:=by
 unfold tkW;split
 ·exact write_z
 ·rfl
theorem takeF_e (h:(frOp w).2≠0):takeF w=(w,0,(frOp w).2):=if_pos h
theorem takeF_g (h:(frOp w).2=0) (h2:(frOp w).1=[]):takeF w=toldF (frGrow w):=by unfold takeF;rw [if_neg (by rw [h];decide),if_pos h2]
theorem takeF_w (h:(frOp w).2=0) (h2:(frOp w).1≠[]) (h3:(tkW w).2≠0):takeF w=((tkW w).1,0,(tkW w).2):=by unfold takeF;rw [if_neg (by rw [h];decide),if_neg h2,if_pos h3]
theorem takeF_z (h:(frOp w).2=0) (h2:(frOp w).1≠[]) (h3:(tkW w).2=0) (h4:(tkZ w).2≠0):takeF w=((tkZ w).1,0,(tkZ w).2):=by unfold takeF;rw [if_neg (by rw [h];decide),if_neg h2,if_neg (by rw [h3];decide),if_pos h4]
theorem takeF_h (h:(frOp w).2=0) (h2:(frOp w).1≠[]) (h3:(tkW w).2=0) (h4:(tkZ w).2=0):takeF w=toldF ((tkH w).1,tkNo w,(tkH w).2):=by unfold takeF;rw [if_neg (by rw [h];decide),if_neg h2,if_neg (by rw [h3];decide),if_neg (by rw [h4];decide)]
theorem giveF_1 (h:w.in_=true) (h2:0<w.pgs.length) (h3:no<2\/(w.pgs.length:Int)<no):giveF w no=(w,1):=if_pos ⟨h,h2,h3⟩
theorem giveF_e (h:¬(w.in_=true/\0<w.pgs.length/\(no<2\/(w.pgs.length:Int)<no))) (h2:(frOp w).2≠0):giveF w no=(w,(frOp w).2):=by unfold giveF;rw [if_neg h,if_pos h2]
theorem giveF_7 (h:¬(w.in_=true/\0<w.pgs.length/\(no<2\/(w.pgs.length:Int)<no))) (h2:(frOp w).2=0) (h3:no∈(frOp w).1):giveF w no=(w,7):=by unfold giveF;rw [if_neg h,if_neg (by rw [h2];decide),if_pos h3]
theorem giveF_a (h:¬(w.in_=true/\0<w.pgs.length/\(no<2\/(w.pgs.length:Int)<no))) (h2:(frOp w).2=0) (h3:no∉(frOp w).1) (h4:w.head.free≠0) (h5:tkN w<(w.z-8) / 4):giveF w no=thenH (gvA w no) w.head.free (w.head.many+1):=by unfold giveF;rw [if_neg h,if_neg (by rw [h2];decide),if_neg h3,if_pos ⟨h4,h5⟩]
theorem giveF_b (h:¬(w.in_=true/\0<w.pgs.length/\(no<2\/(w.pgs.length:Int)<no))) (h2:(frOp w).2=0) (h3:no∉(frOp w).1) (h4:¬(w.head.free≠0/\tkN w<(w.z-8) / 4)):giveF w no=thenH (gvB w no) no (w.head.many+1):=by unfold giveF;rw [if_neg h,if_neg (by rw [h2];decide),if_neg h3,if_neg h4]
theorem thenH_e {x:St × Nat} {f m:Int} (h:x.2≠0):thenH x f m=x:=if_pos h
theorem thenH_0 {x:St × Nat} {f m:Int} (h:x.2=0):thenH x f m=hdd x.1 f m:=if_neg (by rw [h];decide)
end
theorem ftake_any {w:St} (ok:Hp h F [dsI G so F w] [] h) :
  Hc 89 #[.P so] h (fun v h'=>∃F',v=.tuple #[.J (takeF w).2.1,.J (((takeF w).2.2:Nat):Int)]/\Hp h F [dsI G so F' (takeF w).1] [] h'):=by
 have hso:=ds_ok ok.m0;have hzc:=okSz_c hso.z;have hfew:=St.few hso;have hhr:=St.head_r hso;have hhp:=St.head_pages (w:=w);have hH:=hhr.size;have hHf:=hhr.free;have hHm:=hhr.many;have hHc:=hhr.cookie;have hHv:=hhr.version;refine HC.go Tryz.func89 92 ?_;refine .s<|.z .asI<|.z .asI<|.nil<|.s<|.z .mvP<|.c' 14 .func (fopen_any (G:=G) (w:=w) (ok).loc0) ?_;rintro _ U1 ⟨Fl1,xl1,cl1,rfl,q⟩;have ok:=(ok).lift2 q;refine .z .mvU<|.z .ex<|.z .ex<|.z .asS<|.z .asI<|.nil<|.seq<|.s<|.z .mvI<|.z .neq<|.nil<|.cd (fun C0=>?_) (fun C0=>?_)
 ·
  refine .s<|.z .mvI<|.z .asI<|.z .asI<|.nil<|.ret ⟨.tuple #[.J 0,.J (((frOp w).2:Nat):Int)],Res.two rfl rfl rfl,⟨_,by rw [takeF_e (by omega)]<;>rfl,by rw [takeF_e (by omega)];exact (ok.n1).k1⟩⟩
 refine .skip<|.seq<|.s<|.z .mvS<|.z (.len T.el93)<|.z .eql<|.nil<|.cd (fun C1=>?_) (fun C1=>?_)
 ·
  refine .s<|.z .mvP<|.c' 24 .func (fgrow_any (G:=G) (w:=w) (ok.n1).loc0) ?_;rintro _ U2 ⟨Ft1,rfl,q⟩;have ok:=(ok.n1).lift1 q;refine .z .ex<|.z .ex<|.k 27 .func (ftold_any (no:=(frGrow w).2.1) (e:=(((frGrow w).2.2:Nat):Int)))<|.z .ex<|.z .ex<|.z .asI<|.z .asI<|.nil<|.ret ⟨.tuple #[.J (if (((frGrow w).2.2:Nat):Int)=0 then (frGrow w).2.1 else 0),.J (((frGrow w).2.2:Nat):Int)],Res.two rfl rfl rfl,⟨_,by rw [takeF_g (by omega) (qW (by omega))];unfold toldF;simp only [Int.natCast_eq_zero],by rw [takeF_g (by omega) (qW (by omega))];exact (ok).k1⟩⟩
 have hop:(frOp w).2=0:=by omega
 have hne:(frOp w).1≠[]:=fun h=>by rw [h] at C1;exact C1 rfl
 obtain ⟨hf1,hf2,hf3⟩:=frAll_1 (frOp_0 hop).2.2 hne;have hf3:(rdN (tkA w) 4 4)<=(w.z-8) / 4:=hf3;have hr4:=rdN_lt (l:=tkA w) (p:=0);have hr8:=rdN_lt (l:=tkA w) (p:=8+4*((rdN (tkA w) 4 4)-1));refine .skip<|.s<|.z .mvP<|.c' 31 .func (sHead_any (G:=G) (w:=w) (ok.n1).loc0) ?_;rintro _ U3 ⟨Fh1,rfl,q⟩;have ok:=(ok.n1).lift1 q;rw [show w.head.val=.agg #[.J w.head.size,.J (w.pgs.length:Int),.J w.head.free,.J w.head.many,.J w.head.cookie,.J w.head.version] from (by rw [<-St.head_pages];rfl)];refine .a' 6 (.alA T.zr97 ok) ?_;rintro _ U4 ⟨pb1,rfl,ok,xe⟩;refine .ur' (.stW (vs:=[.J w.head.size,.J (w.pgs.length:Int),.J w.head.free,.J w.head.many,.J w.head.cookie,.J w.head.version]) T.sz97 ok (oneL rfl)) ?_;rintro U5 ⟨ok,cg⟩;refine .nil ?_;refine .s<|.z .mvP<|.z (.fa T.fd97_2)<|.z (.ldx T.ag3 ok.m0)<|.c' 36 .func (sReadOk_any (G:=G) (w:=w) (no:=w.head.free) (b:=(tkA w)) (ok.n1).loc0 (by omega) (by omega)) ?_;rintro _ U6 ⟨Fr1,xr1,cr1,rfl,hlr1,q⟩;have ok:=(ok.n1).lift2 q;refine .z .mvU<|.z .ex<|.z .ex<|.z .asS<|.z .asI<|.nil<|.seq<|.s<|.z .mvI<|.z .neq<|.nil<|.cf<|.skip<|.seq<|.q (hm:=mixed)<|.z (.fa T.fd97_2)<|.z (.ldx T.ag3 ok.m2)<|.z (.fa T.fd97_2)<|.z (.ldx T.ag3 ok.m2)<|.z .asI<|.z .asI<|.nil<|.seq<|.s<|.z .mvS<|.k 47 .func (fnum_any (p:=4) (a:=xr1) (c:=cr1) (l:=(tkA w)) (RdL.ofCapB (v:=(xr1,(tkA w).length,cr1)) (l:=(tkA w)) ok.m0) (by omega))<|.z .asI<|.nil<|.s<|.z .mvI<|.z .gtr<|.nil<|.cd (fun C3=>?_) (fun C3=>?_)
 ·
  have hW:tkW w=w.write w.head.free (put4 (put4 (tkA w) (8+4*((rdN (tkA w) 4 4)-1)) 0) 4 ((rdN (tkA w) 4 4)-1)):=if_pos (show 0<(rdN (tkA w) 4 4) by omega);have hNo:tkNo w=((rdN (tkA w) (8+4*((rdN (tkA w) 4 4)-1)) 4:Nat):Int):=if_pos (show 0<(rdN (tkA w) 4 4) by omega);have hFr:tkFr w=w.head.free:=if_pos (show 0<(rdN (tkA w) 4 4) by omega);refine .s<|.z .mvI<|.z .sub<|.z .mul<|.z .add<|?_;rw [show ((8+(4*((((rdN (tkA w) 4 4):Nat):Int)-1))):Int)=((8+4*((rdN (tkA w) 4 4)-1):Nat):Int) from by omega];refine .z .asI<|.nil<|.s<|.z .mvS<|.z .mvI<|.k 56 .func (fnum_any (p:=8+4*((rdN (tkA w) 4 4)-1)) (a:=xr1) (c:=cr1) (l:=(tkA w)) (RdL.ofCapB (v:=(xr1,(tkA w).length,cr1)) (l:=(tkA w)) ok.m0) (by omega))<|.z .asI<|.nil<|.s<|.z .mvS<|.z .mvI<|.c' 59 .func (fput_any (p:=8+4*((rdN (tkA w) 4 4)-1)) (n:=0) (l:=(tkA w)) (ok).loc0 (by first | omega | (rw [put4_len (by omega)];omega)) (by omega) (by first | omega | (rw [put4_len (by omega)];omega))) ?_;rintro _ U7 ⟨rfl,q⟩;have ok:=(ok).lift1 q;refine .nil ?_;refine .s<|.z .mvS<|.z .mvI<|.z .sub<|?_;rw [show (((((rdN (tkA w) 4 4):Nat):Int)-1):Int)=(((rdN (tkA w) 4 4)-1:Nat):Int) from by omega];refine .c' 63 .func (fput_any (p:=4) (n:=(rdN (tkA w) 4 4)-1) (l:=(put4 (tkA w) (8+4*((rdN (tkA w) 4 4)-1)) 0)) (ok).loc0 (by first | omega | (rw [put4_len (by omega)];omega)) (by omega) (by first | omega | (rw [put4_len (by omega)];omega))) ?_;rintro _ U8 ⟨rfl,q⟩;have ok:=(ok).lift1 q;refine .nil ?_;refine .s<|.z .mvP<|.z .mvI<|.z .mvS<|.c' 67 .func (sWriteC_any (G:=G) (w:=w) (no:=w.head.free) (l:=(put4 (put4 (tkA w) (8+4*((rdN (tkA w) 4 4)-1)) 0) 4 ((rdN (tkA w) 4 4)-1))) (ok.n1) (by first | (rw [zer_len];omega) | (rw [put4_len (by rw [put4_len (by omega)];omega),put4_len (by omega)];omega))) ?_;rintro _ U9 ⟨Fk1,rfl,q⟩;have ok:=(ok.n1).lift1 q;have hrl67:(w.write w.head.free (put4 (put4 (tkA w) (8+4*((rdN (tkA w) 4 4)-1)) 0) 4 ((rdN (tkA w) 4 4)-1)))=tkW w:=by rw [hW]
  rw [hrl67] at ok⊢;refine .z .asI<|.nil<|.s<|.z .mvI<|.z .neq<|.nil<|.cd (fun C4=>?_) (fun C4=>?_)
  ·
   refine .s<|.z .mvI<|.z .asI<|.z .asI<|.nil<|.ret ⟨.tuple #[.J 0,.J ((tkW w).2:Int)],Res.two rfl rfl rfl,⟨_,by rw [takeF_w hop hne (by omega)]<;>rfl,by rw [takeF_w hop hne (by omega)];exact (ok).k1⟩⟩
  have hW0:(tkW w).2=0:=by omega
  refine .skip<|.seq<|.s<|.z .mvP<|.z .mvI<|.z .mvP<|.k 76 .func (sSize_any (G:=G) (F:=Fk1) (w:=((tkW w).1)) ok.m0)<|?_;rw [tkW_z];refine .a' 77 (.mks w.z w.z T.el35 T.sz5 T.by5 T.zr5 ok) ?_;rintro _ U10 ⟨pb2,rfl,ok,xe⟩;have ok:=ok.cx (ys:=(List.replicate w.z (0:UInt8)).map bv) (zeros8 _);refine .c' 78 .func (sWriteC_any (G:=G) (w:=(tkW w).1) (no:=(((rdN (tkA w) (8+4*((rdN (tkA w) 4 4)-1)) 4):Nat):Int)) (l:=(zer w.z)) (ok.n1) (by first | (rw [zer_len];omega) | (rw [put4_len (by rw [put4_len (by omega)];omega),put4_len (by omega)];omega))) ?_;rintro _ U11 ⟨Fk2,rfl,q⟩;have ok:=(ok.n1).lift1 q;have hrl78:(((tkW w).1).write (((rdN (tkA w) (8+4*((rdN (tkA w) 4 4)-1)) 4):Nat):Int) (zer w.z))=tkZ w:=by unfold tkZ;rw [hNo]
  rw [hrl78] at ok⊢;refine .z .asI<|.nil<|.s<|.z .mvI<|.z .neq<|.nil<|.cd (fun C5=>?_) (fun C5=>?_)
  ·
   refine .s<|.z .mvI<|.z .asI<|.z .asI<|.nil<|.ret ⟨.tuple #[.J 0,.J ((tkZ w).2:Int)],Res.two rfl rfl rfl,⟨_,by rw [takeF_z hop hne hW0 (by omega)]<;>rfl,by rw [takeF_z hop hne hW0 (by omega)];exact (ok).k1⟩⟩
  refine .skip<|.s<|.z .mvI<|.z .mvP<|.z .mvI<|.z (.fa T.fd97_3)<|.z (.ldx T.ag3 ok.m3)<|.z .sub<|.c' 88 .func (fheaded_any (G:=G) (w:=(tkZ w).1) (f:=w.head.free) (m:=(w.head.many-1)) (ok).loc0 (by omega) (by omega)) ?_;rintro _ U12 ⟨Fz1,rfl,q⟩;have ok:=(ok).lift1 q;have hrl88:(hdd ((tkZ w).1) w.head.free (w.head.many-1))=tkH w:=by unfold tkH;rw [hFr]
  rw [hrl88] at ok⊢;refine .k 89 .func (ftold_any (no:=(((rdN (tkA w) (8+4*((rdN (tkA w) 4 4)-1)) 4):Nat):Int)) (e:=((tkH w).2:Int)))<|.z .ex<|.z .ex<|.z .asI<|.z .asI<|.nil<|.ret ⟨.tuple #[.J (if ((tkH w).2:Int)=0 then (((rdN (tkA w) (8+4*((rdN (tkA w) 4 4)-1)) 4):Nat):Int) else 0),.J ((tkH w).2:Int)],Res.two rfl rfl rfl,⟨_,by rw [takeF_h hop hne hW0 (by omega)];unfold toldF;simp only [hNo,Int.natCast_eq_zero],by rw [takeF_h hop hne hW0 (by omega)];exact (ok).k1⟩⟩
 have hW:tkW w=(w,0):=if_neg (show ¬0<(rdN (tkA w) 4 4) by omega);have hW0:(tkW w).2=0:=by rw [hW]
 have hNo:tkNo w=w.head.free:=if_neg (show ¬0<(rdN (tkA w) 4 4) by omega);have hFr:tkFr w=((rdN (tkA w) 0 4:Nat):Int):=if_neg (show ¬0<(rdN (tkA w) 4 4) by omega);refine .r<|.z .mvS<|.k 72 .func (fnum_any (p:=0) (a:=xr1) (c:=cr1) (l:=(tkA w)) (RdL.ofCapB (v:=(xr1,(tkA w).length,cr1)) (l:=(tkA w)) ok.m0) (by omega))<|.z .asI<|.nil<|.seq<|.s<|.z .mvP<|.z .mvI<|.z .mvP<|.k 76 .func (sSize_any (G:=G) (F:=Fr1) (w:=w) ok.m1)<|.a' 77 (.mks w.z w.z T.el35 T.sz5 T.by5 T.zr5 ok) ?_;rintro _ U13 ⟨pb3,rfl,ok,xe⟩;have ok:=ok.cx (ys:=(List.replicate w.z (0:UInt8)).map bv) (zeros8 _);refine .c' 78 .func (sWriteC_any (G:=G) (w:=w) (no:=w.head.free) (l:=(zer w.z)) (ok.n2) (by first | (rw [zer_len];omega) | (rw [put4_len (by rw [put4_len (by omega)];omega),put4_len (by omega)];omega))) ?_;rintro _ U14 ⟨Fk3,rfl,q⟩;have ok:=(ok.n2).lift1 q;have hrl78:(w.write w.head.free (zer w.z))=tkZ w:=by unfold tkZ;rw [hNo,hW]
 rw [hrl78] at ok⊢;refine .z .asI<|.nil<|.s<|.z .mvI<|.z .neq<|.nil<|.cd (fun C5=>?_) (fun C5=>?_)
 ·
  refine .s<|.z .mvI<|.z .asI<|.z .asI<|.nil<|.ret ⟨.tuple #[.J 0,.J ((tkZ w).2:Int)],Res.two rfl rfl rfl,⟨_,by rw [takeF_z hop hne hW0 (by omega)]<;>rfl,by rw [takeF_z hop hne hW0 (by omega)];exact (ok).k1⟩⟩
 refine .skip<|.s<|.z .mvI<|.z .mvP<|.z .mvI<|.z (.fa T.fd97_3)<|.z (.ldx T.ag3 ok.m3)<|.z .sub<|.c' 88 .func (fheaded_any (G:=G) (w:=(tkZ w).1) (f:=(((rdN (tkA w) 0 4):Nat):Int)) (m:=(w.head.many-1)) (ok).loc0 (by omega) (by omega)) ?_;rintro _ U15 ⟨Fz2,rfl,q⟩;have ok:=(ok).lift1 q;have hrl88:(hdd ((tkZ w).1) (((rdN (tkA w) 0 4):Nat):Int) (w.head.many-1))=tkH w:=by unfold tkH;rw [hFr]
 rw [hrl88] at ok⊢;refine .k 89 .func (ftold_any (no:=w.head.free) (e:=((tkH w).2:Int)))<|.z .ex<|.z .ex<|.z .asI<|.z .asI<|.nil<|.ret ⟨.tuple #[.J (if ((tkH w).2:Int)=0 then w.head.free else 0),.J ((tkH w).2:Int)],Res.two rfl rfl rfl,⟨_,by rw [takeF_h hop hne hW0 (by omega)];unfold toldF;simp only [hNo,Int.natCast_eq_zero],by rw [takeF_h hop hne hW0 (by omega)];exact (ok).k1⟩⟩
theorem frOp_few {w:St} (k:StOk w):(frOp w).1.length<=65536:=by
 unfold frOp;split
 ·simp
 split
 ·simp
 ·exact frL_few k
theorem gvRange {w:St} (h:¬(w.in_=true/\0<w.pgs.length/\(no<2\/(w.pgs.length:Int)<no))) (hi:w.in_=true) (hp:w.pgs.length≠0):2<=no/\no<=(w.pgs.length:Int):=by
 refine ⟨Classical.byContradiction fun h2=>h ⟨hi,by omega,.inl (by omega)⟩,Classical.byContradiction fun h2=>h ⟨hi,by omega,.inr (by omega)⟩⟩
theorem frFree {w:St} (k:StOk w) {l:List Int} (h:frAll w=some l) (h0:w.head.free≠0):2<=w.head.free/\w.head.free<=(w.pgs.length:Int)/\tkN w<=(w.z-8) / 4:=by
 refine frAll_1 h fun e=>?_;subst e;unfold frAll at h;cases hg:frGo w.pgs ((w.z-8) / 4) (w.pgs.length+1) w.head.free [] with
 | none=>rw [hg] at h;cases h
 | some l'=>
  rw [hg] at h;have h2:(if (l'.length:Int)=w.head.many then some l' else none)=some []:=h;split at h2
  ·rename_i hm;injection h2 with h2;subst h2;have h3:=dec_many (w:=w) (by simpa using hm.symm);exact h0 h3
  ·cases h2
theorem fgive_any {w:St} (ok:Hp h F [dsI G so F w] [] h) (hno : -9223372036854775808<=no/\no<=9223372036854775807) :
  Hc 120 #[.P so,.J no] h (fun v h'=>∃F',v=.J (((giveF w no).2:Nat):Int)/\Hp h F [dsI G so F' (giveF w no).1] [] h'):=by
 have hso:=ds_ok ok.m0;have hzc:=okSz_c hso.z;have hfew:=St.few hso;have hhr:=St.head_r hso;have hhp:=St.head_pages (w:=w);have hH:=hhr.size;have hHf:=hhr.free;have hHm:=hhr.many;have hHc:=hhr.cookie;have hHv:=hhr.version;refine HC.go Tryz.func120 114 ?_;refine .s<|.z .asI<|.nil<|.seq<|.seq<|.join (fun s hh=>∃(jb:Bool) (Fj:Nat->Prop),Has s [(0,.P so),(1,.J no),(34,.bool jb)]/\Hp h F [dsI G so Fj w] [] hh/\(jb=true↔(w.in_=true/\0<w.pgs.length/\(no<2\/(w.pgs.length:Int)<no)))) ?_ ?_
 ·
  refine .r<|.z .mvP<|.z (.pNeS T.pt24)<|.z .mvB<|.z .mvP<|.k 16 .func (sIn_any (G:=G) (F:=F) (w:=w) ok.m0)<|.z .pkt<|.z .mvB<|.spl (fun G18=>?_) (fun G18=>?_)
  ·
   refine .z .mvP<|.c' 20 .func (sHead_any (G:=G) (w:=w) (ok).loc0) ?_;rintro _ U1 ⟨Fh1,rfl,q⟩;have ok:=(ok).lift1 q;rw [show w.head.val=.agg #[.J w.head.size,.J (w.pgs.length:Int),.J w.head.free,.J w.head.many,.J w.head.cookie,.J w.head.version] from (by rw [<-St.head_pages];rfl)];refine .z (.fd T.fd97_1 T.ag3)<|.z .gtr<|.z .pkt<|.z .mvB<|.sd (fun G24=>?_) (fun G24=>?_)
   ·
    refine .z .mvI<|.z .lss<|.z .mvB<|.sd (fun G27=>?_) (fun G27=>?_)
    ·
     refine .y<|.y<|.y<|.y<|.y<|.z .pkt<|.z .pkt<|.nil<|.end<|⟨true,Fh1,⟨rfl,rfl,rfl,trivial⟩,ok,by simp_all<;>omega⟩
    refine .z .mvI<|.z .mvP<|.c' 30 .func (sHead_any (G:=G) (w:=w) (ok).loc0) ?_;rintro _ U2 ⟨Fh2,rfl,q⟩;have ok:=(ok).lift1 q;rw [show w.head.val=.agg #[.J w.head.size,.J (w.pgs.length:Int),.J w.head.free,.J w.head.many,.J w.head.cookie,.J w.head.version] from (by rw [<-St.head_pages];rfl)];refine .z (.fd T.fd97_1 T.ag3)<|.z .gtr<|.z .pkf<|.z .pkt<|.nil<|.end<|⟨(decide ((w.pgs.length:Int)<no)),Fh2,⟨rfl,rfl,rfl,trivial⟩,ok,by simp_all<;>omega⟩
   refine .y<|.y<|.y<|.y<|.y<|.y<|.y<|.y<|.y<|.z .pkf<|.nil<|.end<|⟨false,Fh1,⟨rfl,rfl,rfl,trivial⟩,ok,by simp_all<;>omega⟩
  refine .y<|.y<|.y<|.y<|.z .pkf<|.z .mvB<|.y<|.y<|.y<|.y<|.y<|.y<|.y<|.y<|.y<|.z .pkf<|.nil<|.end<|⟨false,F,⟨rfl,rfl,rfl,trivial⟩,ok,by simp_all<;>omega⟩
 rintro s U3 ⟨jb,Fj,hs,ok,hjb⟩;refine .frame hs fun τ=>?_;refine .cond (fun C0=>?_) (fun C0=>?_)
 ·
  have hgc:=hjb.1 C0;refine .s<|.z .asI<|.nil<|.ret ⟨.J 1,Res.one rfl rfl,⟨_,by rw [giveF_1 hgc.1 hgc.2.1 hgc.2.2]<;>rfl,by rw [giveF_1 hgc.1 hgc.2.1 hgc.2.2];exact (ok)⟩⟩
 have hna:¬(w.in_=true/\0<w.pgs.length/\(no<2\/(w.pgs.length:Int)<no)):=fun h=>by rw [hjb.2 h] at C0;cases C0
 refine .skip<|.s<|.z .mvP<|.c' 37 .func (fopen_any (G:=G) (w:=w) (ok).loc0) ?_;rintro _ U4 ⟨Fl1,xl1,cl1,rfl,q⟩;have ok:=(ok).lift2 q;refine .z .mvU<|.z .ex<|.z .ex<|.z .asS<|.z .asI<|.nil<|.seq<|.block fun K0 hK0=>.s<|.z .mvI<|.z .neq<|.z .asB<|.nil<|.cd (fun C1=>?_) (fun C1=>?_)
 ·
  refine .s<|.z .mvI<|.z .asI<|.nil<|.ret ⟨.J (((frOp w).2:Nat):Int),Res.one rfl rfl,⟨_,by rw [giveF_e hna (by omega)]<;>rfl,by rw [giveF_e hna (by omega)];exact (ok.n1).k1⟩⟩
 refine .s<|.z .mvS<|.z .mvI<|.k 47 .func (contains_any (v:=no) (a:=xl1) (c:=cl1) (l:=(frOp w).1) (RdL.ofInts (x:=(xl1,((frOp w).1).length,cl1)) (E:=none_) (ok.m0).sl) (by have:=frOp_few hso;omega))<|.z .asB<|.nil<|.cd (fun C2=>?_) (fun C2=>?_)
 ·
  refine .s<|.z .asI<|.nil<|.ret ⟨.J 7,Res.one rfl rfl,⟨_,by rw [giveF_7 hna (by omega) C2]<;>rfl,by rw [giveF_7 hna (by omega) C2];exact (ok.n1).k1⟩⟩
 have hop:(frOp w).2=0:=by omega
 have hni:no∉(frOp w).1:=C2;obtain ⟨hoi,hop2,hoa⟩:=frOp_0 hop;refine .skip<|.end<|hK0 _ _<|.s<|.z .mvP<|.c' 49 .func (sHead_any (G:=G) (w:=w) (ok.n1).loc0) ?_;rintro _ U5 ⟨Fh3,rfl,q⟩;have ok:=(ok.n1).lift1 q;rw [show w.head.val=.agg #[.J w.head.size,.J (w.pgs.length:Int),.J w.head.free,.J w.head.many,.J w.head.cookie,.J w.head.version] from (by rw [<-St.head_pages];rfl)];refine .a' 7 (.alA T.zr97 ok) ?_;rintro _ U6 ⟨pb1,rfl,ok,xe⟩;refine .ur' (.stW (vs:=[.J w.head.size,.J (w.pgs.length:Int),.J w.head.free,.J w.head.many,.J w.head.cookie,.J w.head.version]) T.sz97 ok (oneL rfl)) ?_;rintro U7 ⟨ok,cg⟩;refine .nil ?_;refine .seq<|.s<|.z (.fa T.fd97_2)<|.z (.ldx T.ag3 ok.m0)<|.z .neq<|.nil<|.cd (fun C3=>?_) (fun C3=>?_)
 ·
  obtain ⟨hf1,hf2,hf3⟩:=frFree hso hoa C3;have hf3:(rdN (tkA w) 4 4)<=(w.z-8) / 4:=hf3;obtain ⟨k,rfl⟩:∃k:Nat,no=(k:Int):=⟨no.toNat,by have:=gvRange hna hoi hop2;omega⟩;have hkr:=gvRange hna hoi hop2;refine .s<|.z .mvP<|.z (.fa T.fd97_2)<|.z (.ldx T.ag3 ok.m0)<|.c' 57 .func (sReadOk_any (G:=G) (w:=w) (no:=w.head.free) (b:=(tkA w)) (ok.n1).loc0 (by omega) (by omega)) ?_;rintro _ U8 ⟨Fr1,xr1,cr1,rfl,hlr1,q⟩;have ok:=(ok.n1).lift2 q;refine .z .mvU<|.z .ex<|.z .ex<|.z .asS<|.z .asI<|.nil<|.seq<|.s<|.z .mvI<|.z .neq<|.nil<|.cf<|.skip<|.s<|.z .mvS<|.k 64 .func (fnum_any (p:=4) (a:=xr1) (c:=cr1) (l:=(tkA w)) (RdL.ofCapB (v:=(xr1,(tkA w).length,cr1)) (l:=(tkA w)) ok.m0) (by omega))<|.z .asI<|.nil<|.s<|.z .mvI<|.z .mvP<|.k 67 .func (froom_any (G:=G) (F:=Fr1) (w:=w) ok.m1)<|.z .lss<|.nil<|.cd (fun C5=>?_) (fun C5=>?_)
  ·
   refine .s<|.z .mvS<|.z .mvI<|.z (.mulI (a:=4))<|.z (.addI (a:=8))<|?_;rw [show (((8+(4*(rdN (tkA w) 4 4)):Nat):Int):Int)=((8+4*(rdN (tkA w) 4 4):Nat):Int) from by omega];refine .z .mvI<|.c' 74 .func (fput_any (p:=8+4*(rdN (tkA w) 4 4)) (n:=k) (l:=(tkA w)) (ok).loc0 (by first | omega | (rw [put4_len (by omega)];omega) | (rw [zer_len];omega)) (by omega) (by first | omega | (rw [put4_len (by omega)];omega) | (rw [zer_len];omega))) ?_;rintro _ U9 ⟨rfl,q⟩;have ok:=(ok).lift1 q;refine .nil ?_;refine .s<|.z .mvS<|.z .mvI<|.z (.addI (b:=1))<|?_;rw [show ((((rdN (tkA w) 4 4)+1:Nat):Int):Int)=(((rdN (tkA w) 4 4)+1:Nat):Int) from by omega];refine .c' 78 .func (fput_any (p:=4) (n:=(rdN (tkA w) 4 4)+1) (l:=(put4 (tkA w) (8+4*(rdN (tkA w) 4 4)) k)) (ok).loc0 (by first | omega | (rw [put4_len (by omega)];omega) | (rw [zer_len];omega)) (by omega) (by first | omega | (rw [put4_len (by omega)];omega) | (rw [zer_len];omega))) ?_;rintro _ U10 ⟨rfl,q⟩;have ok:=(ok).lift1 q;refine .nil ?_;refine .seq<|.s<|.z .mvP<|.z (.fa T.fd97_2)<|.z (.ldx T.ag3 ok.m2)<|.z .mvS<|.c' 83 .func (sWriteC_any (G:=G) (w:=w) (no:=w.head.free) (l:=(put4 (put4 (tkA w) (8+4*(rdN (tkA w) 4 4)) k) 4 ((rdN (tkA w) 4 4)+1))) (ok.n1) (by first | (rw [put4_len (by rw [put4_len (by omega)];omega),put4_len (by omega)];omega) | (rw [put4_len (by rw [zer_len];omega),zer_len];omega))) ?_;rintro _ U11 ⟨Fk1,rfl,q⟩;have ok:=(ok.n1).lift1 q;have hrl83:(w.write w.head.free (put4 (put4 (tkA w) (8+4*(rdN (tkA w) 4 4)) k) 4 ((rdN (tkA w) 4 4)+1)))=gvA w (k:Int):=by unfold gvA;rw [Int.toNat_natCast];rfl
   rw [hrl83] at ok⊢;refine .z .asI<|.nil<|.s<|.z .mvI<|.z .neq<|.nil<|.cd (fun C6=>?_) (fun C6=>?_)
   ·
    refine .s<|.z .mvI<|.z .asI<|.nil<|.ret ⟨.J ((gvA w (k:Int)).2:Int),Res.one rfl rfl,⟨_,by rw [giveF_a hna hop hni C3 (show (rdN (tkA w) 4 4)<_ by omega),thenH_e (by omega)]<;>rfl,by rw [giveF_a hna hop hni C3 (show (rdN (tkA w) 4 4)<_ by omega),thenH_e (by omega)];exact (ok).k1⟩⟩
   refine .skip<|.s<|.z .mvP<|.z (.fa T.fd97_2)<|.z (.ldx T.ag3 ok.m2)<|.z (.fa T.fd97_3)<|.z (.ldx T.ag3 ok.m2)<|.z .add<|.c' 93 .func (fheaded_any (G:=G) (w:=(gvA w (k:Int)).1) (f:=w.head.free) (m:=(w.head.many+1)) (ok).loc0 (by omega) (by omega)) ?_;rintro _ U12 ⟨Fz1,rfl,q⟩;have ok:=(ok).lift1 q;refine .z .asI<|.nil<|.ret ⟨.J (((hdd ((gvA w (k:Int)).1) w.head.free (w.head.many+1)).2:Nat):Int),Res.one rfl rfl,⟨_,by rw [giveF_a hna hop hni C3 (show (rdN (tkA w) 4 4)<_ by omega),thenH_0 (by omega)]<;>rfl,by rw [giveF_a hna hop hni C3 (show (rdN (tkA w) 4 4)<_ by omega),thenH_0 (by omega)];exact (ok).k1⟩⟩
  refine .skip<|.s<|.z .mvP<|.k 95 .func (sSize_any (G:=G) (F:=Fr1) (w:=w) ok.m1)<|.a' 96 (.mks w.z w.z T.el35 T.sz5 T.by5 T.zr5 ok) ?_;rintro _ U13 ⟨pb2,rfl,ok,xe⟩;have ok:=ok.cx (ys:=(List.replicate w.z (0:UInt8)).map bv) (zeros8 _);refine .z .asS<|.nil<|.s<|.z .mvS<|.z (.fa T.fd97_2)<|.z (.ldx T.ag3 ok.m3)<|?_;rw [show (w.head.free:Int)=((w.head.free.toNat:Nat):Int) from by omega];refine .c' 100 .func (fput_any (p:=0) (n:=w.head.free.toNat) (l:=(zer w.z)) (ok).loc0 (by first | omega | (rw [put4_len (by omega)];omega) | (rw [zer_len];omega)) (by omega) (by first | omega | (rw [put4_len (by omega)];omega) | (rw [zer_len];omega))) ?_;rintro _ U14 ⟨rfl,q⟩;have ok:=(ok).lift1 q;refine .nil ?_;refine .seq<|.s<|.z .mvP<|.z .mvI<|.z .mvS<|.c' 104 .func (sWriteC_any (G:=G) (w:=w) (no:=(k:Int)) (l:=(put4 (zer w.z) 0 w.head.free.toNat)) (ok.n2) (by first | (rw [put4_len (by rw [put4_len (by omega)];omega),put4_len (by omega)];omega) | (rw [put4_len (by rw [zer_len];omega),zer_len];omega))) ?_;rintro _ U15 ⟨Fk2,rfl,q⟩;have ok:=(ok.n2).lift1 q;have hrl104:(w.write (k:Int) (put4 (zer w.z) 0 w.head.free.toNat))=gvB w (k:Int):=by unfold gvB;rfl
  rw [hrl104] at ok⊢;refine .z .asI<|.nil<|.s<|.z .mvI<|.z .neq<|.nil<|.cd (fun C7=>?_) (fun C7=>?_)
  ·
   refine .s<|.z .mvI<|.z .asI<|.nil<|.ret ⟨.J ((gvB w (k:Int)).2:Int),Res.one rfl rfl,⟨_,by rw [giveF_b hna hop hni (fun h=>by first | exact C3 h.1 | (have h2:(rdN (tkA w) 4 4)<(w.z-8) / 4:=h.2;omega)),thenH_e (by omega)]<;>rfl,by rw [giveF_b hna hop hni (fun h=>by first | exact C3 h.1 | (have h2:(rdN (tkA w) 4 4)<(w.z-8) / 4:=h.2;omega)),thenH_e (by omega)];exact (ok).k1⟩⟩
  refine .skip<|.s<|.z .mvP<|.z .mvI<|.z (.fa T.fd97_3)<|.z (.ldx T.ag3 ok.m3)<|.z .add<|.c' 113 .func (fheaded_any (G:=G) (w:=(gvB w (k:Int)).1) (f:=(k:Int)) (m:=(w.head.many+1)) (ok).loc0 (by omega) (by omega)) ?_;rintro _ U16 ⟨Fz2,rfl,q⟩;have ok:=(ok).lift1 q;refine .z .asI<|.nil<|.ret ⟨.J (((hdd ((gvB w (k:Int)).1) (k:Int) (w.head.many+1)).2:Nat):Int),Res.one rfl rfl,⟨_,by rw [giveF_b hna hop hni (fun h=>by first | exact C3 h.1 | (have h2:(rdN (tkA w) 4 4)<(w.z-8) / 4:=h.2;omega)),thenH_0 (by omega)]<;>rfl,by rw [giveF_b hna hop hni (fun h=>by first | exact C3 h.1 | (have h2:(rdN (tkA w) 4 4)<(w.z-8) / 4:=h.2;omega)),thenH_0 (by omega)];exact (ok).k1⟩⟩
 obtain ⟨k,rfl⟩:∃k:Nat,no=(k:Int):=⟨no.toNat,by have:=gvRange hna hoi hop2;omega⟩;have hkr:=gvRange hna hoi hop2;refine .skip<|.s<|.z .mvP<|.k 95 .func (sSize_any (G:=G) (F:=Fh3) (w:=w) ok.m1)<|.a' 96 (.mks w.z w.z T.el35 T.sz5 T.by5 T.zr5 ok) ?_;rintro _ U17 ⟨pb3,rfl,ok,xe⟩;have ok:=ok.cx (ys:=(List.replicate w.z (0:UInt8)).map bv) (zeros8 _);refine .z .asS<|.nil<|.s<|.z .mvS<|.z (.fa T.fd97_2)<|.z (.ldx T.ag3 ok.m1)<|?_;rw [show (w.head.free:Int)=((w.head.free.toNat:Nat):Int) from by omega];refine .c' 100 .func (fput_any (p:=0) (n:=w.head.free.toNat) (l:=(zer w.z)) (ok).loc0 (by first | omega | (rw [put4_len (by omega)];omega) | (rw [zer_len];omega)) (by omega) (by first | omega | (rw [put4_len (by omega)];omega) | (rw [zer_len];omega))) ?_;rintro _ U18 ⟨rfl,q⟩;have ok:=(ok).lift1 q;refine .nil ?_;refine .seq<|.s<|.z .mvP<|.z .mvI<|.z .mvS<|.c' 104 .func (sWriteC_any (G:=G) (w:=w) (no:=(k:Int)) (l:=(put4 (zer w.z) 0 w.head.free.toNat)) (ok.n2) (by first | (rw [put4_len (by rw [put4_len (by omega)];omega),put4_len (by omega)];omega) | (rw [put4_len (by rw [zer_len];omega),zer_len];omega))) ?_;rintro _ U19 ⟨Fk3,rfl,q⟩;have ok:=(ok.n2).lift1 q;have hrl104:(w.write (k:Int) (put4 (zer w.z) 0 w.head.free.toNat))=gvB w (k:Int):=by unfold gvB;rfl
 rw [hrl104] at ok⊢;refine .z .asI<|.nil<|.s<|.z .mvI<|.z .neq<|.nil<|.cd (fun C7=>?_) (fun C7=>?_)
 ·
  refine .s<|.z .mvI<|.z .asI<|.nil<|.ret ⟨.J ((gvB w (k:Int)).2:Int),Res.one rfl rfl,⟨_,by rw [giveF_b hna hop hni (fun h=>by first | exact C3 h.1 | (have h2:(rdN (tkA w) 4 4)<(w.z-8) / 4:=h.2;omega)),thenH_e (by omega)]<;>rfl,by rw [giveF_b hna hop hni (fun h=>by first | exact C3 h.1 | (have h2:(rdN (tkA w) 4 4)<(w.z-8) / 4:=h.2;omega)),thenH_e (by omega)];exact (ok).k1⟩⟩
 refine .skip<|.s<|.z .mvP<|.z .mvI<|.z (.fa T.fd97_3)<|.z (.ldx T.ag3 ok.m2)<|.z .add<|.c' 113 .func (fheaded_any (G:=G) (w:=(gvB w (k:Int)).1) (f:=(k:Int)) (m:=(w.head.many+1)) (ok).loc0 (by omega) (by omega)) ?_;rintro _ U20 ⟨Fz3,rfl,q⟩;have ok:=(ok).lift1 q;refine .z .asI<|.nil<|.ret ⟨.J (((hdd ((gvB w (k:Int)).1) (k:Int) (w.head.many+1)).2:Nat):Int),Res.one rfl rfl,⟨_,by rw [giveF_b hna hop hni (fun h=>by first | exact C3 h.1 | (have h2:(rdN (tkA w) 4 4)<(w.z-8) / 4:=h.2;omega)),thenH_0 (by omega)]<;>rfl,by rw [giveF_b hna hop hni (fun h=>by first | exact C3 h.1 | (have h2:(rdN (tkA w) 4 4)<(w.z-8) / 4:=h.2;omega)),thenH_0 (by omega)];exact (ok).k1⟩⟩
end
open Go Go.HL
section
variable {w:St} {n first a:Int} {h:Heap} {l:List Int} {i:Nat}
theorem spGet_any {G:Pgr} {so:Nat} {F:Nat->Prop} (ok:Hp h F [dsI G so F w] [] h) (hf:i64N first) (hn:i64N n) :
  Hc 110 #[.P so,.J first,.J n] h (fun v h'=>∃F' x c,v=.tuple #[.slice x (chF w first n).2.1.length c,.J (chF w first n).2.2]/\Hp h F [capI 1 5 (x,(chF w first n).2.1.length,c) ((chF w first n).2.1.map bv),dsI G so F' w] [] h'):=by
 refine HC.go Tryz.func110 21 ?_;refine .s<|.z .asS<|.z .asI<|.nil<|.s<|.z .mvP<|.z .mvI<|.z .mvI<|.c' 15 .func (chain_any (G:=G) (w:=w) (first:=first) (n:=n) (Hp.lc1 ok) hf hn) ?_;rintro _ U1 ⟨Fch1,pach1,pcch1,oach1,occh1,rfl,q⟩;have ok:=Hp.lf1 ok q;refine .z .mvU<|.z .ex<|.z .ex<|.z .ex<|.z .asS<|.z .asS<|.z .asI<|.nil<|.s<|.z .mvS<|.z .mvI<|.z .asS<|.z .asI<|.nil<|.ret ⟨.tuple #[.slice oach1 ((chF w first n).2.1.length) occh1,.J ((chF w first n).2.2)],Res.two rfl rfl rfl,⟨Fch1,oach1,occh1,rfl,(ok.n2).k2⟩⟩
def localN (total size:Int):Int:=if 0<=total/\(size=256\/size=512\/size=1024\/size=2048\/size=4096) then min total (size / 4-36) else 0
theorem localN_n {t z:Int} (h:¬(0<=t/\(z=256\/z=512\/z=1024\/z=2048\/z=4096))):localN t z=0:=if_neg h
theorem localN_y {t z:Int} (h:0<=t/\(z=256\/z=512\/z=1024\/z=2048\/z=4096)):localN t z=min t (z / 4-36):=if_pos h
def giveL:St->List Int->St × Nat
 | w,[]=>(w,0)
 | w,no::l=>if (giveF w no).2≠0 then giveF w no else giveL (giveF w no).1 l
def dropF (w:St) (first n:Int):St × Int:=if w.in_=false then (w,10) else if (chF w first n).2.2≠0 then (w,(chF w first n).2.2) else ((giveL w (chF w first n).1).1,((giveL w (chF w first n).1).2:Int))
theorem spLocal_any {total size:Int} (ht:i64N total) (hz:i64N size) :
  Hc 103 #[.J total,.J size] h (fun v h'=>v=.J (localN total size)/\h'=h):=by
 have ht1:=ht.1;have hz1:=hz.1;refine HC.go Tryz.func103 27 ?_;refine .s<|.z .asI<|.nil<|.seq<|.s<|.z .mvI<|.z .lss<|.z .mvB<|.sd (fun G7=>?_) (fun G7=>?_)
 ·
  refine .y<|.y<|.z .pkt<|.z .mvB<|.y<|.y<|.z .pkt<|.z .mvB<|.y<|.y<|.y<|.y<|.y<|.z .pkt<|.nil<|.ct<|.s<|.z .asI<|.nil<|.ret ⟨.J 0,Res.one rfl rfl,⟨by rw [localN_n (by omega)],rfl⟩⟩
 refine .z .mvI<|.z .lss<|.z .pkf<|.z .mvB<|.sd (fun G11=>?_) (fun G11=>?_)
 ·
  refine .y<|.y<|.z .pkt<|.z .mvB<|.y<|.y<|.y<|.y<|.y<|.z .pkt<|.nil<|.ct<|.s<|.z .asI<|.nil<|.ret ⟨.J 0,Res.one rfl rfl,⟨by rw [localN_n (by omega)],rfl⟩⟩
 refine .z .mvI<|.z .gtr<|.z .pkf<|.z .mvB<|.sd (fun G15=>?_) (fun G15=>?_)
 ·
  refine .y<|.y<|.y<|.y<|.y<|.z .pkt<|.nil<|.ct<|.s<|.z .asI<|.nil<|.ret ⟨.J 0,Res.one rfl rfl,⟨by rw [localN_n (by omega)],rfl⟩⟩
 obtain ⟨k,rfl⟩:∃k:Nat,size=(k:Int):=⟨size.toNat,by omega⟩;have hpw:=and_pow k (by omega) (by omega);refine .z .mvI<|.z .mvI<|.z .sub<|.z (.bandI k (k-1))<|.z .neq<|.z .pkf<|.nil<|.cd (fun C0=>?_) (fun C0=>?_)
 ·
  refine .s<|.z .asI<|.nil<|.ret ⟨.J 0,Res.one rfl rfl,⟨by rw [localN_n (by omega)],rfl⟩⟩
 refine .skip<|.s<|.z .mvI<|.z .mvI<|.z .quo<|.z .sub<|.z .min2<|.z .asI<|.nil<|.ret ⟨.J (min total (((k:Int) / 4)-36)),Res.one rfl rfl,⟨by rw [localN_y (by omega)],rfl⟩⟩
theorem lk_rg {w:St} {n:Nat} {lv:ChG->Bool} (hN:w.pgs.length<=65536):∀(f:Nat) (no:Int) (mt:List Int) (g:ChG),(∀k∈g.1,i64N k)->∀k∈(lkGo w (chGo n) lv f no mt g).1.1,i64N k
 | 0,_,_,g,h=>h
 | f+1,no,mt,g,h=>by
  by_cases h0:no=0
  ·rw [lk_00 h0];exact h
  by_cases h1:no<2\/(w.pgs.length:Int)<no\/no∈mt
  ·rw [lk_bad h0 h1];exact h
  have hg:∀k∈(chGo n g no (w.pgs.getD (no-1).toNat [])).1,i64N k:=by
   intro k hk;unfold chGo at hk;split at hk
   ·exact h k hk
   ·rcases qD.1 hk with hk | hk
    ·exact h k hk
    ·rw [qS.1 hk];unfold i64N;omega
  cases h2:lv (chGo n g no (w.pgs.getD (no-1).toNat [])) with
  | false=>rw [lk_stop h0 h1 h2];exact hg
  | true=>rw [lk_go h0 h1 h2];exact lk_rg hN f _ _ _ hg
theorem chF_rg (hN:w.pgs.length<=65536):∀k∈(chF w first n).1,i64N k:=by
 intro k hk;unfold chF at hk;split at hk
 ·cases hk
 split at hk
 ·cases hk
 split at hk
 ·cases hk
 split at hk
 ·cases hk
 ·exact lk_rg hN _ _ _ _ (by simp) k hk
theorem giveL_0 (h:l.length<=i):giveL w (l.drop i)=(w,0):=by rw [qN h];rfl
theorem giveL_e (h:i<l.length) (h2:(giveF w l[i]).2≠0):giveL w (l.drop i)=giveF w l[i]:=by rw [qF h];exact if_pos h2
theorem giveL_s (h:i<l.length) (h2:¬(giveF w l[i]).2≠0):giveL w (l.drop i)=giveL (giveF w l[i]).1 (l.drop (i+1)):=by rw [qF h];exact if_neg h2
theorem dropF_10 (h:w.in_=false):dropF w a n=(w,10):=if_pos h
theorem dropF_e (h:w.in_=true) (h2:(chF w a n).2.2≠0):dropF w a n=(w,(chF w a n).2.2):=by unfold dropF;rw [if_neg (by rw [h];decide),if_pos h2]
theorem dropF_l (h:w.in_=true) (h2:(chF w a n).2.2=0):dropF w a n=((giveL w (chF w a n).1).1,((giveL w (chF w a n).1).2:Int)):=by unfold dropF;rw [if_neg (by rw [h];decide),if_neg (by rw [h2];decide)]
theorem spDrop_any {G:Pgr} {so:Nat} {F:Nat->Prop} (ok:Hp h F [dsI G so F w] [] h) (hf:i64N first) (hn:i64N n) :
  Hc 102 #[.P so,.J first,.J n] h (fun v h'=>∃F',v=.J (dropF w first n).2/\Hp h F [dsI G so F' (dropF w first n).1] [] h'):=by
 have hso:=ds_ok ok.m0;have hfew:=St.few hso;have hrg:=chF_rg (w:=w) (first:=first) (n:=n) hfew;refine HC.go Tryz.func102 44 ?_;refine .s<|.z .asI<|.nil<|.seq<|.s<|.z .mvP<|.z (.pNeS T.pt24)<|.z .mvB<|.z .mvP<|.k 17 .func (sIn_any (G:=G) (F:=F) (w:=w) ok.m0)<|.z .not<|.z .pkt<|.nil<|.cond (fun C0=>?_) (fun C0=>?_)
 ·
  refine .s<|.z .asI<|.nil<|.ret ⟨.J 10,Res.one rfl rfl,⟨F,by rw [dropF_10 (by simpa using C0)]<;>rfl,by rw [dropF_10 (by simpa using C0)];exact (ok).k1⟩⟩
 have hin:w.in_=true:=by simpa using C0
 refine .skip<|.s<|.z .mvP<|.z .mvI<|.z .mvI<|.c' 24 .func (chain_any (G:=G) (w:=w) (first:=first) (n:=n) (Hp.lc1 ok) hf hn) ?_;rintro _ U1 ⟨Fch1,pach1,pcch1,oach1,occh1,rfl,q⟩;have ok:=Hp.lf1 ok q;refine .z .mvU<|.z .ex<|.z .ex<|.z .ex<|.z .asS<|.z .asS<|.z .asI<|.nil<|.seq<|.s<|.z .mvI<|.z .neq<|.nil<|.cd (fun C1=>?_) (fun C1=>?_)
 ·
  refine .s<|.z .mvI<|.z .asI<|.nil<|.ret ⟨.J ((chF w first n).2.2),Res.one rfl rfl,⟨Fch1,by rw [dropF_e hin C1]<;>rfl,by rw [dropF_e hin C1];exact (ok).k1⟩⟩
 have he0:(chF w first n).2.2=0:=by simpa using C1
 refine .skip<|.seq<|.seq<|?_;have ok:=(ok.n1).frzI (l:=(chF w first n).1) rfl;have hrc:=ok.r0.c;have hrm:=ok.r0.m;simp only at hrc hrm;refine .r<|.z .mvS<|.z (.len T.el93)<|.z .mvI<|.nil<|.block fun K0 hK0=>.loop (fun m s hh=>∃(i:Nat) (wi:St) (Fo:Nat->Prop),Has s [(0,.P so),(31,.slice pach1 ((chF w first n).1.length) pcch1),(32,.J (((chF w first n).1.length:Nat):Int)),(33,.J (i:Int))]/\Hp h F [dsI G so Fo wi] [rdI (blkC (sv (pach1,(chF w first n).1.length,pcch1))) none_ (pach1,(chF w first n).1.length,pcch1) ((chF w first n).1)] hh/\i<=(chF w first n).1.length/\giveL wi ((chF w first n).1.drop i)=giveL w (chF w first n).1/\m=(chF w first n).1.length-i) ?_ ?_
 ·exact ⟨_,0,w,Fch1,⟨rfl,rfl,rfl,rfl,trivial⟩,(ok).k1,qL _,rfl,rfl⟩
 rintro _ _ U2 ⟨i,wi,Fo,hs,ok,hi,hgl,rfl⟩ J0 hJ0;refine .frame hs fun τ=>?_;refine .s<|.z .lss<|.nil<|.seq<|.cdr (fun C2=>?_) (fun C2=>?_)
 ·
  refine .exit<|hK0 _ _<|.s<|.z .asI<|.nil<|.ret ⟨.J 0,Res.one rfl rfl,⟨Fo,by rw [dropF_l hin he0,<-hgl,giveL_0 (by omega)]<;>rfl,by rw [dropF_l hin he0,<-hgl,giveL_0 (by omega)];exact (ok).k1.tR⟩⟩
 have hil:i<(chF w first n).1.length:=by omega
 refine .skip<|.seq<|.block fun K1 hK1=>.s<|?_;obtain ⟨bb1,oo1,rfl,fb1⟩:=ok.r0.pos (by omega);refine .z (.ix1 i T.el93 T.sz3 (hi:=by omega))<|.z (.ld T.ag3 (ok.r0.i64 (i:=i) (by omega)))<|.z .asI<|.nil<|.s<|.z .mvP<|.z .mvI<|.c' 39 .func (fgive_any (G:=G) (w:=wi) (no:=((chF w first n).1)[i]) (ok).loc0 (by exact hrg _ (qP hil))) ?_;rintro _ U3 ⟨Fv1,rfl,q⟩;have ok:=(ok).lift1 q;refine .z .asI<|.nil<|.s<|.z .mvI<|.z .neq<|.nil<|.cd (fun C3=>?_) (fun C3=>?_)
 ·
  refine .s<|.z .mvI<|.z .asI<|.nil<|.ret ⟨.J (((giveF wi (((chF w first n).1)[i])).2:Nat):Int),Res.one rfl rfl,⟨Fv1,by rw [dropF_l hin he0,<-hgl,giveL_e hil (by omega)]<;>rfl,by rw [dropF_l hin he0,<-hgl,giveL_e hil (by omega)];exact (ok).k1.tR⟩⟩
 refine .skip<|.end<|hK1 _ _<|.r<|.z (.addI (b:=1))<|.z .mvI<|.nil<|.end<|hJ0 _ _ _ ⟨i+1,((giveF wi (((chF w first n).1)[i])).1),Fv1,⟨rfl,rfl,rfl,rfl,trivial⟩,(ok).k1,by omega,by rw [<-giveL_s hil (by omega)];exact hgl,rfl⟩ (by omega)
end
open Go Go.HL
abbrev SB:=Option Addr × Nat × List UInt8
structure RwB {α:Type} (k:Nat) (f:α->List Value) (g:α->SB) (h:Heap) (E:Nat->Prop) (x:SV) (l:List α):Prop where
 sl:Sl h k (sv x) (l.flatMap f)
 n:x.2.1=l.length
 bl:∀j,blk (sv x) j->E j
 by':∀y∈l,RdL h E E ((g y).1,(g y).2.2.length,(g y).2.1) (g y).2.2
section
variable {α:Type} {k:Nat} {f:α->List Value} {g:α->SB} {h h':Heap} {E E' G:Nat->Prop} {x:SV} {l:List α}
theorem RwB.st (c:Chg G h h') (d:∀j,E j->¬G j) (r:RwB k f g h E x l):RwB k f g h' E x l:=⟨Sl.chg c r.sl fun j hj=>d j (r.bl j hj),r.n,r.bl,fun y hy=>(r.by' y hy).st c d d⟩
@[reducible] def rwI (k:Nat) (f:α->List Value) (g:α->SB) (E:Nat->Prop) (x:SV) (l:List α):Itm:=⟨fun h=>RwB k f g h E x l,E,fun _ _ _ c d r=>r.st c d⟩
theorem RwB.pos {a:Option Addr} {n c:Nat} (r:RwB k f g h E (a,n,c) l) (hk:0<n):∃b o,a=some ⟨b,o,none⟩/\E b:=by
 obtain ⟨a',n',c',e,_,_,h3⟩:=r.sl;injection e with e1 e2 e3;subst e1 e2 e3;obtain ⟨b,o,e,_⟩:=h3.2 hk;subst e;exact ⟨b,o,rfl,r.bl b ⟨o,n,c,rfl,hk⟩⟩
theorem RwB.ofCap {e:TypeId} (hk:0<k) (hf:∀y,(f y).length=k) (c:Cap h k e (sv x) (l.flatMap f)) (hb:∀j,blkC (sv x) j->E j) (h2:∀y∈l,RdL h E E ((g y).1,(g y).2.2.length,(g y).2.1) (g y).2.2):RwB k f g h E x l:=by
 obtain ⟨a,n,c'⟩:=x;have hs:=c.sl;refine ⟨hs,?_,fun j ⟨o,n,c,e,_⟩=>hb j ⟨o,n,c,e⟩,h2⟩;have h1:=hs.cells.1;have h3:(l.flatMap f).length=l.length*k:=by
  clear hs h1 c h2;induction l with
  | nil=>simp
  | cons y l ih=>rw [List.flatMap_cons,qA,hf,ih,qV,kV];omega
 rw [h3] at h1;exact (kU hk h1).symm
end
theorem sl_at1 {α:Type} {f:α->List Value} (hf:∀y,(f y).length=1) {h:Heap} {b o n c:Nat} {l:List α} (r:Sl h 1 (.slice (some ⟨b,o,none⟩) n c) (l.flatMap f)) {i:Nat} (hi:i<l.length) {v:Value} (hv:(f l[i])[0]? = some v):cell h b (o+i)=some v:=by
 have:=sl_at hf r hi (j:=0) hv;simpa using this
def RB.cells (x:RB):List Value:=[.slice x.a x.l.length x.c]
def RB.sb (x:RB):SB:=(x.a,x.c,x.l)
theorem RB.cells_len (x:RB):x.cells.length=1:=rfl
abbrev PgB (h:Heap) (E:Nat->Prop) (x:SV) (l:List RB):Prop:=RwB 1 RB.cells RB.sb h E x l
@[reducible] def pgwI (E:Nat->Prop) (x:SV) (l:List RB):Itm:=rwI 1 RB.cells RB.sb E x l
def pgs (l:List RB):List (List UInt8):=l.map RB.l
theorem pgs_len {l:List RB} : (pgs l).length=l.length:=qM _
def Pby (h:Heap) (E:Nat->Prop) (l:List RB):Prop:=∀y∈l,RdL h E E (y.a,y.l.length,y.c) y.l
theorem PgB.of {h:Heap} {E E':Nat->Prop} {e:TypeId} {x:SV} {l:List RB} (c:Cap h 1 e (sv x) (l.flatMap RB.cells)) (b:Pby h E' l) (hc:∀j,blkC (sv x) j->E j) (hE:∀j,E' j->E j):PgB h E x l:=RwB.ofCap (by decide) RB.cells_len c hc fun y hy=>(b y hy).mono hE hE
open Go Go.HL
section
variable {a:Option Addr} {l:List UInt8} {n c b1 b2:Nat} {h:Heap} {D:Nat->Prop}
def ckP (a:Option Addr) (l:List UInt8) (n i:Nat):RB:=⟨cutA a i (i+min n (l.length-i)) 1,((l.drop i).take (min n (l.length-i))).length,(l.drop i).take (min n (l.length-i))⟩
def ckL (a:Option Addr) (l:List UInt8) (n:Nat):Nat->Nat->List RB
 | 0,_=>[]
 | f+1,i=>if i<l.length then ckP a l n i::ckL a l n f (i+n) else []
theorem ck_end {a:Option Addr} {l:List UInt8} {n f i:Nat} (h:¬i<l.length):ckL a l n f i=[]:=by
 cases f with
 | zero=>rfl
 | succ f=>exact if_neg h
theorem ck_step {f i:Nat} (h:i<l.length):ckL a l n (f+1) i=ckP a l n i::ckL a l n f (i+n):=if_pos h
theorem ckP_len {i:Nat} : (ckP a l n i).l.length=min n (l.length-i):=by unfold ckP;rw [qJ,qH];omega
theorem chunk_any (hn:1<=n) :
  Hc 152 #[.slice a l.length c,.J (n:Int)] h (fun v h'=>∃b1 b2,v=.func (.func 198) #[] #[.P b1,.P b2]/\Hp h none_ [boxI b1 35 [.slice a l.length c],boxI b2 3 [.J (n:Int)]] [] h'):=by
 have ok:=Hp.nil h none_;refine HC.go Tryz.func152 9 ?_;refine .s<|.a' 2 (.bxS ok) ?_;rintro _ U1 ⟨pb1,rfl,ok,xe⟩;refine .a' 3 (.bxI ok) ?_;rintro _ U2 ⟨pb2,rfl,ok,xe⟩;refine .z .asN<|.nil<|.seq<|.s<|.z (.ldx T.ag3 ok.m0)<|.z .lss<|.nil<|.cd (fun C0=>?_) (fun C0=>?_)
 ·
  omega
 refine .skip<|.s<|.z (.mkf (vs:=[.P pb1,.P pb2]))<|.z .asF<|.nil<|.ret ⟨.func (.func 198) #[] #[.P pb1,.P pb2],Res.one rfl rfl,⟨pb1,pb2,rfl,ok.n1⟩⟩
theorem chunk1_any {β:Type} {ab:β->List RB} {Y:β->Itm} {y0:β} {l0 k0:Nat} 
  (hY:∀(y:β) (x:RB) (hh:Heap),(ab y).length<=k0+1000000->Hp hh (Y y).F [Y y] [] hh->HY Tryz.prog l0 #[.slice x.a x.l.length x.c] hh (fun v h'=>∃y',v=.bool true/\ab y'=ab y++[x]/\Hp hh (Y y).F [Y y'] [] h'))
  (hn:1<=n/\n<=1000000) (hl:l.length<=1000000) (hcap:l.length<=c/\c<=9223372036854775807) (hk:(ab y0).length=k0) (ok:Hp h D [boxI b1 35 [.slice a l.length c],boxI b2 3 [.J (n:Int)],Y y0] [] h) :
  Hc 198 #[.func (.yield l0) #[] #[],.P b1,.P b2] h (fun v h'=>∃y',ab y'=ab y0++ckL a l n (l.length+1) 0/\Hp h D [boxI b1 35 [.slice a l.length c],boxI b2 3 [.J (n:Int)],Y y'] [] h'):=by
 refine HC.go Tryz.func198 31 ?_;refine .s<|.z .asI<|.nil<|.block fun K0 hK0=>.loop (fun m s hh=>∃(i f:Nat) (y:β),Has s [(0,.func (.yield l0) #[] #[]),(1,.P b1),(2,.P b2),(4,.J (i:Int))]/\Hp h D [boxI b1 35 [.slice a l.length c],boxI b2 3 [.J (n:Int)],Y y] [] hh/\ab y++ckL a l n f i=ab y0++ckL a l n (l.length+1) 0/\l.length<i+f/\(ab y).length<=k0+i/\i<=3000000/\m=l.length+1-i) ?_ ?_
 ·exact ⟨_,0,l.length+1,y0,⟨rfl,rfl,rfl,rfl,trivial⟩,(ok).k3,rfl,by omega,by omega,by omega,rfl⟩
 rintro _ _ U1 ⟨i,f,y,hs,ok,hab0,hlf,hln,hib,rfl⟩ J0 hJ0;refine .frame hs fun τ=>?_;refine .seq<|.s<|.z .mvI<|.z (.ldx T.ag35 ok.m0)<|.z (.len T.el35)<|.z .lss<|.nil<|.cdr (fun C0=>?_) (fun C0=>?_)
 ·
  refine .exit<|hK0 _ _<|.end<|⟨.tuple #[],Res.none rfl,⟨y,by rw [<-hab0,ck_end (by omega),kX],(ok).k3⟩⟩
 have hil:i<l.length:=by omega
 obtain ⟨f,rfl⟩:∃g,f=g+1:=⟨f-1,by omega⟩;refine .skip<|.seq<|.block fun K1 hK1=>.seq<|.q (hm:=mixed)<|.z (.ldx T.ag3 ok.m1)<|.z (.ldx T.ag35 ok.m0)<|.z .mvI<|.z (.sll i T.el35 T.sz5)<|.z (.len T.el35)<|.z .min2<|?_;obtain ⟨ee,hee⟩:∃x,min n (l.length-i)=x:=⟨_,rfl⟩;rw [show (min (n:Int) ((l.length-i:Nat):Int))=(ee:Int) from by omega];refine .z .asI<|.nil<|.seq<|.ry<|.z .mvF<|.z (.ldx T.ag35 ok.m0)<|.z .mvI<|.z .mvI<|.z .mvI<|.z .addI<|.z .mvI<|.z .mvI<|.z .addI<|.z (.sllhm i (i+ee) (i+ee) T.el35 T.sz5)<|?_;generalize hn1:i+ee-i=cn1;obtain rfl:cn1=((l.drop i).take ee).length:=by rw [<-hn1,qJ,qH];omega
 refine .y 29 (hY y (⟨cutA a i (i+ee) 1,((l.drop i).take ee).length,((l.drop i).take ee)⟩:RB) _ (by omega) (ok.n2).loc0) ?_;rintro _ U2 ⟨y1,rfl,hab,q⟩;have ok:=(ok.n2).lift1 q;refine .z .not<|.nil<|.cf<|.skip<|.end<|hK1 _ _<|?_;have hab2:ab y1++ckL a l n f (i+n)=ab y0++ckL a l n (l.length+1) 0:=by rw [<-hab0,ck_step hil,hab,qZ];unfold ckP;rw [hee];rfl
 refine .r<|.z .mvI<|.z (.ldx T.ag3 ok.m2)<|.z .addI<|.z .asI<|.nil<|.end<|hJ0 _ _ _ ⟨i+n,f,y1,⟨rfl,rfl,rfl,rfl,trivial⟩,(ok.n2.n2).k3,hab2,by omega,by rw [hab,qA];simp;omega,by omega,rfl⟩ (by omega)
structure AB where
 pa:Option Addr
 pc:Nat
 pl:List RB
def abL (b l:Nat) (lc:LpC) (y:AB):List Itm:=[boxI b 79 [.slice y.pa y.pl.length y.pc],capI 1 35 (y.pa,y.pl.length,y.pc) (y.pl.flatMap RB.cells),lpI lc l .ready none]
@[reducible] def abI (b l:Nat) (lc:LpC) (y:AB):Itm:=starI (abL b l lc y)
theorem appseq_any (hn:1<=n/\n<=1000000) (hl:l.length<=1000000) (hcap:l.length<=c/\c<=9223372036854775807) (ok:Hp h D [boxI b1 35 [.slice a l.length c],boxI b2 3 [.J (n:Int)]] [] h) :
  Hc 197 #[.N,.func (.func 198) #[] #[.P b1,.P b2]] h (fun v h'=>∃pa pc,v=.slice pa (ckL a l n (l.length+1) 0).length pc/\Hp h D [capI 1 35 (pa,(ckL a l n (l.length+1) 0).length,pc) ((ckL a l n (l.length+1) 0).flatMap RB.cells),boxI b1 35 [.slice a l.length c],boxI b2 3 [.J (n:Int)]] [] h'):=by
 refine HC.goR Tryz.func197 13 ?_;refine .seq<|.lift<|.r<|.a' 2 (.bxS ok) ?_;rintro _ U1 ⟨pb1,rfl,ok,xe⟩;refine .z .asS<|.nil<|.end<|HSD.on<|.seq<|.seq<|.lift<|.r<|.z .mvF<|.nil<|.end<|HSD.on<|.rg' (lb:=[.P b1,.P b2]) fun lc l1 D1 U2 hlc hxr hsr hl1 hD1 hlp hdf=>?_?_;have ok:=ok.rgNew' hxr hsr hl1 hD1 hlp hdf;have hY:∀(y:AB) (x:RB) (hh:Heap),y.pl.length<=0+1000000->Hp hh (abI pb1 l1 lc y).F [abI pb1 l1 lc y] [] hh->HY Tryz.prog l1 #[.slice x.a x.l.length x.c] hh (fun v h'=>∃y',v=.bool true/\y'.pl=y.pl++[x]/\Hp hh (abI pb1 l1 lc y).F [abI pb1 l1 lc y'] [] h'):=by
  rintro ⟨pa,pc,pl⟩ ⟨xa,xc,xl⟩ hh hpl ok;replace hpl:pl.length<=0+1000000:=hpl;generalize hDF:(abI pb1 l1 lc ⟨pa,pc,pl⟩).F=DF at ok⊢;have ok:Hp hh DF [boxI pb1 79 [.slice pa pl.length pc],capI 1 35 (pa,pl.length,pc) (pl.flatMap RB.cells),lpI lc l1 .ready none] [] hh:=Hp.unstar ok;refine HY.go' (args:=[.slice xa xl.length xc]) hlc ok.m2 ?_;refine .r<|.z .asS<|.nil<|.end<|⟨ok.m2,fun U3 cgl szl lpl=>?_⟩;have ok:=(ok.n2).lp cgl lpl;refine .block fun K1 hK1=>.r<|.z (.ldx T.ag79 ok.m1)<|.z .mvS<|.a' 10 (.lit [.tmp 9] (cs:=[.slice xa xl.length xc]) T.el79 T.sz35 T.zr35 ok ⟨rfl,trivial⟩) ?_;rintro _ U4 ⟨pb2,rfl,ok,xe⟩;refine .a' 11 (.app (news:=[.slice xa xl.length xc]) T.el79 T.sz35 T.by35 T.zr35 ok.n3 (ok.n3.m1).sl (oneL rfl) (by rw [flat_len RB.cells_len];simp only [qV,qB];omega)) ?_;rintro _ U5 ⟨ya1,yn1,yc1,rfl,ok,ap⟩;have ok:=ok.cx (ys:=(pl++[(⟨xa,xc,xl⟩:RB)]).flatMap RB.cells) (by simp [RB.cells]);obtain rfl:yn1=(pl++[(⟨xa,xc,xl⟩:RB)]).length:=(Sl.sz (Cap.sl ok.m0) RB.cells_len (by decide)).1.symm;refine .ur' (.stS T.sz79 ok.n3) ?_;rintro U6 ⟨ok,cg⟩;refine .nil ?_;refine .end<|hK1 _ _<|.end<|⟨ok.m3,fun U7 cgl szl lpl=>?_⟩;have ok:=(ok.n3).lp cgl lpl;exact ⟨⟨ya1,yc1,pl++[(⟨xa,xc,xl⟩:RB)]⟩,rfl,rfl,Hp.star (l:=abL pb1 l1 lc ⟨ya1,yc1,pl++[(⟨xa,xc,xl⟩:RB)]⟩) (M:=[]) (ok.n2.n2).k3⟩
 have ok:=ok.nilC (k:=1) (e:=35);have ok:=Hp.star (l:=abL pb1 l1 lc ⟨none,0,[]⟩) (M:=[dfI D1,boxI b1 35 [.slice a l.length c],boxI b2 3 [.J (n:Int)]]) (ok.n1.n1.n3);have okf:Hp h D ([boxI b1 35 [.slice a l.length c],boxI b2 3 [.J (n:Int)],abI pb1 l1 lc ⟨none,0,[]⟩]++[dfI D1]) [] _:=ok.n3.n3;refine HC.mono (chunk1_any (ab:=AB.pl) (Y:=abI pb1 l1 lc) (y0:=⟨none,0,[]⟩) (k0:=0) (a:=a) (l:=l) (n:=n) hY hn hl hcap rfl (Hp.lc3 okf)) ?_;rintro _ U8 ⟨⟨pa,pc,pl⟩,hab,q⟩;have ok:=Hp.lf3 okf q;have ok:Hp h D [boxI pb1 79 [.slice pa pl.length pc],capI 1 35 (pa,pl.length,pc) (pl.flatMap RB.cells),lpI lc l1 .ready none,boxI b1 35 [.slice a l.length c],boxI b2 3 [.J (n:Int)],dfI D1] [] _:=Hp.unstar (ok.n2);have hpl:pl=ckL a l n (l.length+1) 0:=hab;refine ⟨.ready,none,by decide,ok.m2,fun U9 cgl szl=>?_⟩;have ok:=(ok.n2).lpEnd cgl;show HS none _ _ _ _ _ _;refine .s<|.z (.ldx T.ag79 ok.m0)<|.z .asS<|.nil<|.ret ⟨D1,rfl,ok.m4,fun U10 cgd szd=>?_⟩;have ok:=(ok.n4).df cgd;refine ⟨.slice pa pl.length pc,Res.one rfl rfl,⟨pa,pc,by rw [<-hpl],by rw [<-hpl];exact (ok.n3.n3.n3).k3⟩⟩
theorem collect_any (hn:1<=n/\n<=1000000) (hl:l.length<=1000000) (hcap:l.length<=c/\c<=9223372036854775807) (ok:Hp h D [boxI b1 35 [.slice a l.length c],boxI b2 3 [.J (n:Int)]] [] h) :
  Hc 151 #[.func (.func 198) #[] #[.P b1,.P b2]] h (fun v h'=>∃pa pc,v=.slice pa (ckL a l n (l.length+1) 0).length pc/\Hp h D [capI 1 35 (pa,(ckL a l n (l.length+1) 0).length,pc) ((ckL a l n (l.length+1) 0).flatMap RB.cells),boxI b1 35 [.slice a l.length c],boxI b2 3 [.J (n:Int)]] [] h'):=by
 refine HC.go Tryz.func151 5 ?_;refine .s<|.z .asS<|.nil<|.s<|.z .mvF<|.c' 4 .func (appseq_any hn hl hcap (Hp.lc2 ok)) ?_;rintro _ U1 ⟨pa,pc,rfl,q⟩;have ok:=(Hp.lf2 ok q);refine .z .asS<|.nil<|.ret ⟨.slice pa ((ckL a l n (l.length+1) 0).length) pc,Res.one rfl rfl,⟨pa,pc,rfl,ok⟩⟩
end
open Go Go.HL
def takeA:St->List Int->Nat->St × List Int × Nat
 | w,acc,0=>(w,acc,0)
 | w,acc,k+1=>if (takeF w).2.2≠0 then ((takeF w).1,acc,(takeF w).2.2) else takeA (takeF w).1 (acc++[(takeF w).2.1]) k
def putPg (z:Nat) (pl:List Int) (P:List (List UInt8)) (i:Nat):List UInt8:=fixedN (pl.getD (i+1) 0).toNat 4++(P.getD i []++List.replicate (z-4-(P.getD i []).length) 0)
def wrA (z:Nat) (pl:List Int) (P:List (List UInt8)):Nat->Nat->St->St × Nat
 | 0,_,w=>(w,0)
 | f+1,i,w=>if (w.write (pl.getD i 0) (putPg z pl P i)).2≠0 then w.write (pl.getD i 0) (putPg z pl P i) else wrA z pl P f (i+1) (w.write (pl.getD i 0) (putPg z pl P i)).1
def parts (l:List UInt8) (n:Nat):List (List UInt8):=pgs (ckL none l n (l.length+1) 0)
def putF (w:St) (l:List UInt8):St × Int × Nat:=if w.in_=false then (w,0,10) else if 16384<l.length then (w,0,3) else
 if (takeA w [] (parts l (w.z-4)).length).2.2≠0 then ((takeA w [] (parts l (w.z-4)).length).1,0,(takeA w [] (parts l (w.z-4)).length).2.2) else
 if (wrA w.z (takeA w [] (parts l (w.z-4)).length).2.1 (parts l (w.z-4)) (parts l (w.z-4)).length 0 (takeA w [] (parts l (w.z-4)).length).1).2≠0 then
  ((wrA w.z (takeA w [] (parts l (w.z-4)).length).2.1 (parts l (w.z-4)) (parts l (w.z-4)).length 0 (takeA w [] (parts l (w.z-4)).length).1).1,0,(wrA w.z (takeA w [] (parts l (w.z-4)).length).2.1 (parts l (w.z-4)) (parts l (w.z-4)).length 0 (takeA w [] (parts l (w.z-4)).length).1).2) else
 ((wrA w.z (takeA w [] (parts l (w.z-4)).length).2.1 (parts l (w.z-4)) (parts l (w.z-4)).length 0 (takeA w [] (parts l (w.z-4)).length).1).1,(takeA w [] (parts l (w.z-4)).length).2.1.getD 0 0,0)
theorem ck_pgs {a b:Option Addr} {l:List UInt8} {n:Nat} : ∀(f i:Nat),pgs (ckL a l n f i)=pgs (ckL b l n f i)
 | 0,_=>rfl
 | f+1,i=>by
  by_cases h:i<l.length
  ·rw [ck_step h,ck_step h];show (ckP a l n i).l::pgs (ckL a l n f (i+n))=(ckP b l n i).l::pgs (ckL b l n f (i+n));rw [ck_pgs f (i+n)];rfl
  ·rw [ck_end h,ck_end h]
theorem ck_rd {h:Heap} {F E:Nat->Prop} {a:Option Addr} {c n:Nat} {l:List UInt8} (r:RdL h F E (a,l.length,c) l) (hn:1<=n):∀(f i:Nat),∀x∈ckL a l n f i,RdL h F E (x.a,x.l.length,x.c) x.l
 | 0,_,x,hx=>by cases hx
 | f+1,i,x,hx=>by
  by_cases hi:i<l.length
  ·rw [ck_step hi] at hx;rcases qK.1 hx with rfl | hx
   ·have hlc:l.length<=c:=r.c;have hl:=ckP_len (a:=a) (l:=l) (n:=n) (i:=i);have q:=r.cut (i:=i) (j:=i+min n (l.length-i)) (by omega) (by omega);rw [show i+min n (l.length-i)-i=min n (l.length-i) by omega] at q;have hc:cutA a i c 1=(ckP a l n i).a:=by unfold ckP cutA;rw [if_neg (by omega),if_neg (by omega)]
    obtain ⟨q1,q2,q3,q4⟩:=q;refine ⟨rfl,qR _,by show (ckP a l n i).l.length<=9223372036854775807;have:=r.m;simp only at this;omega,fun hp=>?_⟩;obtain ⟨b,o,e,rest⟩:=q4 hp;exact ⟨b,o,hc.symm.trans e,rest⟩
   ·exact ck_rd r hn f (i+n) x hx
  ·rw [ck_end hi] at hx;cases hx
theorem ck_max {a:Option Addr} {l:List UInt8} {n:Nat} : ∀(f i:Nat),∀x∈ckL a l n f i,x.l.length<=n
 | 0,_,x,hx=>by cases hx
 | f+1,i,x,hx=>by
  by_cases hi:i<l.length
  ·rw [ck_step hi] at hx;rcases qK.1 hx with rfl | hx
   ·rw [ckP_len];omega
   ·exact ck_max f (i+n) x hx
  ·rw [ck_end hi] at hx;cases hx
theorem ck_few {a:Option Addr} {l:List UInt8} {n:Nat} (hn:1<=n):∀(f i:Nat),(ckL a l n f i).length<=l.length-i
 | 0,_=>qL _
 | f+1,i=>by
  by_cases hi:i<l.length
  ·rw [ck_step hi,qV];have:=ck_few (a:=a) (l:=l) hn f (i+n);omega
  ·rw [ck_end hi];simp
theorem takeF_nn {w:St} (k:StOk w):0<=(takeF w).2.1/\(takeF w).2.1<=4294967296:=by
 have hf:=(St.head_r k).free;have hw:=St.few k;have ht:∀x:St × Int × Nat,0<=x.2.1/\x.2.1<=4294967296->0<=(toldF x).2.1/\(toldF x).2.1<=4294967296:=fun x h=>by unfold toldF;show 0<=ite _ _ _/\ite _ _ _<=(4294967296:Int);split<;>omega
 have hg:0<=(frGrow w).2.1/\(frGrow w).2.1<=4294967296:=by
  unfold frGrow;split
  ·exact ⟨by show (0:Int)<=0;omega,by show (0:Int)<=4294967296;omega⟩
  split
  ·exact ⟨by show (0:Int)<=0;omega,by show (0:Int)<=4294967296;omega⟩
  ·show 0<=(w.pgs.length:Int)+1/\(w.pgs.length:Int)+1<=4294967296;omega
 have hno:0<=tkNo w/\tkNo w<=4294967296:=by
  unfold tkNo;have:=rdN_lt (l:=tkA w) (p:=8+4*(tkN w-1));split<;>omega
 unfold takeF;split
 ·exact ⟨by show (0:Int)<=0;omega,by show (0:Int)<=4294967296;omega⟩
 split
 ·exact ht _ hg
 split
 ·exact ⟨by show (0:Int)<=0;omega,by show (0:Int)<=4294967296;omega⟩
 split
 ·exact ⟨by show (0:Int)<=0;omega,by show (0:Int)<=4294967296;omega⟩
 ·exact ht _ hno
theorem _root_.Go.HL.Hp.frzPg {h0 h:Heap} {D F2 E2:Nat->Prop} {M R:List Itm} {e:TypeId} {pa a:Option Addr} {pc c n:Nat} {l:List UInt8} {P:List RB} (ok:Hp h0 D (capI 1 e (pa,P.length,pc) (P.flatMap RB.cells)::M) (rdI F2 E2 (a,n,c) l::R) h) (hp:∀x∈P,RdL h F2 E2 (x.a,x.l.length,x.c) x.l):Hp h0 D M (pgwI (fun j=>blkC (sv (pa,P.length,pc)) j\/F2 j\/E2 j) (pa,P.length,pc) P::rdI F2 E2 (a,n,c) l::R) h:=by
 have hc:Cap h 1 e (sv (pa,P.length,pc)) (P.flatMap RB.cells):=ok.m0;have o:Hp h0 D M (capI 1 e (pa,P.length,pc) (P.flatMap RB.cells)::rdI F2 E2 (a,n,c) l::R) h:=ok.frz;have o2:=o.or (r:=capI 1 e (pa,P.length,pc) (P.flatMap RB.cells)) (r':=rdI F2 E2 (a,n,c) l) (by simp) (by simp) (pgwI (fun j=>blkC (sv (pa,P.length,pc)) j\/F2 j\/E2 j) (pa,P.length,pc) P) (PgB.of (E':=fun j=>F2 j\/E2 j) hc (fun y hy=>(hp y hy).mono (fun _ h=>.inl h) (fun _ h=>.inr h)) (fun _ h=>.inl h) (fun _ h=>.inr h)) (fun j h=>h.imp id id);exact o2.sub (by simp;intro a h;exact .inr (.inr (.inr h)))
theorem setHead_zz {w:St} {H:Hd} : (w.setHead H).1.z=w.z:=by
 unfold St.setHead;split
 ·rfl
 split<;>rfl
theorem hdd_zz {w:St} {f m:Int} : (hdd w f m).1.z=w.z:=setHead_zz
theorem frGrow_zz {w:St} : (frGrow w).1.z=w.z:=by
 unfold frGrow;split
 ·rfl
 split
 ·exact write_z
 ·exact hdd_zz.trans write_z
theorem takeF_zz {w:St} : (takeF w).1.z=w.z:=by
 have h1:(tkZ w).1.z=w.z:=write_z.trans tkW_z;unfold takeF;split
 ·rfl
 split
 ·exact frGrow_zz
 split
 ·exact tkW_z
 split
 ·exact h1
 ·exact hdd_zz.trans h1
theorem takeA_e {w:St} {acc:List Int} {k:Nat} (h:(takeF w).2.2≠0):takeA w acc (k+1)=((takeF w).1,acc,(takeF w).2.2):=if_pos h
theorem takeA_s {w:St} {acc:List Int} {k:Nat} (h:¬(takeF w).2.2≠0):takeA w acc (k+1)=takeA (takeF w).1 (acc++[(takeF w).2.1]) k:=if_neg h
theorem wrA_e {z j f:Nat} {pl:List Int} {P:List (List UInt8)} {w:St} {no:Int} (hn:pl.getD j 0=no) (h:(w.write no (putPg z pl P j)).2≠0):wrA z pl P (f+1) j w=w.write no (putPg z pl P j):=by subst hn;exact if_pos h
theorem wrA_s {z j f:Nat} {pl:List Int} {P:List (List UInt8)} {w:St} {no:Int} (hn:pl.getD j 0=no) (h:¬(w.write no (putPg z pl P j)).2≠0):wrA z pl P (f+1) j w=wrA z pl P f (j+1) (w.write no (putPg z pl P j)).1:=by subst hn;exact if_neg h
theorem getD_at {l:List Int} {i:Nat} (h:i<l.length):l.getD i 0=l[i]:=by rw [List.getD_eq_getElem?_getD,List.getElem?_eq_getElem h];rfl
section
variable {w:St} {l:List UInt8}
theorem putF_10 (h:w.in_=false):putF w l=(w,0,10):=if_pos h
theorem putF_3 (h:w.in_=true) (h2:16384<l.length):putF w l=(w,0,3):=by unfold putF;rw [if_neg (by rw [h];decide),if_pos h2]
variable (h:w.in_=true) (h2:¬16384<l.length) {w2 w3:St} {pl:List Int} {c:Nat}
include h h2
theorem putF_t (h3:takeA w [] (parts l (w.z-4)).length=(w2,pl,c)) (hc:c≠0):putF w l=(w2,0,c):=by unfold putF;rw [if_neg (by rw [h];decide),if_neg h2,h3,if_pos hc]
theorem putF_w (h3:takeA w [] (parts l (w.z-4)).length=(w2,pl,0)) (h4:wrA w.z pl (parts l (w.z-4)) (parts l (w.z-4)).length 0 w2=(w3,c)) (hc:c≠0):putF w l=(w3,0,c):=by unfold putF;rw [if_neg (by rw [h];decide),if_neg h2,h3,if_neg (fun e=>e rfl)];simp only;rw [h4,if_pos hc]
theorem putF_0 (h3:takeA w [] (parts l (w.z-4)).length=(w2,pl,0)) (h4:wrA w.z pl (parts l (w.z-4)) (parts l (w.z-4)).length 0 w2=(w3,0)):putF w l=(w3,pl.getD 0 0,0):=by unfold putF;rw [if_neg (by rw [h];decide),if_neg h2,h3,if_neg (fun e=>e rfl)];simp only;rw [h4,if_neg (fun e=>e rfl)]
end
theorem spPut_any {G:Pgr} {h:Heap} {so bc:Nat} {F F2 E2:Nat->Prop} {w:St} {ba:Option Addr} {bl:List UInt8} (ok:Hp h F [dsI G so F w] [rdI F2 E2 (ba,bl.length,bc) bl] h) :
  Hc 104 #[.P so,.slice ba bl.length bc] h (fun v h'=>∃F',v=.tuple #[.J (putF w bl).2.1,.J ((putF w bl).2.2:Int)]/\Hp h F [dsI G so F' (putF w bl).1] [] h'):=by
 have hso:=ds_ok ok.m0;have hzc:=okSz_c hso.z;have hbc:=ok.r0.c;have hbm:=ok.r0.m;simp only at hbc hbm;refine HC.go Tryz.func104 96 ?_;refine .s<|.z .asI<|.z .asI<|.nil<|.seq<|.block fun K0 hK0=>.s<|.z .mvP<|.z (.pEqS T.pt24)<|.z .asB<|.nil<|.cf<|.s<|.z .mvP<|.k 20 .func (sIn_any (G:=G) (F:=F) (w:=w) ok.m0)<|.z .not<|.z .asB<|.nil<|.cond (fun C1=>?_) (fun C1=>?_)
 ·
  refine .s<|.z .asI<|.z .asI<|.nil<|.ret ⟨.tuple #[.J 0,.J 10],Res.two rfl rfl rfl,⟨F,by rw [putF_10 (by simpa using C1)]<;>rfl,by rw [putF_10 (by simpa using C1)];exact (ok).k1.tR⟩⟩
 have hin:w.in_=true:=by simpa using C1
 refine .s<|.z .mvS<|.z (.len T.el35)<|.z .gtr<|.z .asB<|.nil<|.cd (fun C2=>?_) (fun C2=>?_)
 ·
  refine .s<|.z .asI<|.z .asI<|.nil<|.ret ⟨.tuple #[.J 0,.J 3],Res.two rfl rfl rfl,⟨F,by rw [putF_3 hin (by omega)]<;>rfl,by rw [putF_3 hin (by omega)];exact (ok).k1.tR⟩⟩
 refine .skip<|.end<|hK0 _ _<|.s<|.z .asS<|?_;have ok:=ok.nilC (k:=1) (e:=3);refine .nil ?_;refine .seq<|?_;obtain ⟨zk,hzk⟩:∃k,w.z=k+4:=⟨w.z-4,by omega⟩;refine .r<|.z .mvS<|.z .mvP<|.k 28 .func (sSize_any (G:=G) (F:=F) (w:=w) ok.m1)<|.z .sub<|?_;rw [show ((w.z:Int)-4)=(zk:Int) from by omega];refine .c' 30 .func (chunk_any (a:=ba) (c:=bc) (l:=bl) (n:=zk) (by omega)) ?_;rintro _ U1 ⟨b1ck1,b2ck1,rfl,q⟩;have ok:=ok.addML q;have okc:=ok;refine .c' 31 .func (collect_any (a:=ba) (c:=bc) (n:=zk) (l:=bl) (by omega) (by omega) (by omega) ((Hp.lc2 okc).sub (R':=[]) (by simp))) ?_;rintro _ U2 ⟨pa,pc,rfl,q⟩;have ok:=Hp.lf2 okc q;obtain ⟨P,hP⟩:∃P,ckL ba bl zk (bl.length+1) 0=P:=⟨_,rfl⟩;rw [hP] at ok;have hPr:=ck_rd (by exact (ok.r0)) (show 1<=zk by omega) (bl.length+1) 0;have hPm:=ck_max (a:=ba) (l:=bl) (n:=zk) (bl.length+1) 0;have hPf:=ck_few (a:=ba) (l:=bl) (n:=zk) (by omega) (bl.length+1) 0;rw [hP] at hPr hPm hPf;rw [hP];obtain ⟨EP,ok⟩:∃E,Hp h F [boxI b1ck1 35 [.slice ba bl.length bc],boxI b2ck1 3 [.J (zk:Int)],capI 1 3 (none,0,0) (([]:List Int).map iv),dsI G so F w] (pgwI E (pa,P.length,pc) P::[rdI F2 E2 (ba,bl.length,bc) bl]) _:=⟨_,ok.frzPg hPr⟩;have hPP:pgs P=parts bl (w.z-4):=by rw [<-hP,show w.z-4=zk by omega];exact ck_pgs _ _
 have hPL:P.length=(parts bl (w.z-4)).length:=by rw [<-hPP,pgs_len]
 refine .z .asS<|.nil<|.seq<|.s<|.z .mvS<|.z (.len T.el79)<|.z .mvI<|.nil<|.block fun K1 hK1=>.loop (fun m s hh=>∃(i:Nat) (wi:St) (pl:List Int) (a6:Option Addr) (c6:Nat) (Fo:Nat->Prop),Has s [(0,.P so),(6,.slice a6 pl.length c6),(7,.slice pa P.length pc),(33,.J (P.length:Int)),(34,.J (i:Int))]/\Hp h F [dsI G so Fo wi,capI 1 3 (a6,pl.length,c6) (pl.map iv)] [pgwI EP (pa,P.length,pc) P,rdI F2 E2 (ba,bl.length,bc) bl] hh/\i<=P.length/\pl.length=i/\takeA wi pl (P.length-i)=takeA w [] P.length/\(∀k∈pl,0<=k/\k<=4294967296)/\wi.z=w.z/\m=P.length-i) ?_ ?_
 ·exact ⟨_,0,w,[],none,0,F,⟨rfl,rfl,rfl,rfl,rfl,trivial⟩,(ok.n2.n3).k2,qL _,rfl,rfl,by simp,rfl,rfl⟩
 rintro _ _ U3 ⟨i,wi,pl,a6,c6,Fo,hs,ok,hi,hpl,htk,hnn,hwz,rfl⟩ J0 hJ0;refine .frame hs fun τ=>?_;refine .s<|.z .lss<|.nil<|.seq<|.cdr (fun C3=>?_) (fun C3=>?_)
 ·
  have hiP:i=P.length:=by omega
  have htk3:takeA w [] P.length=(wi,pl,0):=by rw [<-htk,hiP,Nat.sub_self];rfl
  refine .exit<|hK1 _ _<|.seq<|.seq<|?_;have ok:=(ok.n1).frzI (l:=pl) rfl;have hpc:=ok.r0.c;have hpm:=ok.r0.m;simp only at hpc hpm;refine .r<|.z .mvS<|.z (.len T.el79)<|.z .mvI<|.nil<|.block fun K3 hK3=>.loop (fun m s hh=>∃(j:Nat) (wj:St) (Fo:Nat->Prop),Has s [(0,.P so),(6,.slice a6 pl.length c6),(49,.slice pa P.length pc),(50,.J (P.length:Int)),(51,.J (j:Int))]/\Hp h F [dsI G so Fo wj] [rdI (blkC (sv (a6,pl.length,c6))) none_ (a6,pl.length,c6) pl,pgwI EP (pa,P.length,pc) P] hh/\j<=P.length/\wrA w.z pl (pgs P) (P.length-j) j wj=wrA w.z pl (pgs P) P.length 0 wi/\wj.z=w.z/\m=P.length-j) ?_ ?_
  ·exact ⟨_,0,wi,Fo,⟨rfl,rfl,rfl,rfl,rfl,trivial⟩,(ok).k1.f1.f1.e2,qL _,rfl,hwz,rfl⟩
  rintro _ _ U4 ⟨j,wj,Fo,hs,ok,hj,hwr,hjz,rfl⟩ J1 hJ1;refine .frame hs fun τ=>?_;refine .s<|.z .lss<|.nil<|.seq<|.cdr (fun C5=>?_) (fun C5=>?_)
  ·
   have hjE:j=P.length:=by omega
   have hwr3:wrA w.z pl (pgs P) P.length 0 wi=(wj,0):=by rw [<-hwr,hjE,Nat.sub_self];rfl
   refine .exit<|hK3 _ _<|.seq<|.s<|.z .mvS<|.z (.len T.el93)<|.z .eql<|.nil<|.cd (fun C8=>?_) (fun C8=>?_)
   ·
    refine .s<|.z .asI<|.z .asI<|.nil<|.ret ⟨.tuple #[.J 0,.J 0],Res.two rfl rfl rfl,⟨Fo,by rw [putF_0 hin (by omega) (by rw [<-hPL];exact htk3) (by rw [<-hPP,pgs_len];exact hwr3),show pl.getD 0 0=0 by rw [List.getD_eq_getElem?_getD,List.getElem?_eq_none (by omega)];rfl]<;>rfl,by rw [putF_0 hin (by omega) (by rw [<-hPL];exact htk3) (by rw [<-hPP,pgs_len];exact hwr3),show pl.getD 0 0=0 by rw [List.getD_eq_getElem?_getD,List.getElem?_eq_none (by omega)];rfl];exact (ok).k1.tR.tR⟩⟩
   refine .skip<|.s<|.z .mvS<|?_;obtain ⟨bb1,oo1,rfl,fb1⟩:=ok.r0.pos (by omega);refine .z (.ix1 0 T.el93 T.sz3 (hi:=by omega))<|.z (.ld T.ag3 (ok.r0.i64 (i:=0) (by omega)))<|.z .asI<|.z .asI<|.nil<|.ret ⟨.tuple #[.J (pl[0]),.J 0],Res.two rfl rfl rfl,⟨Fo,by rw [putF_0 hin (by omega) (by rw [<-hPL];exact htk3) (by rw [<-hPP,pgs_len];exact hwr3),getD_at (show 0<pl.length by omega)]<;>rfl,by rw [putF_0 hin (by omega) (by rw [<-hPL];exact htk3) (by rw [<-hPP,pgs_len];exact hwr3),getD_at (show 0<pl.length by omega)];exact (ok).k1.tR.tR⟩⟩
  have hjP:j<P.length:=by omega
  refine .skip<|.seq<|.block fun K4 hK4=>.s<|.z .mvI<|?_;obtain ⟨bb2,oo2,rfl,fb2⟩:=ok.r1.pos (by omega);refine .z (.ix1 j T.el79 T.sz35 (hi:=by omega))<|.z (.ld T.ag35 (sl_at1 RB.cells_len (ok.r1).sl (i:=j) (by omega) rfl))<|.z .asI<|.z .asS<|.nil<|.seq<|?_;have ok:=ok.d1 (rdI EP EP (P[j].a,P[j].l.length,P[j].c) P[j].l) ((ok.r1).by' _ (qP hjP)) (fun _ h=>h.elim id id);have hpx:=hPm _ (qP hjP);have hjc:=ok.r0.c;have hjm:=ok.r0.m;simp only at hjc hjm;refine .r<|.z .asI<|.nil<|.seq<|.s<|.z .mvI<|.z (.addI (b:=1))<|.z .mvS<|.z (.len T.el93)<|.z .lss<|.nil<|.join (fun s hh=>∃(nx:Nat),Has s [(0,.P so),(6,.slice a6 pl.length c6),(10,.J (j:Int)),(11,.slice (P[j].a) (P[j].l.length) (P[j].c)),(12,.J (nx:Int)),(49,.slice (some ⟨bb2,oo2,none⟩) P.length pc),(50,.J (P.length:Int)),(51,.J (j:Int))]/\Hp h F [dsI G so Fo wj] [rdI EP EP (P[j].a,P[j].l.length,P[j].c) (P[j].l),rdI (blkC (sv (a6,pl.length,c6))) none_ (a6,pl.length,c6) pl,pgwI EP (some ⟨bb2,oo2,none⟩,P.length,pc) P] hh/\nx=(pl.getD (j+1) 0).toNat/\nx<=4294967296) ?_ ?_
  ·
   refine .cd (fun C6=>?_) (fun C6=>?_)
   ·
    refine .r<|.z .mvS<|.z .mvI<|.z (.addI (b:=1))<|?_;obtain ⟨bb3,oo3,rfl,fb3⟩:=ok.r1.pos (by omega);refine .z (.ix1 (j+1) T.el93 T.sz3 (hi:=by omega))<|.z (.ld T.ag3 (ok.r1.i64 (i:=(j+1)) (by omega)))<|?_;obtain ⟨nx,hnx⟩:∃nx:Nat,pl[j+1]=(nx:Int):=⟨_,(Int.toNat_of_nonneg (hnn _ (qP (by omega))).1).symm⟩;rw [hnx];refine .z .asI<|.nil<|.end<|⟨nx,⟨rfl,rfl,rfl,rfl,rfl,rfl,rfl,rfl,trivial⟩,ok,by rw [getD_at (by omega),hnx];rfl,by have:=(hnn _ (qP (show j+1<pl.length by omega))).2;omega⟩
   refine .skip<|.end<|⟨0,⟨rfl,rfl,rfl,rfl,rfl,rfl,rfl,rfl,trivial⟩,ok,by rw [List.getD_eq_getElem?_getD,List.getElem?_eq_none (by omega)];rfl,by omega⟩
  rintro s U5 ⟨nx,hs,ok,hnx2,hnx3⟩;refine .frame hs fun τ=>?_;refine .s<|.z .mvI<|.z (.cvs T.in207 T.in3 (M:=18446744073709551616) rfl rfl)<|.c' 68 .func (fixed_any (n:=nx) (size:=4) (by omega) (by omega) (by omega)) ?_;rintro _ U6 own;obtain ⟨ya1,yc1,rfl⟩:=own.formB;have ok:=ok.own own;refine .z .mvS<|.z .mvP<|.k 71 .func (sSize_any (G:=G) (F:=Fo) (w:=wj) ok.m1)<|.z .sub<|.z .mvS<|.z (.len T.el35)<|.z .sub<|?_;obtain ⟨zl,hzl,hzn⟩:∃zl:List UInt8,List.replicate zl.length (0:UInt8)=zl/\zl.length=w.z-4-P[j].l.length:=⟨List.replicate (w.z-4-P[j].l.length) 0,by simp,by simp⟩;rw [show (((wj.z:Int)-4)-((P[j].l.length:Nat):Int))=((zl.length:Nat):Int) from by omega];refine .a' 76 (.mks zl.length zl.length T.el35 T.sz5 T.by5 T.zr5 ok) ?_;rintro _ U7 ⟨pb1,rfl,ok,xe⟩;have ok:=ok.cx (ys:=(List.replicate zl.length (0:UInt8)).map bv) (zeros8 _);have ok:=ok.cx (ys:=zl.map bv) (by rw [hzl]);refine .a' 77 (.lit [.tmp 68,.tmp 69,.tmp 76] (cs:=[.slice ya1 ((fixedN nx 4).length) yc1,.slice (P[j].a) (P[j].l.length) (P[j].c),.slice (some ⟨pb1,0,none⟩) zl.length zl.length]) T.el79 T.sz35 T.zr35 ok ⟨rfl,rfl,rfl,trivial⟩) ?_;rintro _ U8 ⟨pb2,rfl,ok,xe⟩;refine .c' 78 .func (njoin_any (a:=some ⟨pb2,0,none⟩) (c:=3) (L:=[(fixedN nx 4),P[j].l,zl]) (RdL.rows (v:=(some ⟨pb2,0,none⟩,3,3)) (xs:=[(ya1,(fixedN nx 4).length,yc1),(P[j].a,P[j].l.length,P[j].c),(some ⟨pb1,0,none⟩,zl.length,zl.length)]) (ls:=[(fixedN nx 4),P[j].l,zl]) ok.m0 ⟨⟨_,_,(RdL.ofCapB (v:=(ya1,(fixedN nx 4).length,yc1)) (l:=(fixedN nx 4)) ok.m2)⟩,⟨_,_,ok.r0⟩,⟨_,_,(RdL.ofCapB (v:=(some ⟨pb1,0,none⟩,zl.length,zl.length)) (l:=zl) ok.m1)⟩,trivial⟩) (by rw [show [fixedN nx 4,P[j].l,zl].flatten.length=4+(P[j].l.length+zl.length) from by simp [fixedN_len]];omega)) ?_;rintro _ U9 own;obtain ⟨ya2,yc2,rfl⟩:=own.formB;have ok:=ok.own own;have hpg:[fixedN nx 4,P[j].l,zl].flatten=putPg w.z pl (pgs P) j:=by unfold putPg;rw [<-hnx2,show (pgs P).getD j []=P[j].l from by simp [pgs,hjP],<-hzn,hzl];simp
  rw [hpg] at ok⊢;have hpl2:(putPg w.z pl (pgs P) j).length=w.z:=by rw [<-hpg];simp [fixedN_len];omega
  refine .z .asS<|.nil<|.s<|.z .mvP<|.z .mvS<|.z .mvI<|?_;obtain ⟨bb4,oo4,rfl,fb4⟩:=ok.r1.pos (by omega);refine .z (.ix1 j T.el93 T.sz3 (hi:=by omega))<|.z (.ld T.ag3 (ok.r1.i64 (i:=j) (by omega)))<|.z .mvS<|.c' 85 .func (sWriteC_any (G:=G) (w:=wj) (no:=pl[j]) (l:=putPg w.z pl (pgs P) j) (ok.n4) (by rw [hpl2];omega)) ?_;rintro _ U10 ⟨Fk1,rfl,q⟩;have ok:=(ok.n4).lift1 q;refine .z .asI<|.nil<|.s<|.z .mvI<|.z .neq<|.nil<|.cd (fun C7=>?_) (fun C7=>?_)
  ·
   refine .s<|.z .mvI<|.z .asI<|.z .asI<|.nil<|.ret ⟨.tuple #[.J 0,.J (((wj.write (pl[j]) (putPg w.z pl (pgs P) j)).2:Nat):Int)],Res.two rfl rfl rfl,⟨Fk1,by rw [putF_w hin (by omega) (by rw [<-hPL];exact htk3) (by rw [<-hPP,pgs_len,<-hwr,show P.length-j=(P.length-(j+1))+1 by omega,wrA_e (getD_at (show j<pl.length by omega)) (by omega)]) (by omega)]<;>rfl,by rw [putF_w hin (by omega) (by rw [<-hPL];exact htk3) (by rw [<-hPP,pgs_len,<-hwr,show P.length-j=(P.length-(j+1))+1 by omega,wrA_e (getD_at (show j<pl.length by omega)) (by omega)]) (by omega)];exact (ok).k1.tR.tR.tR⟩⟩
  have hwr2:wrA w.z pl (pgs P) (P.length-(j+1)) (j+1) (wj.write pl[j] (putPg w.z pl (pgs P) j)).1=wrA w.z pl (pgs P) P.length 0 wi:=by rw [<-hwr,show P.length-j=(P.length-(j+1))+1 by omega,wrA_s (getD_at (by omega)) (by omega)]
  refine .skip<|.end<|hK4 _ _<|.r<|.z (.addI (b:=1))<|.z .mvI<|.nil<|.end<|hJ1 _ _ _ ⟨j+1,((wj.write (pl[j]) (putPg w.z pl (pgs P) j)).1),Fk1,⟨rfl,rfl,rfl,rfl,rfl,trivial⟩,(ok).k1.f2.f2.e2,by omega,hwr2,write_z.trans hjz,rfl⟩ (by omega)
 refine .skip<|.seq<|.block fun K2 hK2=>.seq<|?_;have hsw:=ds_ok ok.m0;refine .r<|.z .mvP<|.c' 38 .func (ftake_any (G:=G) (w:=wi) (ok).loc0) ?_;rintro _ U11 ⟨Ft1,rfl,q⟩;have ok:=(ok).lift1 q;refine .z .mvU<|.z .ex<|.z .ex<|.z .asI<|.z .asI<|.nil<|.seq<|.s<|.z .mvI<|.z .neq<|.nil<|.cd (fun C4=>?_) (fun C4=>?_)
 ·
  refine .s<|.z .mvI<|.z .asI<|.z .asI<|.nil<|.ret ⟨.tuple #[.J 0,.J (((takeF wi).2.2:Nat):Int)],Res.two rfl rfl rfl,⟨Ft1,by rw [putF_t hin (by omega) (by rw [<-hPL,<-htk,show P.length-i=(P.length-(i+1))+1 by omega,takeA_e (by omega)]) (by omega)]<;>rfl,by rw [putF_t hin (by omega) (by rw [<-hPL,<-htk,show P.length-i=(P.length-(i+1))+1 by omega,takeA_e (by omega)]) (by omega)];exact (ok).k1.tR.tR⟩⟩
 have htk2:takeA (takeF wi).1 (pl++[(takeF wi).2.1]) (P.length-(i+1))=takeA w [] P.length:=by rw [<-htk,show P.length-i=(P.length-(i+1))+1 by omega,takeA_s (by omega)]
 have hnn2:∀k∈pl++[(takeF wi).2.1],0<=k/\k<=4294967296:=fun k hk=>(qD.1 hk).elim (hnn k) fun e=>by rw [qS.1 e];exact takeF_nn hsw
 have hwz2:(takeF wi).1.z=w.z:=takeF_zz.trans hwz;refine .skip<|.r<|.z .mvS<|.z .mvI<|.a' 46 (.lit [.tmp 45] (cs:=[.J ((takeF wi).2.1)]) T.el93 T.sz3 T.zr3 ok ⟨rfl,trivial⟩) ?_;rintro _ U12 ⟨pb3,rfl,ok,xe⟩;refine .a' 47 (.app (news:=[.J ((takeF wi).2.1)]) T.el93 T.sz3 T.by3 T.zr3 ok.n2 (ok.n2.m1).sl (oneL rfl) (by simp only [qM,qV,qB];omega)) ?_;rintro _ U13 ⟨ya3,yn3,yc3,rfl,ok,ap⟩;have ok:=ok.cx (ys:=(pl++[(takeF wi).2.1]).map iv) snocI;obtain rfl:yn3=(pl++[(takeF wi).2.1]).length:=ok.lenI2;refine .z .asS<|.nil<|.end<|hK2 _ _<|.r<|.z (.addI (b:=1))<|.z .mvI<|.nil<|.end<|hJ0 _ _ _ ⟨i+1,((takeF wi).1),pl++[(takeF wi).2.1],ya3,yc3,Ft1,⟨rfl,rfl,rfl,rfl,rfl,trivial⟩,(ok.n2).k2,by omega,by simp;omega,htk2,hnn2,hwz2,rfl⟩ (by omega)
open Go Go.HL
structure DgP (h:Heap) (d:Nat) (F:Nat->Prop) (D:Dk) (r:RD) (E:Nat->Prop):Prop where
 p:(dskI d r).p h
 b:Bys h E r.fs
 f:∀j,(dskI d r).F j->F j
 e:∀j,E j->F j
 n:∀j,(dskI d r).F j->¬E j
 a:r.abs=D
@[reducible] def dgI (d:Nat) (F:Nat->Prop) (D:Dk):Itm:=⟨fun h=>∃r E,DgP h d F D r E,F,fun _ _ _ c g ⟨r,E,q⟩=>⟨r,E,(dskI d r).st _ _ _ c (fun j hj=>g j (q.f j hj)) q.p,(bysI E r.fs).st _ _ _ c (fun j hj=>g j (q.e j hj)) q.b,q.f,q.e,q.n,q.a⟩⟩
section
variable {h h':Heap} {d p:Nat} {F G E E':Nat->Prop} {D:Dk} {r r':RD}
theorem dg_open {M:List Itm} (ok:Hp h F [dgI d F D] M h):∃r E,r.abs=D/\Hp h (dskI d r).F [dskI d r] [bysI E r.fs] h/\(∀j,(dskI d r).F j->F j)/\∀j,E j->F j:=by
 obtain ⟨r,E,q⟩:=ok.m0;have hl:=(ok.m (dgI d F D) (by simp)).2;exact ⟨r,E,q.a,⟨Chg.refl _ _,fun i hi=>by rw [qS.1 hi];exact ⟨q.p,fun j hj=>⟨(hl j (q.f j hj)).1,.inl hj⟩⟩,fun i hi=>by rw [qS.1 hi];exact ⟨q.b,fun j hj=>(hl j (q.e j hj)).1⟩,List.pairwise_singleton _ _,fun a ha b hb=>by rw [qS.1 ha,qS.1 hb];exact q.n⟩,q.f,q.e⟩
theorem dg_close {M:List Itm} (q:Hp h G (dskI d r'::M) [bysI E' r'.fs] h') (hG:∀j,G j->F j) (hE:∀j,E' j->F j\/h.size<=j):Hp h F (dgI d (fun j=>(dskI d r').F j\/E' j) r'.abs::M) [] h':=by
 have hm:=kK.1 q.mm;refine ⟨q.chg.mono fun j _=>hG j,fun i hi=>?_,by simp,kK.2 ⟨fun b hb j hj hb2=>?_,hm.2⟩,by simp⟩
 ·rcases qK.1 hi with rfl | hi
  ·refine ⟨⟨r',E',q.m0,q.r0,fun j hj=>.inl hj,fun j hj=>.inr hj,q.mr (dskI d r') (by simp) (bysI E' r'.fs) (by simp),rfl⟩,fun j hj=>?_⟩;rcases hj with hj | hj
   ·have:=(q.m _ qX).2 j hj;exact ⟨this.1,this.2.imp (hG j) id⟩
   ·exact ⟨(q.r _ qX).2 j hj,hE j hj⟩
  ·have:=q.m i (qQ _ hi);exact ⟨this.1,fun j hj=>⟨(this.2 j hj).1,(this.2 j hj).2.imp (hG j) id⟩⟩
 ·rcases hj with hj | hj
  ·exact hm.1 b hb j hj hb2
  ·exact q.mr b (qQ _ hb) _ qX j hb2 hj
theorem dg_up (up:DUp h h' d r r' E E') (hf:∀j,(dskI d r).F j->F j) (he:∀j,E j->F j):∃F',Hp h F [dgI d F' r'.abs] [] h':=⟨_,dg_close up.hp hf fun j hj=>(up.new j hj).imp (he j) id⟩
section
variable {n:List UInt8} {z y:Int} {a:Option Addr} {c:Nat} {l:List UInt8} {F2 E2:Nat->Prop}
theorem dgsize_any (ok:Hp h F [dgI d F D] [] h) :
  Hc 140 #[.P d,.string (BA n)] h (fun v h'=>v=.tuple #[.J ((sizeN D n).1:Int),.bool (sizeN D n).2]/\h'=h):=by
 obtain ⟨r,E,rfl,o,hf,he⟩:=dg_open ok;exact size_anyD o.m0
theorem dgdark_any (ok:Hp h F [dgI d F D] [] h) :
  Hc 139 #[.P d] h (fun v h'=>v=.bool D.dark/\h'=h):=by
 obtain ⟨r,E,rfl,o,hf,he⟩:=dg_open ok;exact dark_any (dsk_parts o.m0).1
end
theorem dgnew_any:Hc 50 #[] h (fun v h'=>∃d F,v=.P d/\Hp h none_ [dgI d F newN] [] h'):=
 new_any.mono fun v h' ⟨d,r,hv,ha,q⟩=>⟨d,_,hv,by
  have hp:=dg_close (F:=none_) q (fun _ f=>f) (fun j f=>f.elim);rw [ha] at hp;exact hp⟩
end
open Go Go.HL
theorem aright_any {h:Heap} {z:Int} (hz : -9223372036854775808<=z/\z<=9223372036854775807) :
  Hc 136 #[.J z] h (fun v h'=>v=.bool (okZ z)/\h'=h):=by
 refine HC.go Tryz.func136 16 ?_;refine .s<|.z .asB<|.nil<|.s<|.z .mvI<|.z .geq<|.z .mvB<|.sd (fun G5=>?_) (fun G5=>?_)
 ·
  refine .z .mvI<|.z .leq<|.z .pkt<|.z .mvB<|.sd (fun G9=>?_) (fun G9=>?_)
  ·
   obtain ⟨q,rfl⟩:∃q:Nat,z=(q:Int):=⟨z.toNat,by omega⟩;have hq:=and_pow q (by omega) (by omega);refine .z .mvI<|.z .mvI<|.z .sub<|.z (.bandI q (q-1))<|.z .eql<|.z .pkt<|.z .asB<|.nil<|.ret ⟨.bool (decide ((((q &&& (q-1)):Nat):Int)=0)),Res.one rfl rfl,⟨by first | exact congrArg _ (by unfold okZ;rw [decide_eq_decide];omega) | exact congrArg _ (by unfold okZ;exact (decide_eq_false (by omega)).symm) | exact congrArg _ (by unfold okZ;exact (decide_eq_true (by omega)).symm),rfl⟩⟩
  refine .y<|.y<|.y<|.y<|.y<|.z .pkf<|.z .asB<|.nil<|.ret ⟨.bool false,Res.one rfl rfl,⟨by first | exact congrArg _ (by unfold okZ;rw [decide_eq_decide];omega) | exact congrArg _ (by unfold okZ;exact (decide_eq_false (by omega)).symm) | exact congrArg _ (by unfold okZ;exact (decide_eq_true (by omega)).symm),rfl⟩⟩
 refine .y<|.y<|.z .pkf<|.z .mvB<|.y<|.y<|.y<|.y<|.y<|.z .pkf<|.z .asB<|.nil<|.ret ⟨.bool false,Res.one rfl rfl,⟨by first | exact congrArg _ (by unfold okZ;rw [decide_eq_decide];omega) | exact congrArg _ (by unfold okZ;exact (decide_eq_false (by omega)).symm) | exact congrArg _ (by unfold okZ;exact (decide_eq_true (by omega)).symm),rfl⟩⟩
section
variable {h:Heap} {p:Nat}
theorem look_any {r:RA} (hb:(aboxI p r).p h) :
  Hc 323 #[.P p] h (fun v h'=>v=.J ((lookE r.dark:Nat):Int)/\h'=h):=by
 refine HC.go Tryz.func323 11 ?_;refine .s<|.z .asI<|.nil<|.seq<|.block fun K0 hK0=>.s<|.z .mvP<|.z (.pEqS T.pt133)<|.z .asB<|.nil<|.cf<|.s<|.z .mvP<|.z .nil<|.z (.fa T.fd220_6)<|.z (.ldx T.ag4 hb)<|.z .asB<|.nil<|.cond (fun C1=>?_) (fun C1=>?_)
 ·
  refine .s<|.z .asI<|.nil<|.ret ⟨.J 13,Res.one rfl rfl,⟨by rw [show lookE r.dark=13 from if_pos C1];rfl,rfl⟩⟩
 refine .skip<|.end<|hK0 _ _<|.s<|.z .asI<|.nil<|.ret ⟨.J 0,Res.one rfl rfl,⟨by rw [show lookE r.dark=0 from if_neg (by simp [C1])];rfl,rfl⟩⟩
theorem apages_any {r:RA} (hb:(aboxI p r).p h) :
  Hc 330 #[.P p] h (fun v h'=>v=.J ((pgsR r:Nat):Int)/\h'=h):=by
 refine HC.go Tryz.func330 17 ?_;refine .s<|.z .asI<|.nil<|.seq<|.s<|.z .mvP<|.z .nil<|.z (.fa T.fd220_1)<|.z (.fa T.fd218_0)<|.z (.ldx T.ag4 hb)<|.nil<|.cond (fun C0=>?_) (fun C0=>?_)
 ·
  refine .s<|.z .mvP<|.z .nil<|.z (.fa T.fd220_1)<|.z (.fa T.fd218_1)<|.z (.ldx T.ag3 hb)<|.z .asI<|.nil<|.ret ⟨.J (r.many:Int),Res.one rfl rfl,⟨by rw [show pgsR r=r.many from if_pos C0],rfl⟩⟩
 refine .skip<|.s<|.z .mvP<|.z .nil<|.z (.fa T.fd220_4)<|.z (.ldx T.ag3 hb)<|.z .asI<|.nil<|.ret ⟨.J (r.sure:Int),Res.one rfl rfl,⟨by rw [show pgsR r=r.sure from if_neg (by simp [C0])],rfl⟩⟩
theorem fresh_any {v0 v1 v2 v3 v4 v5 v6 v7 v8 v9 v10 v11:Value} (ok:Hp h (fun j=>j=p) [boxI p 220 [v0,v1,v2,v3,v4,v5,v6,v7,v8,v9,v10,v11]] [] h) :
  Hc 138 #[.P p] h (fun v h'=>∃m,v=.tuple #[]/\Hp h (fun j=>j=p) [boxI p 220 [.J 0,.J 0,.int .u64 0,.map (some m),v4,v5,v6,v7,v8,v9,v10,v11],mapI (Value.int .i64) m []] [] h'):=by
 refine HC.go Tryz.func138 7 ?_;refine .r<|.z .mvP<|.a' 3 (.mkm (Value.int .i64) ok) ?_;rintro _ U1 ⟨mb1,rfl,ok⟩;refine .z (.bd #[.J 0,.J 0,.int .u64 0,.map (some mb1)] T.zr216 T.pl216 rfl)<|.z .nil<|.z (.fa T.fd220_0)<|.ur' (.stA (vs:=[.J 0,.J 0,.int .u64 0,.map (some mb1)]) T.sz216 ok.n1 (oneL rfl)) ?_;rintro U2 ⟨ok,cg⟩;refine .nil ?_;refine .end<|⟨.tuple #[],Res.none rfl,⟨_,rfl,ok⟩⟩
end
open Go Go.HL
theorem aPages_any {h:Heap} {p:Nat} {r:RA} (hb:(aboxI p r).p h) :
  Hc 318 #[.P p] h (fun v h'=>v=.J ((if r.dark=true then 0 else pgsR r:Nat):Int)/\h'=h):=by
 refine HC.go Tryz.func318 8 ?_;refine .s<|.z .asI<|.nil<|.seq<|.s<|.z .mvP<|.k 4 .func (look_any (r:=r) hb)<|.z .neq<|.nil<|.cd (fun C0=>?_) (fun C0=>?_)
 ·
  have hdk:r.dark=true:=lookE_t C0;refine .s<|.z .asI<|.nil<|.ret ⟨.J 0,Res.one rfl rfl,⟨by rw [if_pos hdk];rfl,rfl⟩⟩
 have hdk:r.dark=false:=lookE_f C0;refine .skip<|.s<|.z .mvP<|.k 7 .func (apages_any (r:=r) hb)<|.z .asI<|.nil<|.ret ⟨.J ((pgsR r:Nat):Int),Res.one rfl rfl,⟨by rw [if_neg (by rw [hdk];decide)],rfl⟩⟩
def nOk (n:List UInt8):Prop:=1<=n.length/\n.length<=32
section
variable {d:Dk} {r:Dk × Nat} {G G' B B':Dk->Prop} {n:List UInt8}
theorem wrong_0 {zs:List Int} (hd:d.dark=false) (hn:nOk n) (hz:∀z∈zs,0<=z):wrongN d n zs=0:=by
 unfold wrongN;rw [if_neg,if_neg (by rw [hd];decide)];rintro (h | h | ⟨z,h1,h2⟩)
 ·have:=hn.1;omega
 ·have:=hn.2;omega
 ·have:=hz z h1;omega
end
open Go Go.HL
theorem nL_ok:nOk nL:=by unfold nOk nL;decide
theorem nM_ok:nOk nM:=by unfold nOk nM;decide
def nJ:List UInt8:=[116,111,109,101,46,98,97,99,107]
structure RK where
 in_:Bool
 now:Nat
 valid:Nat
 begun:Bool
 nonce:Nat
 km:Option Nat
 kept:List Int
 marked:Nat
 d:Nat
 rd:RD
 size:Nat
 c:Nat
 sure:Nat
 bytes:Nat
 broken:Bool
@[reducible] def bboxI (p:Nat) (r:RK):Itm:=boxI p 229 [.bool r.in_,.J (r.now:Int),.J (r.valid:Int),.bool r.begun,.int .u64 (r.nonce:Int),.map r.km,.J (r.marked:Int),.pointer (some ⟨r.d,0,none⟩),.J (r.size:Int),.pointer (some ⟨r.c,0,none⟩),.J (r.sure:Int),.J (r.bytes:Int),.bool r.broken]
def presK (r:RK):Nat:=if r.in_=true then r.now else r.sure
theorem pres_any {h:Heap} {p:Nat} {r:RK} (hb:(bboxI p r).p h) :
  Hc 356 #[.P p] h (fun v h'=>v=.J ((presK r:Nat):Int)/\h'=h):=by
 refine HC.go Tryz.func356 17 ?_;refine .s<|.z .asI<|.nil<|.seq<|.s<|.z .mvP<|.z .nil<|.z (.fa T.fd229_0)<|.z (.fa T.fd227_0)<|.z (.ldx T.ag4 hb)<|.nil<|.cond (fun C0=>?_) (fun C0=>?_)
 ·
  refine .s<|.z .mvP<|.z .nil<|.z (.fa T.fd229_0)<|.z (.fa T.fd227_1)<|.z (.ldx T.ag3 hb)<|.z .asI<|.nil<|.ret ⟨.J (r.now:Int),Res.one rfl rfl,⟨by rw [show presK r=r.now from if_pos C0],rfl⟩⟩
 refine .skip<|.s<|.z .mvP<|.z .nil<|.z (.fa T.fd229_4)<|.z (.ldx T.ag3 hb)<|.z .asI<|.nil<|.ret ⟨.J (r.sure:Int),Res.one rfl rfl,⟨by rw [show presK r=r.sure from if_neg (by simp [C0])],rfl⟩⟩
theorem bPages_any {h:Heap} {p:Nat} {r:RK} (hb:(bboxI p r).p h) :
  Hc 346 #[.P p] h (fun v h'=>v=.J ((if r.broken=true then 0 else presK r:Nat):Int)/\h'=h):=by
 refine HC.go Tryz.func346 13 ?_;refine .s<|.z .asI<|.nil<|.seq<|.s<|.z .mvP<|.z (.pEqS T.pt170)<|.z .mvB<|.z .mvP<|.z .nil<|.z (.fa T.fd229_6)<|.z (.ldx T.ag4 hb)<|.z .pkf<|.nil<|.cond (fun C0=>?_) (fun C0=>?_)
 ·
  refine .s<|.z .asI<|.nil<|.ret ⟨.J 0,Res.one rfl rfl,⟨by rw [if_pos (show r.broken=true by first | exact C0 | simpa using C0)];rfl,rfl⟩⟩
 refine .skip<|.s<|.z .mvP<|.k 12 .func (pres_any (r:=r) hb)<|.z .asI<|.nil<|.ret ⟨.J ((presK r:Nat):Int),Res.one rfl rfl,⟨by rw [if_neg (show ¬r.broken=true by simpa using C0)],rfl⟩⟩
section
variable {h:Heap} {d:Nat} {F:Nat->Prop} {n:List UInt8} (ok:Hp h F [dgI d F newN] [] h)
include ok
theorem nsize_any:Hc 140 #[.P d,.string (BA n)] h (fun v h'=>v=.tuple #[.J 0,.bool false]/\h'=h):=dgsize_any ok
theorem ndark_any:Hc 139 #[.P d] h (fun v h'=>v=.bool false/\h'=h):=dgdark_any ok
theorem nremove_any (hn:nOk n):Hc 236 #[.P d,.string (BA n)] h (fun v h'=>v=.J 4/\∃F',Hp h F [dgI d F' newN] [] h'):=by
 obtain ⟨r,E,ha,o,hf,he⟩:=dg_open ok;have hr:removeN newN n=(newN,4):=by
  unfold removeN;rw [if_neg (by rw [show wrongN newN n []=0 from wrong_0 rfl hn (fun z h=>by cases h)];decide),if_pos (show thereN newN n=false from rfl)]
 refine (remove_any o (by rw [ha];exact newN_ok) (by rw [show r.chg=0 from congrArg Dk.chg ha];decide)).mono fun v h' ⟨r',E',hv,ha',up⟩=>?_;rw [ha,hr] at hv ha';obtain ⟨F',q⟩:=dg_up up hf he;rw [ha'] at q;exact ⟨hv,F',q⟩
end
theorem ngone_any {h:Heap} {d:Nat} {n:List UInt8} {F:Nat->Prop} (ok:Hp h F [dgI d F newN] [] h) :
  Hc 241 #[.P d,.string (BA n)] h (fun v h'=>v=.J 0/\h'=h):=by
 refine HC.go Tryz.func241 27 ?_;refine .s<|.z .asI<|.nil<|.seq<|.s<|.z .mvP<|.z .mvT<|.k 11 .func (nsize_any (n:=n) (ok).loc0)<|.z .mvU<|.z .ex<|.z .ex<|.z .asI<|.z .asB<|.nil<|.s<|.z .mvB<|.z .not<|.nil<|.ct<|.seq<|.s<|.z .mvP<|.k 17 .func (ndark_any (ok).loc0)<|.nil<|.cf<|.skip<|.s<|.z .asI<|.nil<|.ret ⟨.J 0,Res.one rfl rfl,⟨rfl,rfl⟩⟩
theorem nover_any {h:Heap} {d:Nat} {F:Nat->Prop} (ok:Hp h F [dgI d F newN] [] h) :
  Hc 189 #[.P d] h (fun v h'=>v=.J 0/\h'=h):=by
 refine HC.go Tryz.func189 11 ?_;refine .s<|.z .asI<|.nil<|.seq<|.s<|.z .mvP<|.k 5 .func (ngone_any (n:=nM) (ok).loc0)<|.z .asI<|.nil<|.s<|.z .mvI<|.z .neq<|.nil<|.cf<|.skip<|.s<|.z .mvP<|.k 10 .func (ngone_any (n:=nJ) (ok).loc0)<|.z .asI<|.nil<|.ret ⟨.J 0,Res.one rfl rfl,⟨rfl,rfl⟩⟩
theorem nheal_any {h:Heap} {d:Nat} {F:Nat->Prop} (ok:Hp h F [dgI d F newN] [] h) :
  Hc 144 #[.P d] h (fun v h'=>v=.J 0/\h'=h):=by
 refine HC.go Tryz.func144 65 ?_;refine .s<|.z .asI<|.nil<|.seq<|.s<|.z .mvP<|.k 14 .func (nsize_any (n:=nM) (ok).loc0)<|.z .mvU<|.z .ex<|.z .ex<|.z .asI<|.z .asB<|.nil<|.s<|.z .mvB<|.z .mvB<|.y<|.y<|.z .pkf<|.nil<|.cf<|.skip<|.seq<|.s<|.z .mvP<|.k 62 .func (ndark_any (ok).loc0)<|.nil<|.cf<|.skip<|.s<|.z .mvP<|.k 64 .func (nover_any (ok).loc0)<|.z .asI<|.nil<|.ret ⟨.J 0,Res.one rfl rfl,⟨rfl,rfl⟩⟩
theorem nlook_any {h:Heap} {d:Nat} {z:Int} {F:Nat->Prop} (ok:Hp h F [dgI d F newN] [] h) :
  Hc 145 #[.P d,.J z] h (fun v h'=>v=.tuple #[.J 0,.J 0]/\h'=h):=by
 refine HC.go Tryz.func145 58 ?_;refine .s<|.z .asI<|.z .asI<|.nil<|.s<|.z .mvP<|.k 13 .func (nsize_any (n:=nT) (ok).loc0)<|.z .mvU<|.z .ex<|.z .ex<|.z .asI<|.z .asB<|.nil<|.seq<|.s<|.z .mvB<|.z .not<|.z .mvB<|.y<|.y<|.z .pkt<|.nil<|.ct<|.s<|.z .asI<|.z .asI<|.nil<|.ret ⟨.tuple #[.J 0,.J 0],Res.two rfl rfl rfl,⟨rfl,rfl⟩⟩
@[reducible] def nbI (p:Nat):Itm:=⟨fun h=>∃(d c z:Nat),(boxI p 229 [.bool false,.J 0,.J 0,.bool false,.int .u64 0,.map none,.J 0,.P d,.J (z:Int),.P c,.J 0,.J 0,.bool false]).p h,fun j=>j=p,fun _ _ _ c d ⟨x,y,z,hp⟩=>⟨x,y,z,c.block hp (d p rfl)⟩⟩
@[reducible] def naI (p:Nat):Itm:=⟨fun h=>∃(am d c z:Nat),(boxI p 220 [.J 0,.J 0,.int .u64 0,.map (some am),.bool false,.J 0,.map none,.P d,.J (z:Int),.J 0,.P c,.bool false]).p h,fun j=>j=p,fun _ _ _ c d ⟨m,x,y,z,hp⟩=>⟨m,x,y,z,c.block hp (d p rfl)⟩⟩
theorem nbopen_any {h:Heap} {d z:Nat} {room:Int} {F:Nat->Prop} (ok:Hp h F [dgI d F newN] [] h) (hz:okSz z=true) (hr:1<=room/\room<=1024) :
  Hc 97 #[.P d,.J (z:Int),.J room] h (fun v h'=>∃p,v=.tuple #[.P p,.J 0]/\Hp h F [nbI p] [] h'):=by
 have hzc:=okSz_c hz;have hpw:=(and_pow z (by omega) (by omega)).2 (by omega);refine HC.go Tryz.func97 62 ?_;refine .s<|.z .asP<|.z .asI<|.nil<|.seq<|.block fun K0 hK0=>.s<|.z .mvP<|.z (.pEqS T.pt102)<|.z .asB<|.nil<|.cf<|.s<|.z .mvI<|.z .lss<|.z .mvB<|.sd (fun G18=>?_) (fun G18=>?_)
 ·
  omega
 refine .z .mvI<|.z .gtr<|.z .pkf<|.z .mvB<|.sd (fun G22=>?_) (fun G22=>?_)
 ·
  omega
 refine .z .mvI<|.z .mvI<|.z .sub<|.z (.bandI z (z-1))<|.z .neq<|.z .pkf<|.z .asB<|.nil<|.cd (fun C1=>?_) (fun C1=>?_)
 ·
  omega
 refine .skip<|.end<|hK0 _ _<|.s<|.z .mvI<|.c' 31 .func (cnewA_any (room:=room) (fun _=>none)) ?_;rintro _ U1 (⟨hrm,rfl,hx⟩ | ⟨hrm,cc,cF,rfl,hx,hcac,hnw⟩)
 ·
  exact absurd hrm (by omega)
 have ok:=ok.ext hx;refine .z .mvU<|.z .ex<|.z .ex<|.z .asP<|.z .asI<|.nil<|.seq<|.s<|.z .mvI<|.z .neq<|.nil<|.cf<|.skip<|.seq<|.s<|.z .mvP<|.k 38 .func (ndark_any (ok).loc0)<|.nil<|.cf<|.skip<|.seq<|.s<|.z .mvP<|.k 40 .func (nheal_any (ok).loc0)<|.z .asI<|.nil<|.s<|.z .mvI<|.z .neq<|.nil<|.cf<|.skip<|.s<|.z .mvP<|.z .mvI<|.k 47 .func (nlook_any (z:=(z:Int)) (ok).loc0)<|.z .mvU<|.z .ex<|.z .ex<|.z .asI<|.z .asI<|.nil<|.seq<|.s<|.z .mvI<|.z .neq<|.nil<|.cf<|.skip<|.s<|.z .mvP<|.z .mvI<|.z .mvP<|.z .mvI<|.z .mvI<|.z .quo<|.z .mvI<|.z (.bd #[.bool false,.J 0,.J 0,.bool false,.int .u64 0,.map none,.J 0,.P d,.J (z:Int),.P cc,.J (0 / (z:Int)),.J 0,.bool false] T.zr229 T.pl229 (by kernel_rfl))<|.a' 61 (.bxA (cs:=[.bool false,.J 0,.J 0,.bool false,.int .u64 0,.map none,.J 0,.P d,.J (z:Int),.P cc,.J (0 / (z:Int)),.J 0,.bool false]) ok) ?_;rintro _ U2 ⟨pb1,rfl,ok,xe⟩;refine .z .asP<|.z .asI<|.nil<|.ret ⟨.tuple #[.P pb1,.J 0],Res.two rfl rfl rfl,⟨_,rfl,(ok).k1.re (nbI pb1) ⟨d,cc,z,by have h1:=(ok).m0;rwa [Int.zero_ediv] at h1⟩ fun _ x=>x⟩⟩
theorem nagone_any {h:Heap} {d:Nat} {n:List UInt8} {F:Nat->Prop} (ok:Hp h F [dgI d F newN] [] h) (hn:nOk n) :
  Hc 185 #[.P d,.string (BA n)] h (fun v h'=>v=.J 0/\∃F',Hp h F [dgI d F' newN] [] h'):=by
 refine HC.go Tryz.func185 17 ?_;refine .s<|.z .asI<|.nil<|.seq<|.s<|.z .mvP<|.z .mvT<|.c' 8 .func (nremove_any (n:=n) (ok).loc0 hn) ?_;rintro _ U1 ⟨rfl,Fr1,q⟩;have ok:=(ok).lift1 q;refine .z .asI<|.nil<|.s<|.z .mvI<|.z .neq<|.nil<|.ct<|.seq<|.s<|.z .mvI<|.z .eql<|.nil<|.ct<|.s<|.z .asI<|.nil<|.ret ⟨.J 0,Res.one rfl rfl,⟨rfl,_,ok⟩⟩
theorem naclear_any {h:Heap} {p am d z c:Nat} {F:Nat->Prop} (ok:Hp h (starI [boxI p 220 [.J 0,.J 0,.int .u64 0,.map (some am),.bool false,.J 0,.map none,.P d,.J (z:Int),.J 0,.P c,.bool false],dgI d F newN]).F [boxI p 220 [.J 0,.J 0,.int .u64 0,.map (some am),.bool false,.J 0,.map none,.P d,.J (z:Int),.J 0,.P c,.bool false],dgI d F newN] [] h) :
  Hc 142 #[.P p] h (fun v h'=>∃am2 F',v=.J 0/\Hp h (starI [boxI p 220 [.J 0,.J 0,.int .u64 0,.map (some am),.bool false,.J 0,.map none,.P d,.J (z:Int),.J 0,.P c,.bool false],dgI d F newN]).F [boxI p 220 [.J 0,.J 0,.int .u64 0,.map (some am2),.bool false,.J 0,.map none,.P d,.J (z:Int),.J 0,.P c,.bool false],dgI d F' newN] [] h'):=by
 refine HC.go Tryz.func142 23 ?_;refine .s<|.z .asI<|.nil<|.seq<|.s<|.z .mvP<|.z .nil<|.z (.fa T.fd220_2)<|.z (.ldx T.ag102 ok.m0)<|.c' 9 .func (nagone_any (n:=nM) (ok.n1).loc0 nM_ok) ?_;rintro _ U1 ⟨rfl,Fr1,q⟩;have ok:=(ok.n1).lift1 q;refine .z .asI<|.nil<|.s<|.z .mvI<|.z .neq<|.nil<|.cf<|.skip<|.seq<|.s<|.z .mvP<|.z .nil<|.z (.fa T.fd220_2)<|.z (.ldx T.ag102 ok.m1)<|.c' 17 .func (nagone_any (n:=nL) (ok).loc0 nL_ok) ?_;rintro _ U2 ⟨rfl,Fr2,q⟩;have ok:=(ok).lift1 q;refine .z .asI<|.nil<|.s<|.z .mvI<|.z .neq<|.nil<|.cf<|.skip<|.s<|.z .mvP<|.c' 22 .func (fresh_any (ok.n1).loc0) ?_;rintro _ U3 ⟨mf1,rfl,q⟩;have ok:=(ok.n1).lift2 q;refine .nil ?_;refine .s<|.z .asI<|.nil<|.ret ⟨.J 0,Res.one rfl rfl,⟨mf1,_,rfl,(ok.n2.n1).k2⟩⟩
theorem naopened_any {h:Heap} {p am d z c:Nat} {F:Nat->Prop} (ok:Hp h (starI [boxI p 220 [.J 0,.J 0,.int .u64 0,.map (some am),.bool false,.J 0,.map none,.P d,.J (z:Int),.J 0,.P c,.bool false],dgI d F newN]).F [boxI p 220 [.J 0,.J 0,.int .u64 0,.map (some am),.bool false,.J 0,.map none,.P d,.J (z:Int),.J 0,.P c,.bool false],dgI d F newN] [] h) :
  Hc 143 #[.P p] h (fun v h'=>v=.tuple #[.P p,.J 0]/\h'=h):=by
 refine HC.go Tryz.func143 71 ?_;refine .s<|.z .asP<|.z .asI<|.nil<|.s<|.z .mvP<|.z .nil<|.z (.fa T.fd220_2)<|.z (.ldx T.ag102 ok.m0)<|.k 14 .func (nsize_any (n:=nT) (ok.n1).loc0)<|.z .mvU<|.z .ex<|.z .ex<|.z .asI<|.z .asB<|.nil<|.seq<|.s<|.z .mvB<|.z .not<|.z .mvB<|.y<|.y<|.z .pkt<|.nil<|.ct<|.seq<|.s<|.z .mvP<|.z .nil<|.z (.fa T.fd220_2)<|.z (.ldx T.ag102 ok.m0)<|.k 27 .func (ndark_any (ok.n1).loc0)<|.nil<|.cf<|.skip<|.s<|.z .mvP<|.z .asP<|.z .asI<|.nil<|.ret ⟨.tuple #[.P p,.J 0],Res.two rfl rfl rfl,⟨rfl,rfl⟩⟩
theorem nright_any {h:Heap} {z:Nat} (hz:okSz z=true):Hc 136 #[.J (z:Int)] h (fun v h'=>v=.bool true/\h'=h):=by
 have hzc:=okSz_c hz;refine (aright_any (z:=(z:Int)) (by omega)).mono fun v h' q=>?_;rw [show okZ (z:Int)=true from decide_eq_true (by omega)] at q;exact q
theorem naopen_any {h:Heap} {d z:Nat} {room:Int} {F:Nat->Prop} (ok:Hp h F [dgI d F newN] [] h) (hz:okSz z=true) (hr:1<=room/\room<=1024) :
  Hc 96 #[.P d,.J (z:Int),.J room] h (fun v h'=>∃p,v=.tuple #[.P p,.J 0]/\Hp h F [naI p] [] h'):=by
 have hzc:=okSz_c hz;have hpw:=(and_pow z (by omega) (by omega)).2 (by omega);refine HC.go Tryz.func96 57 ?_;refine .s<|.z .asP<|.z .asI<|.nil<|.seq<|.s<|.z .mvP<|.z (.pEqS T.pt102)<|.nil<|.cf<|.skip<|.seq<|.s<|.z .mvI<|.k 16 .func (nright_any hz)<|.z .not<|.nil<|.cf<|.skip<|.s<|.z .mvI<|.c' 20 .func (cnewA_any (room:=room) (fun _=>none)) ?_;rintro _ U1 (⟨hrm,rfl,hx⟩ | ⟨hrm,cc,cF,rfl,hx,hcac,hnw⟩)
 ·
  exact absurd hrm (by omega)
 have ok:=ok.ext hx;refine .z .mvU<|.z .ex<|.z .ex<|.z .asP<|.z .asI<|.nil<|.seq<|.s<|.z .mvI<|.z .neq<|.nil<|.cf<|.skip<|.s<|.z .mvP<|.z .mvI<|.z .mvP<|.z (.bd #[.J 0,.J 0,.int .u64 0,.map none,.bool false,.J 0,.map none,.P d,.J (z:Int),.J 0,.P cc,.bool false] T.zr220 T.pl220 rfl)<|.a' 30 (.bxA (cs:=[.J 0,.J 0,.int .u64 0,.map none,.bool false,.J 0,.map none,.P d,.J (z:Int),.J 0,.P cc,.bool false]) ok) ?_;rintro _ U2 ⟨pb1,rfl,ok,xe⟩;refine .z .asP<|.nil<|.s<|.z .mvP<|.c' 32 .func (fresh_any (ok).loc0) ?_;rintro _ U3 ⟨mf1,rfl,q⟩;have ok:=(ok).lift2 q;refine .nil ?_;refine .seq<|.s<|.z .mvP<|.k 34 .func (ndark_any (ok.n2).loc0)<|.nil<|.cf<|.skip<|.seq<|.s<|.z .mvP<|.k 37 .func (nsize_any (n:=nM) (ok.n2).loc0)<|.z .mvU<|.z .ex<|.z .ex<|.z .asI<|.z .asB<|.nil<|.s<|.z .mvB<|.z .mvB<|.y<|.y<|.z .pkf<|.nil<|.cf<|.r<|.z .mvP<|.c' 49 .func (naclear_any (c:=cc) (Hp.lc2 (ok.n2.n1))) ?_;rintro _ U4 ⟨amc1,Fc1,rfl,q⟩;have ok:=Hp.lf2 (ok.n2.n1) q;refine .z .asI<|.nil<|.seq<|.s<|.z .mvI<|.z .neq<|.nil<|.cf<|.skip<|.s<|.z .mvP<|.k 54 .func (naopened_any (c:=cc) (Hp.lc2 (ok)))<|.z .ex<|.z .ex<|.z .asP<|.z .asI<|.nil<|.ret ⟨.tuple #[.P pb1,.J 0],Res.two rfl rfl rfl,⟨_,rfl,(ok).k1.re (naI pb1) ⟨_,d,cc,z,(ok).m0⟩ fun _ x=>x⟩⟩
theorem nbPages_any {h:Heap} {p:Nat} (hp:(nbI p).p h):Hc 346 #[pv p] h (fun v h'=>v=.J 0/\h'=h):=by
 obtain ⟨d,c,z,hb⟩:=hp;exact bPages_any (r:=⟨false,0,0,false,0,none,[],0,d,⟨0,[],false,0,0⟩,z,c,0,0,false⟩) hb
theorem naPages_any {h:Heap} {p:Nat} (hp:(naI p).p h):Hc 318 #[pv p] h (fun v h'=>v=.J 0/\h'=h):=by
 obtain ⟨am,d,c,z,hb⟩:=hp;exact aPages_any (r:=⟨0,0,0,am,[],false,0,none,[],d,⟨0,[],false,0,0⟩,z,0,c,none_,fun _=>none,false⟩) hb
def nbG:Pgr where
 α:=Unit
 it p _ _:=nbI p
 sure _:=[]
 tid:=170
 fPages:=346
 fRead:=347
 mPages p w:=by kernel_rfl
 mRead p w:=by kernel_rfl
 cPages:=nbPages_any
 cRead _ _ h:=by cases h
def naG:Pgr where
 α:=Unit
 it p _ _:=naI p
 sure _:=[]
 tid:=133
 fPages:=318
 fRead:=319
 mPages p w:=by kernel_rfl
 mRead p w:=by kernel_rfl
 cPages:=naPages_any
 cRead _ _ h:=by cases h
open Go Go.HL
section
variable {z d:Nat} {h:Heap} {F:Nat->Prop} {room:Int}
def nG:Bool->Pgr
 | true=>naG
 | false=>nbG
def newS (z:Nat):St:=⟨z,[],false,[],[]⟩
theorem newS_ok (hz:okSz z=true):StOk (newS z):=⟨hz,.nil,.nil,by simp [newS],by simp [newS],fun _=>⟨rfl,rfl⟩⟩
theorem ds_new {G:Pgr} {h':Heap} {pF:Nat->Prop} {s p:Nat} {lg:Option Addr} {a:G.α} (ha:G.sure a=[]) (hz:okSz z=true) (ok:Hp h F [boxI s 136 [.iface G.tid (pv p),.pointer lg,.J (z:Int),.bool false,.J 0,.map none,.N,.bool false],G.it p pF a] [] h'):∃F',Hp h F [dsI G s F' (newS z)] [] h':=by
 have o:=(((ok.nowNil (bs:=[])).nilC (k:=2) (e:=130)).dE (svsI none_ []) (fun x h=>by cases h) (fun _ f=>f)).dE (pbsI none_ []) Pbs.nil (fun _ f=>f);have V:SVw G (⟨p,lg,z,false,0,none,[],none,0,[],pF,a⟩:RS G.α) (newS z):=⟨rfl,rfl,ha,fun h=>(by cases h),fun _=>⟨rfl,rfl,rfl,rfl⟩,All2.nil,newS_ok hz⟩;exact ⟨_,ds_close (F:=F) (D:=F) (h:=h) (r':=(⟨p,lg,z,false,0,none,[],none,0,[],pF,a⟩:RS G.α)) (E':=none_) (M:=[]) (R:=[]) (o.n2.n2.n1) (fun _ h=>h) (fun _ f=>f.elim) V⟩
theorem sopnB_any (ok:Hp h F [dgI d F newN] [] h) (hz:okSz z=true) (hr:1<=room/\room<=1024) :
  Hc 49 #[.P d,.agg #[.J (z:Int),.bool false,.J room]] h (fun v h'=>∃s,v=.tuple #[.P s,.J 0]/\∃F',Hp h F [dsI nbG s F' (newS z)] [] h'):=by
 have hzc:=okSz_c hz;have hpw:=(and_pow z (by omega) (by omega)).2 (by omega);refine HC.go Tryz.func49 80 ?_;refine .s<|.a' 3 (.bxA (cs:=[.J (z:Int),.bool false,.J room]) ok) ?_;rintro _ U1 ⟨pb1,rfl,ok,xe⟩;refine .z .asP<|.z .asI<|.nil<|.seq<|.block fun K0 hK0=>.s<|.z .mvP<|.z (.pEqS T.pt102)<|.z .asB<|.nil<|.cf<|.s<|.z (.fa T.fd105_0)<|.z (.ldx T.ag3 ok.m0)<|.z .lss<|.z .mvB<|.sd (fun G17=>?_) (fun G17=>?_)
 ·
  omega
 refine .z (.fa T.fd105_0)<|.z (.ldx T.ag3 ok.m0)<|.z .gtr<|.z .pkf<|.z .mvB<|.sd (fun G22=>?_) (fun G22=>?_)
 ·
  omega
 refine .z (.fa T.fd105_0)<|.z (.ldx T.ag3 ok.m0)<|.z (.fa T.fd105_0)<|.z (.ldx T.ag3 ok.m0)<|.z .sub<|.z (.bandI z (z-1))<|.z .neq<|.z .pkf<|.z .mvB<|.sd (fun G31=>?_) (fun G31=>?_)
 ·
  omega
 refine .z (.fa T.fd105_2)<|.z (.ldx T.ag3 ok.m0)<|.z .lss<|.z .pkf<|.z .mvB<|.sd (fun G36=>?_) (fun G36=>?_)
 ·
  omega
 refine .z (.fa T.fd105_2)<|.z (.ldx T.ag3 ok.m0)<|.z .gtr<|.z .pkf<|.z .asB<|.nil<|.cd (fun C1=>?_) (fun C1=>?_)
 ·
  omega
 refine .skip<|.end<|hK0 _ _<|.seq<|.s<|.z (.fa T.fd105_1)<|.z (.ldx T.ag4 ok.m0)<|.nil<|.cf<|.skip<|.s<|.z .mvP<|.z (.fa T.fd105_0)<|.z (.ldx T.ag3 ok.m0)<|.z (.fa T.fd105_2)<|.z (.ldx T.ag3 ok.m0)<|.c' 68 .func (nbopen_any (ok.n1).loc0 hz hr) ?_;rintro _ U2 ⟨pp,rfl,q⟩;have ok:=(ok.n1).lift1 q;refine .z .mvU<|.z .ex<|.z .ex<|.z .asP<|.z .asI<|.nil<|.seq<|.s<|.z .mvI<|.z .neq<|.nil<|.cf<|.skip<|.s<|.z .mvP<|.z (.mkI (by kernel_rfl))<|.z (.fa T.fd105_0)<|.z (.ldx T.ag3 ok.m1)<|.z (.bd #[.iface (170) (.P pp),.pointer none,.J (z:Int),.bool false,.J 0,.map none,.N,.bool false] T.zr136 T.pl136 rfl)<|.a' 79 (.bxA (cs:=[.iface (170) (.P pp),.pointer none,.J (z:Int),.bool false,.J 0,.map none,.N,.bool false]) ok) ?_;rintro _ U3 ⟨pb2,rfl,ok,xe⟩;refine .z .asP<|.z .asI<|.nil<|.ret ⟨.tuple #[.P pb2,.J 0],Res.two rfl rfl rfl,⟨pb2,rfl,ds_new (G:=nbG) (a:=()) (pF:=none_) rfl hz (ok).k2⟩⟩
theorem sopnA_any (ok:Hp h F [dgI d F newN] [] h) (hz:okSz z=true) (hr:1<=room/\room<=1024) :
  Hc 49 #[.P d,.agg #[.J (z:Int),.bool true,.J room]] h (fun v h'=>∃s,v=.tuple #[.P s,.J 0]/\∃F',Hp h F [dsI naG s F' (newS z)] [] h'):=by
 have hzc:=okSz_c hz;have hpw:=(and_pow z (by omega) (by omega)).2 (by omega);refine HC.go Tryz.func49 80 ?_;refine .s<|.a' 3 (.bxA (cs:=[.J (z:Int),.bool true,.J room]) ok) ?_;rintro _ U1 ⟨pb1,rfl,ok,xe⟩;refine .z .asP<|.z .asI<|.nil<|.seq<|.block fun K0 hK0=>.s<|.z .mvP<|.z (.pEqS T.pt102)<|.z .asB<|.nil<|.cf<|.s<|.z (.fa T.fd105_0)<|.z (.ldx T.ag3 ok.m0)<|.z .lss<|.z .mvB<|.sd (fun G17=>?_) (fun G17=>?_)
 ·
  omega
 refine .z (.fa T.fd105_0)<|.z (.ldx T.ag3 ok.m0)<|.z .gtr<|.z .pkf<|.z .mvB<|.sd (fun G22=>?_) (fun G22=>?_)
 ·
  omega
 refine .z (.fa T.fd105_0)<|.z (.ldx T.ag3 ok.m0)<|.z (.fa T.fd105_0)<|.z (.ldx T.ag3 ok.m0)<|.z .sub<|.z (.bandI z (z-1))<|.z .neq<|.z .pkf<|.z .mvB<|.sd (fun G31=>?_) (fun G31=>?_)
 ·
  omega
 refine .z (.fa T.fd105_2)<|.z (.ldx T.ag3 ok.m0)<|.z .lss<|.z .pkf<|.z .mvB<|.sd (fun G36=>?_) (fun G36=>?_)
 ·
  omega
 refine .z (.fa T.fd105_2)<|.z (.ldx T.ag3 ok.m0)<|.z .gtr<|.z .pkf<|.z .asB<|.nil<|.cd (fun C1=>?_) (fun C1=>?_)
 ·
  omega
 refine .skip<|.end<|hK0 _ _<|.seq<|.s<|.z (.fa T.fd105_1)<|.z (.ldx T.ag4 ok.m0)<|.nil<|.ct<|.s<|.z .mvP<|.z (.fa T.fd105_0)<|.z (.ldx T.ag3 ok.m0)<|.z (.fa T.fd105_2)<|.z (.ldx T.ag3 ok.m0)<|.c' 49 .func (naopen_any (ok.n1).loc0 hz hr) ?_;rintro _ U2 ⟨pp,rfl,q⟩;have ok:=(ok.n1).lift1 q;refine .z .mvU<|.z .ex<|.z .ex<|.z .asP<|.z .asI<|.nil<|.seq<|.s<|.z .mvI<|.z .neq<|.nil<|.cf<|.skip<|.s<|.z .mvP<|.z (.mkI (by kernel_rfl))<|.z .mvP<|.z (.fa T.fd105_0)<|.z (.ldx T.ag3 ok.m1)<|.z (.bd #[.iface (133) (.P pp),.P pp,.J (z:Int),.bool false,.J 0,.map none,.N,.bool false] T.zr136 T.pl136 rfl)<|.a' 61 (.bxA (cs:=[.iface (133) (.P pp),.P pp,.J (z:Int),.bool false,.J 0,.map none,.N,.bool false]) ok) ?_;rintro _ U3 ⟨pb2,rfl,ok,xe⟩;refine .z .asP<|.z .asI<|.nil<|.ret ⟨.tuple #[.P pb2,.J 0],Res.two rfl rfl rfl,⟨pb2,rfl,ds_new (G:=naG) (a:=()) (pF:=none_) rfl hz (ok).k2⟩⟩
theorem sopn_any {ah:Bool} (ok:Hp h F [dgI d F newN] [] h) (hz:okSz z=true) (hr:1<=room/\room<=1024) :
  Hc 49 #[.P d,.agg #[.J (z:Int),.bool ah,.J room]] h (fun v h'=>∃s,v=.tuple #[.P s,.J 0]/\∃F',Hp h F [dsI (nG ah) s F' (newS z)] [] h'):=by
 cases ah
 ·exact sopnB_any ok hz hr
 ·exact sopnA_any ok hz hr
end
open Go Go.HL
def lcg (x:Nat):Nat:=(x*1664525+1013904223)%4294967296
def lcgs (x:Nat):Nat->Nat
 | 0=>x
 | i+1=>lcg (lcgs x i)
def byteG (x:Nat):UInt8:=UInt8.ofNat (x / 16777216)
def pageG (z seed:Nat):List UInt8:=(List.range z).map fun i=>byteG (lcgs (seed+1) (i+1))
theorem pageG_len {z seed:Nat} : (pageG z seed).length=z:=by simp [pageG]
section
variable {N i:Nat} {a:List Int} {k:Int} {b:List UInt8}
abbrev Trk:=List (Int × List Int)
def flatT (T:Trk):List Int:=T.flatMap fun t=>t.1::t.2
def frT:Trk->Int
 | []=>0
 | t::_=>t.1
def pageAt (P:List (List UInt8)) (k:Int):List UInt8:=P.getD (k-1).toNat []
def Tr (P:List (List UInt8)) (rm:Nat):Int->Trk->Prop
 | a,[]=>a=0
 | a,t::T=>a=t.1/\t.2.length<=rm/\frNums (pageAt P a)=t.2/\Tr P rm ((rdN (pageAt P a) 0 4:Nat):Int) T
section
variable {l:List UInt8} {p q n:Nat}
theorem rd_put_eq (h:p+4<=l.length) (hn:n<4294967296):rdN (put4 l p n) p 4=n:=by
 have h1:put4 l p n=l.take p++(fixedN n 4++l.drop (p+4)):=by unfold put4;rw [qZ]
 have h2:(l.take p).length=p:=by rw [qJ];omega
 rw [h1];have h3:=rdN_app (x:=l.take p) (y:=fixedN n 4) (z:=l.drop (p+4)) (k:=4) (fixedN_len _ _);rw [h2] at h3;rw [h3,beN_fixed (by simpa using hn)]
theorem rd_put_hi (h:p+4<=l.length) (hq:p+4<=q):rdN (put4 l p n) q 4=rdN l q 4:=by
 have h2:(l.take p++fixedN n 4).length=p+4:=by rw [qA,qJ,fixedN_len];omega
 have h3:(put4 l p n).drop q=l.drop q:=by
  unfold put4;rw [List.drop_append,h2,qN (by omega),kI,List.drop_drop];congr 1;omega
 unfold rdN;rw [h3]
theorem rd_put_lo (h:p+4<=l.length) (hq:q+4<=p):rdN (put4 l p n) q 4=rdN l q 4:=by
 have h2:(l.take p).length=p:=by rw [qJ];omega
 have h3:((put4 l p n).drop q).take 4=(l.drop q).take 4:=by
  unfold put4;rw [qZ,List.drop_append,h2,kG (by rw [qH,h2];omega),List.drop_take,List.take_take,Nat.min_eq_left (by omega)]
 unfold rdN;rw [h3]
theorem nums_snoc {k:Nat} (hl:8+4*rdN l 4 4+4<=l.length) (hz:l.length<=1000000) (hk:k<4294967296):frNums (put4 (put4 l (8+4*rdN l 4 4) k) 4 (rdN l 4 4+1))=frNums l++[(k:Int)]:=by
 generalize hm:rdN l 4 4=m at hl⊢;have hl1:(put4 l (8+4*m) k).length=l.length:=put4_len hl;have h4:rdN (put4 (put4 l (8+4*m) k) 4 (m+1)) 4 4=m+1:=rd_put_eq (by omega) (by omega);unfold frNums;rw [h4,hm,List.range_succ,kJ];congr 1
 ·refine List.map_congr_left fun i hi=>?_;have:=List.mem_range.1 hi;rw [rd_put_hi (by omega) (by omega),rd_put_lo hl (by omega)]
 ·simp only [kE,List.map_nil];rw [rd_put_hi (by omega) (by omega),rd_put_eq hl hk]
theorem nums_drop {m:Nat} (hm:rdN l 4 4=m+1) (hl:8+4*m+4<=l.length) (hz:l.length<=1000000):frNums (put4 (put4 l (8+4*m) 0) 4 m)=(frNums l).dropLast/\(frNums l).getLast? = some ((rdN l (8+4*m) 4:Nat):Int):=by
 have hl1:(put4 l (8+4*m) 0).length=l.length:=put4_len hl;have h4:rdN (put4 (put4 l (8+4*m) 0) 4 m) 4 4=m:=rd_put_eq (by omega) (by omega);constructor
 ·unfold frNums;rw [h4,hm,List.range_succ,kJ,kE,List.map_nil,List.dropLast_concat];refine List.map_congr_left fun i hi=>?_;have:=List.mem_range.1 hi;rw [rd_put_hi (by omega) (by omega),rd_put_lo hl (by omega)]
 ·unfold frNums;rw [hm,List.range_succ,kJ,kE,List.map_nil,List.getLast?_concat]
theorem next_put {k m:Nat} (hm:8<=k) (hl:k+4<=l.length):rdN (put4 (put4 l k n) 4 m) 0 4=rdN l 0 4:=by
 rw [rd_put_lo (by rw [put4_len hl];omega) (by omega),rd_put_lo hl (by omega)]
theorem zer_rd {z p:Nat} : rdN (zer z) p 4=0:=by
 unfold rdN zer;rw [List.drop_replicate,List.take_replicate];generalize min 4 (z-p)=k;induction k with
 | zero=>rfl
 | succ k ih=>rw [List.replicate_succ',beN_snoc,ih];rfl
theorem nums_new {z:Nat} (hz:12<=z):frNums (put4 (zer z) 0 n)=[]/\(n<4294967296->rdN (put4 (zer z) 0 n) 0 4=n):=by
 have hl:=zer_len (z:=z);refine ⟨?_,fun h=>rd_put_eq (by omega) h⟩;unfold frNums;rw [rd_put_hi (by omega) (by omega),zer_rd];rfl
end
theorem flatT_cons {t:Int × List Int} {T:Trk} : flatT (t::T)=t.1::(t.2++flatT T):=by unfold flatT;rw [List.flatMap_cons];rfl
theorem Met.left {b:List Int} (m:Met N (a++b)):Met N a:=⟨(kT.1 m.nd).1,fun k hk=>m.rg k (qU _ hk)⟩
theorem Met.perm {b:List Int} (m:Met N a) (p:b.Perm a):Met N b:=⟨p.nodup_iff.2 m.nd,fun k hk=>m.rg k (p.mem_iff.1 hk)⟩
theorem Met.grow {M:Nat} (m:Met N a) (h:N<=M):Met M a:=⟨m.nd,fun k hk=>by have:=m.rg k hk;omega⟩
theorem Met.ok (m:Met N (a++[k])):frOk N a k=true:=by
 have h1:=m.rg k (by simp);have h2:=(kT.1 m.nd).2.2;exact decide_eq_true ⟨h1.1,h1.2,fun h=>h2 k h k (by simp) rfl⟩
theorem Met.cons {N:Nat} {a:List Int} {k:Int} (m:Met N a) (h1:2<=k) (h2:k<=(N:Int)) (h3:k∉a):Met N (k::a):=⟨List.nodup_cons.2 ⟨h3,m.nd⟩,fun j hj=>by
 rcases qK.1 hj with rfl | hj
 ·exact ⟨h1,h2⟩
 ·exact m.rg j hj⟩
theorem Met.tail (m:Met N (k::a)):Met N a:=⟨(List.nodup_cons.1 m.nd).2,fun j hj=>m.rg j (qQ _ hj)⟩
theorem Met.lt (m:Met N a) (h:1<=N):a.length<N:=by
 have h3:(0::1::a.map Int.toNat).length<=(List.range (N+1)).length:=by
  refine List.Nodup.length_le_of_subset (List.nodup_cons.2 ⟨fun hk=>?_,List.nodup_cons.2 ⟨fun hk=>?_,?_⟩⟩) fun k hk=>?_
  ·rcases qK.1 hk with hk | hk
   ·omega
   ·obtain ⟨x,hx,e⟩:=kS.1 hk;have:=m.rg x hx;omega
  ·obtain ⟨x,hx,e⟩:=kS.1 hk;have:=m.rg x hx;omega
  ·unfold List.Nodup;rw [List.pairwise_map];exact List.Pairwise.imp_of_mem (fun ha hb h e=>h (by have:=m.rg _ ha;have:=m.rg _ hb;omega)) m.nd
  ·rw [List.mem_range];rcases qK.1 hk with rfl | hk
   ·omega
   rcases qK.1 hk with rfl | hk
   ·omega
   ·obtain ⟨x,hx,rfl⟩:=kS.1 hk;have:=m.rg x hx;omega
 rw [qV,qV,qM,List.length_range] at h3;omega
theorem frIn_all {N:Nat} : ∀ {r out:List Int},Met N (out++r)->frIn N r out=some (out++r)
 | [],out,_=>by rw [frIn_nil,kX]
 | k::r,out,m=>by
  have h:Met N ((out++[k])++r):=by simpa using m
  rw [frIn_ok h.left.ok,frIn_all h];simp
theorem frGo_all {P:List (List UInt8)} {rm:Nat} : ∀(f:Nat) (T:Trk) (a:Int) (out:List Int),T.length<f->Tr P rm a T->Met P.length (out++flatT T)->frGo P rm f a out=some (out++flatT T)
 | 0,_,_,_,h,_,_=>absurd h (Nat.not_lt_zero _)
 | f+1,[],a,out,_,tr,_=>by rw [show a=0 from tr,frGo_0];simp [flatT]
 | f+1,t::T,a,out,h,tr,m=>by
  obtain ⟨rfl,h2,h3,h4⟩:=tr;have m1:Met P.length ((out++[t.1])++(t.2++flatT T)):=by simpa [flatT_cons] using m
  have m2:Met P.length (((out++[t.1])++t.2)++flatT T):=by simpa using m1
  have hok:=m1.left.ok;have h0:t.1≠0:=by have:=m1.left.rg t.1 (by simp);omega
  have hn:frNums (P.getD (t.1-1).toNat [])=t.2:=h3;have hr:¬rm<rdN (P.getD (t.1-1).toNat []) 4 4:=by have:=frNums_len (l:=P.getD (t.1-1).toNat []);rw [hn] at this;omega
  rw [frGo_in h0 hok hr,hn,frIn_all m2.left,Option.bind_some];have:=frGo_all f T _ _ (by simp at h;omega) h4 m2;rw [show frGo P rm f ((rdN (P.getD (t.1-1).toNat []) 0 4:Nat):Int) (out++[t.1]++t.2)=some (out++[t.1]++t.2++flatT T) from this,flatT_cons];simp
theorem Tr.congr {P Q:List (List UInt8)} {rm:Nat} : ∀ {T:Trk} {a:Int},(∀t∈T,pageAt Q t.1=pageAt P t.1)->Tr P rm a T->Tr Q rm a T
 | [],_,_,h=>h
 | t::T,a,hc,h=>by
  obtain ⟨rfl,h2,h3,h4⟩:=h;have h5:=hc t (by simp);exact ⟨rfl,h2,by rw [h5];exact h3,by rw [h5];exact Tr.congr (fun u hu=>hc u (by simp [hu])) h4⟩
theorem Tr.hd {P:List (List UInt8)} {rm:Nat} {a:Int} {T:Trk} (h:Tr P rm a T):a=frT T:=by
 cases T with
 | nil=>exact h
 | cons t T=>exact h.1
theorem mem_flat {T:Trk} {t:Int × List Int} (h:t∈T):t.1∈flatT T:=List.mem_flatMap.2 ⟨t,h,by simp⟩
theorem len_flat {T:Trk} : T.length<=(flatT T).length:=by
 induction T with
 | nil=>simp
 | cons t T ih=>rw [flatT_cons];simp;omega
structure FrS (w:St) (T:Trk):Prop where
 z:okSz w.z=true
 len:∀b∈w.now,b.length=w.z
 mul:w.now.length*w.z<=16777216
 i:w.in_=true
 n:w.now≠[]
 hd:w.head=⟨(w.z:Int),(w.now.length:Int),frT T,((flatT T).length:Int),0,0⟩
 tr:Tr w.now ((w.z-8) / 4) (frT T) T
 mt:Met w.now.length (flatT T)
section
variable {w:St} {T:Trk} (f:FrS w T)
include f
theorem FrS.pgs:w.pgs=w.now:=if_pos f.i
theorem FrS.zc:w.z=256\/w.z=512\/w.z=1024\/w.z=2048\/w.z=4096:=okSz_c f.z
theorem FrS.n1:1<=w.now.length:=by have:=f.n;cases h:w.now with | nil=>exact absurd h this | cons _ _=>simp
theorem FrS.few:w.now.length<=65536:=by
 have h1:=f.zc;have h2:=f.mul;rcases h1 with h | h | h | h | h<;>rw [h] at h2<;>omega
theorem FrS.all:frAll w=some (flatT T):=by
 unfold frAll;rw [f.pgs,f.hd];have h1:=f.mt.len;have:=frGo_all (w.now.length+1) T (frT T) [] (by have:=len_flat (T:=T);omega) f.tr (by simpa using f.mt);simp only [this,kI,Option.bind_some,if_true]
theorem FrS.op:frOp w=(flatT T,0):=by
 have h:=f.all;unfold frOp frL frC;rw [if_neg (by rw [f.i];decide),if_neg (by rw [f.pgs];have:=f.n1;omega),h];rfl
theorem FrS.head' {P:List (List UInt8)} (h1:P.headD []=w.now.headD []) (h3:P≠[]):St.head { w with now:=P } = ⟨(w.z:Int),(P.length:Int),frT T,((flatT T).length:Int),0,0⟩:=by
 have e1:St.pgs { w with now:=P } = P:=if_pos f.i;have e2:=f.hd;unfold St.head at e2⊢;rw [e1,if_neg h3,h1];rw [f.pgs,if_neg f.n] at e2;injection e2 with _ _ e3 e4 e5 e6;show Hd.mk _ _ _ _ _ _=_;rw [e3,e4,e5,e6]
end
theorem pageAt_set {P:List (List UInt8)} (h:1<=k) (h2:k≠(i:Int)+1):pageAt (P.set i b) k=pageAt P k:=by
 unfold pageAt;rw [List.getD_eq_getElem?_getD,List.getD_eq_getElem?_getD,List.getElem?_set_ne (by omega)]
theorem pageAt_eq {P:List (List UInt8)} (h:k=(i:Int)+1) (hi:i<P.length):pageAt (P.set i b) k=b:=by
 unfold pageAt;rw [List.getD_eq_getElem?_getD,show (k-1).toNat=i by omega,List.getElem?_set_self hi];rfl
theorem frT_in {N:Nat} {T:Trk} (m:Met N (flatT T)) (h:T≠[]):2<=frT T/\frT T<=(N:Int):=by
 cases T with
 | nil=>exact absurd rfl h
 | cons t T=>exact m.rg t.1 (by rw [flatT_cons];simp)
theorem frT_nat {N:Nat} {T:Trk} (m:Met N (flatT T)):0<=frT T:=by
 cases T with
 | nil=>exact Int.le_refl 0
 | cons t T=>have:=frT_in m (by simp);omega
def hdF' (w:St) (P:List (List UInt8)) (T:Trk):Hd:=⟨(w.z:Int),(P.length:Int),frT T,((flatT T).length:Int),0,0⟩
theorem flat_nil {T:Trk} : flatT T=[]↔T=[]:=by
 cases T with
 | nil=>simp [flatT]
 | cons t T=>simp [flatT_cons]
section
variable {w:St} {T T':Trk} {P:List (List UInt8)} (f:FrS w T)
include f
theorem FrS.next (h1:P.headD []=w.now.headD []) (h2:∀b∈P,b.length=w.z) (h3:P≠[]) (h4:P.length*w.z<=16777216) (tr:Tr P ((w.z-8) / 4) (frT T') T') (mt:Met P.length (flatT T')) :
  hdd { w with now:=P } (frT T') ((flatT T').length:Int)=({ w with now:=P.set 0 (pg1 w.z (hdF' w P T')) },0)/\FrS { w with now:=P.set 0 (pg1 w.z (hdF' w P T')) } T':=by
 have hP:1<=P.length:=by cases P with | nil=>exact absurd rfl h3 | cons _ _=>simp
 have hlt:=mt.lt hP;have hzc:=f.zc;have hfew:P.length<=65536:=by rcases hzc with h | h | h | h | h<;>rw [h] at h4<;>omega
 have hc:ChkP (hdF' w P T'):=by
  refine ⟨decide_eq_true (by show (w.z:Int)=256\/(w.z:Int)=512\/(w.z:Int)=1024\/(w.z:Int)=2048\/(w.z:Int)=4096;omega),⟨by show (1:Int)<=(P.length:Int);omega,by show (P.length:Int)<=1048576;omega,by show (w.z:Int)*(P.length:Int)<=16777216;rw [Int.mul_comm,<-Int.natCast_mul];omega⟩,⟨by show (0:Int)<=((flatT T').length:Int);omega,by show ((flatT T').length:Int)<(P.length:Int);omega,fun h=>?_,fun h=>?_⟩,⟨by show (0:Int)<=0;omega,by show (0:Int)<=2147483647;omega⟩,by show (0:Int)<=0;omega,by show (0:Int)<=2147483647;omega⟩
  ·have h0:(flatT T').length=0:=by have:((flatT T').length:Int)=0:=h;omega
   have:=flat_nil.1 (qW h0);subst this;rfl
  ·refine frT_in mt fun e=>?_;subst e;exact absurd (show (0:Int)<((flatT []).length:Int) from h) (by decide)
 have hh:=f.head' h1 h3;have hw:hdd { w with now:=P } (frT T') ((flatT T').length:Int)=({ w with now:=P.set 0 (pg1 w.z (hdF' w P T')) },0):=by
  unfold hdd;rw [hh];have h5:=St.setHead_0 (w:={ w with now:=P }) (H:=hdF' w P T') (n:=P.length) f.i (by rintro (h | h | h);exact h hc;exact h rfl;exact absurd h (by show ¬(max 1 (P.length:Int)<(P.length:Int));omega)) rfl;refine h5.trans ?_;show (({ w with now:=(wth P 1 (pg1 w.z (hdF' w P T'))).take P.length } : St),0)=_;have e:(wth P 1 (pg1 w.z (hdF' w P T'))).take P.length=P.set 0 (pg1 w.z (hdF' w P T')):=by
   unfold wth;rw [if_neg (by omega),qY (by simp)]
  rw [e]
 refine ⟨hw,f.z,fun b hb=>?_,by simpa using h4,f.i,by simp [h3],?_,?_,by simpa using mt⟩
 ·rcases List.mem_or_eq_of_mem_set hb with hb | hb
  ·exact h2 b hb
  ·rw [hb];exact pg1_len f.z
 ·have e1:St.pgs { w with now:=P.set 0 (pg1 w.z (hdF' w P T')) } = P.set 0 (pg1 w.z (hdF' w P T')):=if_pos f.i;unfold St.head;rw [e1,if_neg (by simp [h3])];have e2:(P.set 0 (pg1 w.z (hdF' w P T'))).headD []=pg1 w.z (hdF' w P T'):=by
   cases P with
   | nil=>exact absurd rfl h3
   | cons a P=>rfl
  rw [e2];unfold pg1;rw [dec_enc hc];show Hd.mk _ _ _ _ _ _=Hd.mk _ _ _ _ _ _;simp [hdF']
 ·refine Tr.congr (fun t ht=>?_) tr;have:=mt.rg t.1 (mem_flat ht);exact pageAt_set (by omega) (by omega)
theorem FrS.wr (h1:2<=k) (h2:k<=(w.now.length:Int)) (hb:b.length=w.z):w.write k b=({ w with now:=w.now.set (k-1).toNat b },0):=by
 obtain ⟨n,rfl⟩:∃n:Nat,k=(n:Int):=⟨k.toNat,by omega⟩;have hm:=f.mul;have hfew:=f.few;have hmz:(n:Int)*(w.z:Int)<=16777216:=by
  have:n*w.z<=w.now.length*w.z:=qE _ (by omega);rw [<-Int.natCast_mul];omega
 rw [St.write_0 f.i (by rintro (h | h | h | h);omega;omega;exact f.n h;exact h hb) (by rintro (h | h)<;>omega)];unfold wth;rw [if_neg (by omega),show ((n:Int)-1).toNat=n-1 by omega]
end
structure Kp (w w':St) (B:Int->Prop):Prop where
 z:w'.z=w.z
 su:w'.sure=w.sure
 i:w'.in_=w.in_
 sv:w'.saves=w.saves
 pg:∀k,2<=k->¬B k->pageAt w'.now k=pageAt w.now k
def upP (w:St) (P:List (List UInt8)) (T:Trk):St:={ w with now:=P.set 0 (pg1 w.z (hdF' w P T)) }
theorem upP_len {w:St} {P:List (List UInt8)} {T:Trk} : (upP w P T).now.length=P.length:=List.length_set ..
theorem upP_at {w:St} {P:List (List UInt8)} {T:Trk} (h:2<=k):pageAt (upP w P T).now k=pageAt P k:=pageAt_set (by omega) (by omega)
theorem set_head {P:List (List UInt8)} {i:Nat} {b:List UInt8} (h:1<=i):(P.set i b).headD []=P.headD []:=by
 cases P with
 | nil=>rfl
 | cons a P=>cases i with
  | zero=>omega
  | succ i=>rfl
theorem set_len {P:List (List UInt8)} {z:Nat} (h:∀x∈P,x.length=z) (hb:b.length=z):∀x∈P.set i b,x.length=z:=fun x hx=>(List.mem_or_eq_of_mem_set hx).elim (h x) fun e=>e▸hb
theorem mt_ne {T:Trk} {t u:Int × List Int} (m:Met N (flatT (t::T))) (h:u∈T):u.1≠t.1/\u.1∉t.2:=by
 rw [flatT_cons] at m;have h1:=mem_flat h;have h2:=List.nodup_cons.1 m.nd;exact ⟨fun e=>h2.1 (by rw [<-e];exact qI _ h1),fun e=>(kT.1 h2.2).2.2 _ e _ h1 rfl⟩
section
variable {w:St} {T:Trk} {no:Int}
theorem FrS.give_ (f:FrS w T) (h1:2<=no) (h2:no<=(w.now.length:Int)):¬(w.in_=true/\0<w.pgs.length/\(no<2\/(w.pgs.length:Int)<no)):=by
 rw [f.pgs];rintro ⟨_,_,h | h⟩<;>omega
theorem FrS.give_b (f:FrS w T) (h1:2<=no) (h2:no<=(w.now.length:Int)) (h3:no∉flatT T) (h4:¬(frT T≠0/\tkN w<(w.z-8) / 4)) :
  giveF w no=(upP w (w.now.set (no-1).toNat (put4 (zer w.z) 0 (frT T).toNat)) ((no,[])::T),0)/\FrS (upP w (w.now.set (no-1).toNat (put4 (zer w.z) 0 (frT T).toNat)) ((no,[])::T)) ((no,[])::T):=by
 have hzc:=f.zc;have hpl:(put4 (zer w.z) 0 (frT T).toNat).length=w.z:=by rw [put4_len (by rw [zer_len];omega),zer_len]
 have hfr:=frT_nat f.mt;have hfl:frT T<4294967296:=by
  by_cases hT:T=[]
  ·subst hT;decide
  ·have:=(frT_in f.mt hT).2;have:=f.few;omega
 obtain ⟨hn1,hn2⟩:=nums_new (n:=(frT T).toNat) (z:=w.z) (by omega);have hn:=f.next (P:=w.now.set (no-1).toNat (put4 (zer w.z) 0 (frT T).toNat)) (T':=(no,[])::T) (set_head (by omega)) (set_len f.len hpl) (by simp [f.n]) (by simpa using f.mul) (by
  refine ⟨rfl,qL _,?_,?_⟩
  ·show frNums (pageAt _ no)=[];rw [pageAt_eq (by omega) (by omega)];exact hn1
  ·show Tr _ _ ((rdN (pageAt _ no) 0 4:Nat):Int) T;rw [pageAt_eq (by omega) (by omega),hn2 (by omega),show (((frT T).toNat:Nat):Int)=frT T by omega];refine Tr.congr (fun t ht=>?_) f.tr;have h5:=f.mt.rg t.1 (mem_flat ht);have h6:t.1≠no:=fun e=>h3 (e▸mem_flat ht);exact pageAt_set (by omega) (by omega)) (by
  rw [flatT_cons,List.length_set];exact f.mt.cons h1 h2 h3)
 refine ⟨?_,hn.2⟩;rw [giveF_b (f.give_ h1 h2) (by rw [f.op]) (by rw [f.op];exact h3) (by rw [f.hd];exact h4)];have hw:gvB w no=({ w with now:=w.now.set (no-1).toNat (put4 (zer w.z) 0 (frT T).toNat) },0):=by
  unfold gvB;rw [f.hd];exact f.wr h1 h2 hpl
 rw [thenH_0 (by rw [hw]),hw,f.hd];have e:((flatT T).length:Int)+1=((flatT ((no,[])::T)).length:Int):=by rw [flatT_cons];simp
 show hdd _ no (((flatT T).length:Int)+1)=_;rw [e];exact hn.1
theorem FrS.tk {t:Int × List Int} {T:Trk} (f:FrS w (t::T)):tkA w=pageAt w.now t.1/\tkN w=t.2.length/\(tkA w).length=w.z/\2<=t.1/\t.1<=(w.now.length:Int)/\8+4*((w.z-8) / 4)<=w.z:=by
 have h1:tkA w=pageAt w.now t.1:=by unfold tkA;rw [f.hd,f.pgs];rfl
 have h2:tkN w=t.2.length:=by
  obtain ⟨_,_,h3,_⟩:=f.tr;unfold tkN;rw [h1,<-frNums_len,show frNums (pageAt w.now t.1)=t.2 from h3]
 have h3:=frT_in f.mt (by simp);have hzc:=f.zc;refine ⟨h1,h2,?_,h3.1,h3.2,by omega⟩;rw [h1];unfold pageAt;have h4:(t.1-1).toNat<w.now.length:=by have h5:t.1<=(w.now.length:Int):=h3.2;have h6:2<=t.1:=h3.1;omega
 rw [List.getD_eq_getElem?_getD,List.getElem?_eq_getElem h4];exact f.len _ (qP h4)
theorem FrS.give_a {t:Int × List Int} {T:Trk} (f:FrS w (t::T)) (h1:2<=no) (h2:no<=(w.now.length:Int)) (h3:no∉flatT (t::T)) (h4:t.2.length<(w.z-8) / 4) :
  giveF w no=(upP w (w.now.set (t.1-1).toNat (put4 (put4 (pageAt w.now t.1) (8+4*t.2.length) no.toNat) 4 (t.2.length+1))) ((t.1,t.2++[no])::T),0)/\FrS (upP w (w.now.set (t.1-1).toNat (put4 (put4 (pageAt w.now t.1) (8+4*t.2.length) no.toNat) 4 (t.2.length+1))) ((t.1,t.2++[no])::T)) ((t.1,t.2++[no])::T):=by
 have hzc:=f.zc;have hfew:=f.few;obtain ⟨a1,a2,a3,a4,a5,a6⟩:=f.tk;rw [a1] at a3;obtain ⟨_,_,b3,b4⟩:=f.tr;have b3:frNums (pageAt w.now t.1)=t.2:=b3;have b5:rdN (pageAt w.now t.1) 4 4=t.2.length:=by rw [<-frNums_len,b3]
 have hq:8+4*t.2.length+4<=(pageAt w.now t.1).length:=by rw [a3];omega
 have hpl:(put4 (put4 (pageAt w.now t.1) (8+4*t.2.length) no.toNat) 4 (t.2.length+1)).length=w.z:=by
  rw [put4_len (by rw [put4_len hq];omega),put4_len hq,a3]
 have hns:=nums_snoc (l:=pageAt w.now t.1) (k:=no.toNat) (by rw [b5];exact hq) (by omega) (by omega);rw [b5,b3,show ((no.toNat:Nat):Int)=no by omega] at hns;have hnx:=next_put (l:=pageAt w.now t.1) (k:=8+4*t.2.length) (n:=no.toNat) (m:=t.2.length+1) (by omega) hq;have hmt:Met w.now.length (flatT ((t.1,t.2++[no])::T)):=by
  refine (f.mt.cons h1 h2 h3).perm ?_;rw [flatT_cons,flatT_cons];show (t.1::((t.2++[no])++flatT T)).Perm (no::t.1::(t.2++flatT T));refine List.Perm.trans (List.Perm.cons _ ?_) (List.Perm.swap _ _ _);rw [qZ];exact List.perm_middle
 have hn:=f.next (P:=w.now.set (t.1-1).toNat (put4 (put4 (pageAt w.now t.1) (8+4*t.2.length) no.toNat) 4 (t.2.length+1))) (T':=(t.1,t.2++[no])::T) (set_head (by omega)) (set_len f.len hpl) (by simp [f.n]) (by simpa using f.mul) (by
  refine ⟨rfl,by rw [qA];simp;omega,?_,?_⟩
  ·show frNums (pageAt _ t.1)=_;rw [pageAt_eq (by omega) (by omega)];exact hns
  ·show Tr _ _ ((rdN (pageAt _ t.1) 0 4:Nat):Int) T;rw [pageAt_eq (by omega) (by omega),hnx];refine Tr.congr (fun u hu=>?_) b4;have h5:=f.mt.rg u.1 (mem_flat (qQ _ hu));have h6:=(mt_ne f.mt hu).1;exact pageAt_set (by omega) (by omega)) (by rw [List.length_set];exact hmt)
 refine ⟨?_,hn.2⟩;rw [giveF_a (f.give_ h1 h2) (by rw [f.op]) (by rw [f.op];exact h3) (by rw [f.hd];show t.1≠0;omega) (by rw [a2];exact h4)];have hw:gvA w no=({ w with now:=w.now.set (t.1-1).toNat (put4 (put4 (pageAt w.now t.1) (8+4*t.2.length) no.toNat) 4 (t.2.length+1)) },0):=by
  unfold gvA;rw [f.hd,a1,a2];exact f.wr a4 a5 hpl
 rw [thenH_0 (by rw [hw]),hw,f.hd];have e:((flatT (t::T)).length:Int)+1=((flatT ((t.1,t.2++[no])::T)).length:Int):=by rw [flatT_cons,flatT_cons];simp;omega
 show hdd _ t.1 (((flatT (t::T)).length:Int)+1)=_;rw [e];exact hn.1
theorem FrS.take_a {t:Int × List Int} {T:Trk} {ns:List Int} (f:FrS w (t::T)) (ht:t.2=ns++[no]):∃w',takeF w=(w',no,0)/\FrS w' ((t.1,ns)::T)/\w'.z=w.z/\w'.now.length=w.now.length/\pageAt w'.now no=zer w.z/\Kp w w' (fun k=>k=t.1\/k=no):=by
 have hzc:=f.zc;have hfew:=f.few;obtain ⟨a1,a2,a3,a4,a5,a6⟩:=f.tk;rw [a1] at a3;obtain ⟨_,b2,b3,b4⟩:=f.tr;have b3:frNums (pageAt w.now t.1)=t.2:=b3;have b5:rdN (pageAt w.now t.1) 4 4=ns.length+1:=by rw [<-frNums_len,b3,ht];simp
 have b6:tkN w=ns.length+1:=by rw [a2,ht];simp
 have b7:ns.length+1<=(w.z-8) / 4:=by rw [ht] at b2;simpa using b2
 have hq:8+4*ns.length+4<=(pageAt w.now t.1).length:=by rw [a3];omega
 obtain ⟨c1,c2⟩:=nums_drop b5 hq (by omega);rw [b3,ht] at c1 c2;rw [List.dropLast_concat] at c1;rw [List.getLast?_concat] at c2;injection c2 with c2;have hm:=f.mt;have hno:2<=no/\no<=(w.now.length:Int):=hm.rg no (by rw [flatT_cons,ht];simp);have hp:(flatT (t::T)).Perm (no::flatT ((t.1,ns)::T)):=by
  rw [flatT_cons,flatT_cons,ht];show (t.1::((ns++[no])++flatT T)).Perm (no::t.1::(ns++flatT T));refine List.Perm.trans (List.Perm.cons _ ?_) (List.Perm.swap _ _ _);rw [qZ];exact List.perm_middle
 have hm2:=hm.perm hp.symm;have hnk:no≠t.1:=fun e=>(List.nodup_cons.1 hm2.nd).1 (by rw [flatT_cons,e];simp)
 let B:=put4 (put4 (pageAt w.now t.1) (8+4*ns.length) 0) 4 ns.length
 have hpl:B.length=w.z:=by show (put4 (put4 _ _ _) _ _).length=_;rw [put4_len (by rw [put4_len hq];omega),put4_len hq,a3]
 have hnx:=next_put (l:=pageAt w.now t.1) (k:=8+4*ns.length) (n:=0) (m:=ns.length) (by omega) hq;have hl1:=set_len (i:=(t.1-1).toNat) f.len hpl;have hw1:tkW w=({ w with now:=w.now.set (t.1-1).toNat B },0):=by
  unfold tkW;rw [b6,if_pos (by omega),f.hd,a1];exact f.wr a4 a5 hpl
 have hkn:tkNo w=no:=by unfold tkNo;rw [b6,if_pos (by omega),a1];exact c2.symm
 have hkf:tkFr w=t.1:=by unfold tkFr;rw [b6,if_pos (by omega),f.hd];rfl
 have e1:(w.now.set (t.1-1).toNat B).length=w.now.length:=List.length_set ..;have hz:tkZ w=({ w with now:=(w.now.set (t.1-1).toNat B).set (no-1).toNat (zer w.z) },0):=by
  unfold tkZ;rw [hw1,hkn];have hmz:no*(w.z:Int)<=16777216:=by
   have:no.toNat*w.z<=w.now.length*w.z:=qE _ (by omega);have:=f.mul;rw [show no=((no.toNat:Nat):Int) by omega,<-Int.natCast_mul];omega
  have h5:=St.write_0 (w:={ w with now:=w.now.set (t.1-1).toNat B }) (no:=no.toNat) (b:=zer w.z) f.i (by
   show ¬(_\/((w.now.set (t.1-1).toNat B).length:Int)+1<_\/w.now.set (t.1-1).toNat B=[]\/(zer w.z).length≠w.z);rw [e1,zer_len];rintro (h | h | h | h)
   ·omega
   ·omega
   ·have:=f.n1;rw [h] at e1;simp at e1;omega
   ·exact h rfl) (by show ¬(_\/16777216<((no.toNat:Nat):Int)*(w.z:Int));rw [show ((no.toNat:Nat):Int)=no by omega];rintro (h | h)<;>omega)
  rw [show ((no.toNat:Nat):Int)=no by omega] at h5;refine h5.trans ?_;show (({ w with now:=wth (w.now.set (t.1-1).toNat B) no.toNat (zer w.z) } : St),0)=_;unfold wth;rw [if_neg (by rw [e1];omega),show (no-1).toNat=no.toNat-1 by omega]
 have hn:=f.next (P:=(w.now.set (t.1-1).toNat B).set (no-1).toNat (zer w.z)) (T':=(t.1,ns)::T) ((set_head (by omega)).trans (set_head (by omega))) (set_len hl1 zer_len) (by simp [f.n]) (by simpa using f.mul) (by
  refine ⟨rfl,by show ns.length<=_;omega,?_,?_⟩
  ·show frNums (pageAt _ t.1)=ns;rw [pageAt_set (by omega) (by omega),pageAt_eq (by omega) (by omega)];exact c1
  ·show Tr _ _ ((rdN (pageAt _ t.1) 0 4:Nat):Int) T;rw [pageAt_set (by omega) (by omega),pageAt_eq (by omega) (by omega),hnx];refine Tr.congr (fun u hu=>?_) b4;have h5:=hm.rg u.1 (mem_flat (qQ _ hu));have h6:=mt_ne hm hu;have h7:u.1≠no:=fun e=>h6.2 (by rw [ht,e];simp);rw [pageAt_set (by omega) (by omega)];exact pageAt_set (by omega) (by omega)) (by rw [List.length_set,e1];exact hm2.tail)
 refine ⟨_,?_,hn.2,rfl,by simp,?_,rfl,rfl,rfl,rfl,fun k k2 kb=>?_⟩
 ·rw [takeF_h (by rw [f.op]) (by rw [f.op];simp [flatT_cons]) (by rw [hw1]) (by rw [hz])];have e:((flatT (t::T)).length:Int)-1=((flatT ((t.1,ns)::T)).length:Int):=by rw [hp.length_eq];simp
  have hh:tkH w=({ w with now:=((w.now.set (t.1-1).toNat B).set (no-1).toNat (zer w.z)).set 0 (pg1 w.z (hdF' w ((w.now.set (t.1-1).toNat B).set (no-1).toNat (zer w.z)) ((t.1,ns)::T))) },0):=by
   unfold tkH;rw [hz,hkf,f.hd];show hdd _ t.1 (((flatT (t::T)).length:Int)-1)=_;rw [e];exact hn.1
  rw [hh,hkn];rfl
 ·show pageAt (List.set _ 0 _) no=_;rw [pageAt_set (by omega) (by omega),pageAt_eq (by omega) (by rw [e1];omega)]
 ·have:=not_or.1 kb;show pageAt (List.set _ 0 _) k=_;rw [pageAt_set (by omega) (by omega),pageAt_set (by omega) (by omega),pageAt_set (by omega) (by omega)]
theorem FrS.take_b {t:Int × List Int} {T:Trk} (f:FrS w (t::T)) (ht:t.2=[]):∃w',takeF w=(w',t.1,0)/\FrS w' T/\w'.z=w.z/\w'.now.length=w.now.length/\pageAt w'.now t.1=zer w.z/\Kp w w' (fun k=>k=t.1):=by
 have hzc:=f.zc;have hfew:=f.few;obtain ⟨a1,a2,a3,a4,a5,a6⟩:=f.tk;obtain ⟨_,b2,b3,b4⟩:=f.tr;have b4:Tr w.now ((w.z-8) / 4) ((rdN (pageAt w.now t.1) 0 4:Nat):Int) T:=b4;have b6:tkN w=0:=by rw [a2,ht];rfl
 have hm:=f.mt;have hw1:tkW w=(w,0):=by unfold tkW;rw [b6];rfl
 have hkn:tkNo w=t.1:=by unfold tkNo;rw [b6,if_neg (by omega),f.hd];rfl
 have hkf:tkFr w=frT T:=by unfold tkFr;rw [b6,if_neg (by omega),a1];exact b4.hd
 have hz:tkZ w=({ w with now:=w.now.set (t.1-1).toNat (zer w.z) },0):=by unfold tkZ;rw [hw1,hkn];exact f.wr a4 a5 zer_len
 rw [b4.hd] at b4;have hm2:Met w.now.length (flatT T):=by rw [flatT_cons,ht] at hm;exact hm.tail
 have hn:=f.next (P:=w.now.set (t.1-1).toNat (zer w.z)) (T':=T) (set_head (by omega)) (set_len f.len zer_len) (by simp [f.n]) (by simpa using f.mul) (by
  refine Tr.congr (fun u hu=>?_) b4;have h5:=hm2.rg u.1 (mem_flat hu);have h6:=mt_ne hm hu;exact pageAt_set (by omega) (by omega)) (by rw [List.length_set];exact hm2)
 refine ⟨_,?_,hn.2,rfl,by simp,?_,rfl,rfl,rfl,rfl,fun k k2 kb=>?_⟩
 ·rw [takeF_h (by rw [f.op]) (by rw [f.op];simp [flatT_cons]) (by rw [hw1]) (by rw [hz])];have e:((flatT (t::T)).length:Int)-1=((flatT T).length:Int):=by rw [flatT_cons,ht];simp
  have hh:tkH w=({ w with now:=(w.now.set (t.1-1).toNat (zer w.z)).set 0 (pg1 w.z (hdF' w (w.now.set (t.1-1).toNat (zer w.z)) T)) },0):=by
   unfold tkH;rw [hz,hkf,f.hd];show hdd _ (frT T) (((flatT (t::T)).length:Int)-1)=_;rw [e];exact hn.1
  rw [hh,hkn];rfl
 ·show pageAt (List.set _ 0 _) t.1=_;rw [pageAt_set (by omega) (by omega),pageAt_eq (by omega) (by omega)]
 ·show pageAt (List.set _ 0 _) k=_;rw [pageAt_set (by omega) (by omega),pageAt_set (by omega) (by omega)]
theorem FrS.take_n (f:FrS w []) (h:(w.now.length+1)*w.z<=16777216):∃w',takeF w=(w',(w.now.length:Int)+1,0)/\FrS w' []/\w'.z=w.z/\w'.now.length=w.now.length+1/\pageAt w'.now ((w.now.length:Int)+1)=zer w.z/\Kp w w' (fun k=>k=(w.now.length:Int)+1):=by
 have hzc:=f.zc;have hfew:=f.few;have h1:=f.n1;have hw:w.write ((w.now.length:Int)+1) (zer w.z)=({ w with now:=w.now++[zer w.z] },0):=by
  have h5:=St.write_0 (w:=w) (no:=w.now.length+1) (b:=zer w.z) f.i (by rw [zer_len];rintro (h | h | h | h);omega;omega;exact f.n h;exact h rfl) (by rw [<-Int.natCast_mul];rintro (h | h)<;>omega);rw [show ((w.now.length+1:Nat):Int)=(w.now.length:Int)+1 by omega] at h5;rw [h5];unfold wth;rw [if_pos (by omega)]
 have hn:=f.next (P:=w.now++[zer w.z]) (T':=[]) (by cases hq:w.now with | nil=>exact absurd hq f.n | cons a l=>rfl) (fun b hb=>(qD.1 hb).elim (f.len b) fun e=>by rw [qS.1 e];exact zer_len) (by simp) (by simpa using h) rfl Met.nil;have hg:frGrow w=(upP w (w.now++[zer w.z]) [],(w.now.length:Int)+1,0):=by
  rw [frGrow_h (by rw [f.pgs];rcases hzc with h6 | h6 | h6 | h6 | h6<;>rw [h6] at h⊢<;>omega) (by rw [f.pgs,hw]),f.pgs,hw];have h7:=hn.1;rw [show (((flatT []).length:Nat):Int)=0 from rfl,show frT []=0 from rfl] at h7;rw [h7];rfl
 refine ⟨_,?_,hn.2,rfl,by simp,?_,rfl,rfl,rfl,rfl,fun k k2 kb=>?_⟩
 ·rw [takeF_g (by rw [f.op]) (by rw [f.op];rfl),hg];rfl
 ·show pageAt (List.set _ 0 _) _=_;rw [pageAt_set (by omega) (by omega)];unfold pageAt;rw [show ((w.now.length:Int)+1-1).toNat=w.now.length by omega];simp
 ·show pageAt (List.set _ 0 _) k=_;rw [pageAt_set (by omega) (by omega)];have kb:k≠(w.now.length:Int)+1:=kb;unfold pageAt;rw [List.getD_eq_getElem?_getD,List.getD_eq_getElem?_getD,List.getElem?_append];split
  ·rfl
  ·rw [List.getElem?_eq_none (l:=w.now) (by omega),List.getElem?_eq_none (by simp;omega)]
end
end
end Go.Proofs.YtfegfklipbnhjaaGreat
namespace Go.HL
open Go Go.Proofs.YtfegfklipbnhjaaGreat
theorem Hp.addM15 {h0 h h':Heap} {D:Nat->Prop} {M R:List Itm} {a:Itm} (ok:Hp h0 D M R h) (q:Hp h none_ [a] [] h'):Hp h0 D (a::M) R h':=
 ok.newM q.chg a q.m0 fun j hj=>by
  have h1:=(q.m a qX).2 j hj;exact ⟨h1.2.elim (fun f=>f.elim) id,h1.1⟩
end Go.HL
namespace Go.Proofs.YtfegfklipbnhjaaGreat
open Go Go.HL
section
variable {z:Nat}
section
variable {f:FuncId} {args:Array Value} {h:Heap} {F:Nat->Prop} {G:Pgr} {so c:Nat} {w':St} {ci n:Int}
theorem ansE {x:St × Nat} (q:Hc f args h (fun v h'=>∃F',v=.J ((x.2:Nat):Int)/\Hp h F [dsI G so F' x.1] [] h')) (e:x=(w',c)) (hc:((c:Nat):Int)=ci):Hc f args h (fun v h'=>∃F',v=.J ci/\Hp h F [dsI G so F' w'] [] h'):=by subst e hc;exact q
theorem ansT {x:St × Int × Nat} (q:Hc f args h (fun v h'=>∃F',v=.tuple #[.J x.2.1,.J ((x.2.2:Nat):Int)]/\Hp h F [dsI G so F' x.1] [] h')) (e:x=(w',n,c)) (hc:((c:Nat):Int)=ci):Hc f args h (fun v h'=>∃F',v=.tuple #[.J n,.J ci]/\Hp h F [dsI G so F' w'] [] h'):=by subst e hc;exact q
end
def opB (z:Nat):St:=⟨z,[],true,[],[]⟩
def hd1 (z:Nat):Hd:=⟨(z:Int),1,0,0,0,0⟩
def opL (z j:Nat):List (List UInt8):=pg1 z (hd1 z)::(List.range j).map fun i=>pageG z (i+2)
def opV (z j:Nat):St:=⟨z,[],true,opL z j,[]⟩
theorem chk_hd1 (hz:okSz z=true):ChkP (hd1 z):=by
 have:=okSz_c hz;refine ⟨decide_eq_true (by show (z:Int)=256\/(z:Int)=512\/(z:Int)=1024\/(z:Int)=2048\/(z:Int)=4096;omega),⟨by show (1:Int)<=1;omega,by show (1:Int)<=1048576;omega,by show (z:Int)*1<=16777216;omega⟩,⟨by show (0:Int)<=0;omega,by show (0:Int)<1;omega,fun _=>rfl,fun h=>absurd h (by show ¬(0:Int)<0;omega)⟩,⟨by show (0:Int)<=0;omega,by show (0:Int)<=2147483647;omega⟩,by show (0:Int)<=0;omega,by show (0:Int)<=2147483647;omega⟩
theorem hd1_in (hz:okSz z=true):HdIn (⟨(z:Int),1,0,0,0,0⟩:Hd):=by
 have:=okSz_c hz;refine ⟨?_,?_,?_,?_,?_,?_⟩<;>(unfold i64N;dsimp only;omega)
theorem op_begin : St.begin_ (newS z)=(opB z,0):=rfl
theorem op_head (hz:okSz z=true):St.setHead (opB z) (⟨(z:Int),1,0,0,0,0⟩:Hd)=(opV z 0,0):=
 St.setHead_0 (w:=opB z) (n:=1) rfl (by rintro (h | h | h);exact h (chk_hd1 hz);exact h rfl;exact absurd h (by show ¬(max 1 ((0:Nat):Int)<1);decide)) rfl
theorem opL_len {j:Nat} : (opL z j).length=j+1:=by simp [opL]
end
open Go Go.HL
theorem _root_.Go.HL.OpV.shlI {P:Program} {s:Slots} {h:Heap} {d:Option Tmp} {t u ty:TypeId} {x y:Operand} {pos:String} {af:Array Edge} {g:Option (Nat × Bool)} {ky:IntKind} (a b:Nat) (hb:b<=64) (hr:a*2 ^ b<=9223372036854775807) (hx:ev s x=.J (a:Nat):=by exact rfl) (hy:ev s y=.int ky (b:Nat):=by exact rfl):OpV P ⟨d,.binOp .shl t x y u,ty,pos,af,g⟩ s h (.J ((a*2 ^ b:Nat):Int)):=fun w _=>by
 have h0:¬((b:Int)<0):=by omega
 have hm:min b IntKind.i64.bits=b:=Nat.min_eq_left hb;have h1:IntKind.wrap .i64 ((a:Int)*2 ^ min b IntKind.i64.bits)=((a*2 ^ b:Nat):Int):=by
  rw [hm];have e:(a:Int)*2 ^ b=((a*2 ^ b:Nat):Int):=by simp
  rw [e];exact IntWalk.i64_in _ (by omega)
 rw [hm] at h1;simp [execOp,hx,hy,V.eqG,binOp,Op.shift,h0];first | simpa using h1 | (rw [hm];simpa using h1)
def szF (n:Nat):Nat:=256*2 ^ (n%3)
theorem szF_ok (n:Nat):okSz (szF n)=true:=by
 unfold szF;have:n%3=0\/n%3=1\/n%3=2:=by omega
 rcases this with h | h | h<;>rw [h]<;>rfl
theorem szF_b (n:Nat):256<=szF n/\szF n<=1024:=by
 unfold szF;have:n%3=0\/n%3=1\/n%3=2:=by omega
 rcases this with h | h | h<;>rw [h]<;>decide
theorem op_fs {z j:Nat} (hz:okSz z=true) (hj:j<=100):FrS (opV z j) []:=by
 have hzc:=okSz_c hz;have hm:(j+1)*z<=16777216:=kN (Nat.mul_le_mul (show j+1<=102 by omega) (show z<=4096 by omega)) (by decide);refine ⟨hz,fun b hb=>?_,by show (opL z j).length*z<=_;rw [opL_len];exact hm,rfl,by simp [opV,opL],?_,rfl,Met.nil⟩
 ·rcases qK.1 hb with rfl | hb
  ·exact pg1_len hz
  ·obtain ⟨i,_,rfl⟩:=kS.1 hb;exact pageG_len
 ·unfold St.head;rw [show (opV z j).pgs=opL z j from rfl,if_neg (by simp [opL])];rw [show (opL z j).headD []=pg1 z (hd1 z) from rfl];unfold pg1;rw [dec_enc (chk_hd1 hz)];show Hd.mk _ _ _ _ _ _=Hd.mk _ _ _ _ _ _;rfl
theorem FrS.wro {w:St} {T:Trk} (f:FrS w T) {k:Int} {b:List UInt8} (h1:2<=k) (h2:k<=(w.now.length:Int)) (hb:b.length=w.z) (hk:∀t∈T,t.1≠k):FrS { w with now:=w.now.set (k-1).toNat b } T:=by
 refine ⟨f.z,set_len f.len hb,by simpa using f.mul,f.i,by simp [f.n],?_,?_,by simpa using f.mt⟩
 ·have:=f.head' (P:=w.now.set (k-1).toNat b) (set_head (by omega)) (by simp [f.n]);simpa using this
 ·refine Tr.congr (fun t ht=>?_) f.tr;have h3:=f.mt.rg t.1 (mem_flat ht);have h4:=hk t ht;exact pageAt_set (by omega) (by omega)
theorem rd_fix {n:Nat} {l:List UInt8} (h:n<4294967296):rdN (fixedN n 4++l) 0 4=n:=by
 have:=rdN_app (x:=[]) (y:=fixedN n 4) (z:=l) (k:=4) (fixedN_len _ _);simp only [kI,qB] at this;rw [this,beN_fixed (by simpa using h)]
end Go.Proofs.YtfegfklipbnhjaaGreat
