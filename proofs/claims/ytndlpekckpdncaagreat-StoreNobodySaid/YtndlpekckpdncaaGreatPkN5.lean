/- The store's calls, told by the document's state. Conditions: the store is in order. Calls of the store where it is known what comes. Conditions: those that each fact names. A disk as one item that is told in plain terms alone; its calls so. Conditions: those that each fact names. Files of a disk, byte by byte: what changes do to them, how the power goes, and what a crash may leave. Conditions: those that each fact names. Opening a file that was left in any state in between, in plain terms: it has the sure pages; and so it has when the power goes within. Conditions: those that each fact names. Journals in plain terms: beginnings, entries, and how a journal is scanned. Conditions: those that each fact names. The contracts of maps.Keys, slices.Sorted and slices.Sort, laid at this program by the kit. Conditions: none. maps.Keys and slices.Sorted over the cache's map, at a seat where they serve a map of frames too. Conditions: the keys are ints of 64 bits. The method Put of a cache: what goes is read in the cache's own blocks. Conditions: as CaImp4's. The method Dirty of a cache. Conditions: the cache is well laid, its numbers are ints of 64 bits. The pager that keeps a journal, in plain terms: what each of its functions does to the disk, the cache and its own state. Conditions: those that each fact names. Scopes without jumps. Functions with one deferred call: the rules of code until it is laid, and what is done behind a return. Conditions: those that each rule names. The pager that keeps a journal, its small parts: a file removed for good, the journal and its mark removed, the file's length. Conditions: the disk is in order. The pager that keeps a journal: the journal's pages are laid over the file. Conditions: the disk is in order; the frames' pages are in their range. Journals: sizes, beginnings and entries, of the program and of the document. Conditions: the slices are readable, numbers in their ranges. The program's Scan of a journal. Conditions: the bytes are readable. The pager that keeps a journal, in memory: its box, the map of what is kept, and its disk as one item that turns (the core); the cache beside it. Conditions: those that each fact names. The pager that keeps a journal: pages are written to its file; a commit's work on the disk, in plain terms. Conditions: those that each fact names. The pager that keeps a journal and its pages: what ties them, and that each part of a call keeps it. Conditions: those that each fact names. The pager that keeps a journal: a page is put into the cache; the dirty pages that are unlike the file's. Conditions: the pager is in order. The calls of the pager that keeps a journal, in plain terms: what they make of its pages, and of its file. Conditions: those that each fact names. Pagers of either make, opened on a new disk: nothing is in them. Conditions: the size and the room may be. A store is opened on a new disk, with either pager. Conditions: the size and the room may be. Free pages in plain terms: the chain of trunks, a page taken, a page given. Conditions: those that each fact names. A page's bytes of a number; numbers among others; rows of numbers that are the same. Conditions: few. A store with so many pages, in a transaction, and the document's beside it. Conditions: the size and the room may be. The contracts of maps.Keys, slices.Sorted and slices.Sort, laid at this program by the kit. Conditions: none. -/
import Derived.Test.YtndlpekckpdncaaGreatPkN4
import Derived.Shelf.SlIterI.Nil
import Derived.Shelf.SortM.Plain
import Derived.Shelf.SortM.SortNone
import Derived.Ground.GgzProg
import Derived.Ground.SlgmProg
import Derived.Test.YtndlpekckpdncaaGreatProg
import Derived.Defers
import Derived.Scope
import Derived.Shelf.SlMaps.Clone
import Derived.Ground.SlmcProg
set_option maxRecDepth 100000
set_option maxHeartbeats 2000000
set_option linter.all false
namespace Go.Proofs.YtndlpekckpdncaaGreat
open Go Go.HL
theorem sSizeNil_any {h:Heap} :
  HC Tryz.prog 28 #[.pointer none] h (fun v h'=>v=.int .i64 0∧h'=h):=by
 refine HC.go Tryz.func28 9 ?_;refine .seq<|.r<|.z .asI<|.nil ?_;refine .seq<|.seq<|.r<|.z .mvP<|.z (.pEqN T.pt27)<|.nil ?_;refine .ct<|.seq<|.r<|.z .asI<|.nil ?_;refine .ret ⟨.int .i64 0,Res.one rfl rfl,⟨rfl,rfl⟩⟩
theorem sIn_any {G:Pgr} {h:Heap} {so:Nat} {F:Nat→Prop} {w:St} (hd:(dsI G so F w).p h) :
  HC Tryz.prog 41 #[.pointer (some ⟨so,0,none⟩)] h (fun v h'=>v=.bool w.in_∧h'=h):=by
 obtain ⟨r,V,hb,hp⟩:=ds_box hd;refine HC.go Tryz.func41 12 ?_;refine .seq<|.r<|.z .asB<|.nil ?_;refine .seq<|.r<|.z .mvP<|.k 4 .func (susable_any (G:=G) (r:=r) hb)<|.z .eql<|.z .mvB<|.z .mvP<|.z .nil<|.z (.fa T.fd123_3)<|.z (.ldx T.ag4 hb)<|.z .pkt<|.z .asB<|.nil ?_;refine .ret ⟨.bool r.in_,Res.one rfl rfl,⟨by rw [V.in_],rfl⟩⟩
theorem sInNil_any {h:Heap} :
  HC Tryz.prog 41 #[.pointer none] h (fun v h'=>v=.bool false∧h'=h):=by
 refine HC.go Tryz.func41 12 ?_;refine .seq<|.r<|.z .asB<|.nil ?_;refine .seq<|.r<|.z .mvP<|.k 4 .func susableNil_any<|.z .eql<|.z .mvB<|.y<|.y<|.y<|.y<|.z .pkf<|.z .asB<|.nil ?_;refine .ret ⟨.bool false,Res.one rfl rfl,⟨rfl,rfl⟩⟩
theorem sSavesNil_any {h:Heap} :
  HC Tryz.prog 42 #[.pointer none] h (fun v h'=>v=.int .i64 0∧h'=h):=by
 refine HC.go Tryz.func42 11 ?_;refine .seq<|.r<|.z .asI<|.nil ?_;refine .seq<|.seq<|.r<|.z .mvP<|.k 4 .func susableNil_any<|.z .neq<|.nil ?_;refine .ct<|.seq<|.r<|.z .asI<|.nil ?_;refine .ret ⟨.int .i64 0,Res.one rfl rfl,⟨rfl,rfl⟩⟩
theorem sReadNil_any {h:Heap} {no:Int} :
  HC Tryz.prog 22 #[.pointer none,.int .i64 no] h (fun v h'=>v=.tuple #[.slice none 0 0,.int .i64 2]∧h'=h):=by
 refine HC.go Tryz.func22 25 ?_;refine .seq<|.r<|.z .asS<|.z .asI<|.nil ?_;refine .seq<|.seq<|.r<|.z .mvP<|.k 8 .func susableNil_any<|.z .asI<|.nil ?_;refine .seq<|.r<|.z .mvI<|.z .neq<|.nil ?_;refine .ct<|.seq<|.r<|.z .mvI<|.z .asS<|.z .asI<|.nil ?_;refine .ret ⟨.tuple #[.slice none 0 0,.int .i64 2],Res.two rfl rfl rfl,⟨rfl,rfl⟩⟩
theorem sRead_any {G:Pgr} {h:Heap} {so:Nat} {F:Nat→Prop} {w:St} {no:Int} (ok:Hp h F [dsI G so F w] [] h) :
  HC Tryz.prog 22 #[.pointer (some ⟨so,0,none⟩),.int .i64 no] h (fun v h'=>∃F' x c,v=.tuple #[.slice x (w.read no).1.length c,.int .i64 ((w.read no).2:Int)]∧Hp h F [capI 1 5 (x,(w.read no).1.length,c) ((w.read no).1.map bv),dsI G so F' w] [] h'):=by
 obtain ⟨r,E,V,ok,hf,he⟩:=ds_open ok;have hzc:=V.zc;have hfew:=V.few;have hnf:=V.nowfew;obtain ⟨p,lg,z,in_,many,om,ov,sa,sc,svl,pF,ga⟩:=r;dsimp only at ok hf;generalize stF G so _=DF at ok hf;obtain rfl:z=w.z:=V.z;obtain rfl:in_=w.in_:=V.in_;have hpgs:(if w.in_=true then many else (G.sure ga).length)=w.pgs.length:=V.pgs;have ok:Hp h DF [boxI so 123 [.iface G.tid (.pointer (some ⟨p,0,none⟩)),.pointer lg,.int .i64 (w.z:Int),.bool w.in_,.int .i64 (many:Int),.map om,.slice sa svl.length sc,.bool false],nowI om ov,capI 2 120 (sa,svl.length,sc) (svl.flatMap RSv.cells),G.it p pF ga] [pbsI E ov,svsI E svl] h:=ok;have hsz0:=ok.chg.size;refine HC.go Tryz.func22 25 ?_;refine .seq<|.r<|.z .asS<|.z .asI<|.nil ?_;refine .seq<|.seq<|.r<|.z .mvP<|.k 8 .func (susable_any (G:=G) (r:=(⟨p,lg,w.z,w.in_,many,om,ov,sa,sc,svl,pF,ga⟩:RS G.α)) ok.m0)<|.z .asI<|.nil ?_;refine .seq<|.r<|.z .mvI<|.z .neq<|.nil ?_;refine .cf<|.skip<|.seq<|.seq<|.r<|.z .mvI<|.z .lss<|.z .mvB<|.sd (fun G14=>?_) (fun G14=>?_)
 ·
  refine .y<|.y<|.y<|.y<|.z .pkt<|.nil ?_;refine .ct<|.seq<|.r<|.z .asS<|.z .asI<|.nil ?_;have ok:=ok.nilC (k:=1) (e:=5);refine .ret ⟨.tuple #[.slice none 0 0,.int .i64 1],Res.two rfl rfl rfl,⟨_,_,_,by rw [St.read_no (by omega)];rfl,by rw [St.read_no (by omega)];exact Hp.n1 (ds_close (r':=(⟨p,lg,w.z,w.in_,many,om,ov,sa,sc,svl,pF,ga⟩:RS G.α)) (E':=E) (ok.n4.n4.n4.n4.f1.f1) hf (fun j hj=>.inl (he j hj)) V)⟩⟩
 refine .z .mvI<|.z .mvP<|.k 17 .func (spages_any (G:=G) (r:=(⟨p,lg,w.z,w.in_,many,om,ov,sa,sc,svl,pF,ga⟩:RS G.α)) (i:=w.in_) (m:=many) (k:=(G.sure ga).length) ok.m0 ok.m3 rfl rfl rfl)<|.z .gtr<|.z .pkf<|.nil ?_;refine .cd (fun C1=>?_) (fun C1=>?_)
 ·
  refine .seq<|.r<|.z .asS<|.z .asI<|.nil ?_;have ok:=ok.nilC (k:=1) (e:=5);refine .ret ⟨.tuple #[.slice none 0 0,.int .i64 1],Res.two rfl rfl rfl,⟨_,_,_,by rw [St.read_no (by omega)];rfl,by rw [St.read_no (by omega)];exact Hp.n1 (ds_close (r':=(⟨p,lg,w.z,w.in_,many,om,ov,sa,sc,svl,pF,ga⟩:RS G.α)) (E':=E) (ok.n4.n4.n4.n4.f1.f1) hf (fun j hj=>.inl (he j hj)) V)⟩⟩
 obtain ⟨hbl,hb,h1,h2⟩:=V.page (no:=no) (by omega) (by omega);refine .skip<|.seq<|.r<|.z .mvP<|.z .mvI<|.c' 22 .func (sread_any (G:=G) (r:=(⟨p,lg,w.z,w.in_,many,om,ov,sa,sc,svl,pF,ga⟩:RS G.α)) (E:=E) (no:=no) (b:=(w.pgs.getD (no-1).toNat [])) ((Hp.locL [G.it p pF ga,boxI so 123 [.iface G.tid (.pointer (some ⟨p,0,none⟩)),.pointer lg,.int .i64 (w.z:Int),.bool w.in_,.int .i64 (many:Int),.map om,.slice sa svl.length sc,.bool false],nowI om ov] (ok.n1.n1.n3)).e1) (by omega) (by omega) hb h1 h2) ?_;rintro _ η1 ⟨Fs1,as1,xs1,cs1,rfl,hss1,q⟩;have ok:=Hp.liftL [G.it p pF ga,boxI so 123 [.iface G.tid (.pointer (some ⟨p,0,none⟩)),.pointer lg,.int .i64 (w.z:Int),.bool w.in_,.int .i64 (many:Int),.map om,.slice sa svl.length sc,.bool false],nowI om ov] (ok.n1.n1.n3) q;refine .z .ex<|.z .ex<|.z .asS<|.z .asI<|.nil ?_;refine .ret ⟨.tuple #[.slice xs1 ((w.pgs.getD (no-1).toNat []).length) cs1,.int .i64 0],Res.two rfl rfl rfl,⟨_,_,_,by rw [St.read_ok (by omega) (by omega)];rfl,by rw [St.read_ok (by omega) (by omega)];exact Hp.n1 (ds_close (r':=(⟨p,lg,w.z,w.in_,many,om,ov,sa,sc,svl,Fs1,as1⟩:RS G.α)) (E':=E) (ok.n1.n4.n4.n4.f1.f1) hf (fun j hj=>.inl (he j hj)) (V.pg hss1))⟩⟩
theorem sHead_any {G:Pgr} {h:Heap} {so:Nat} {F:Nat→Prop} {w:St} (ok:Hp h F [dsI G so F w] [] h) :
  HC Tryz.prog 18 #[.pointer (some ⟨so,0,none⟩)] h (fun v h'=>∃F',v=w.head.val∧Hp h F [dsI G so F' w] [] h'):=by
 obtain ⟨r,E,V,ok,hf,he⟩:=ds_open ok;have hzc:=V.zc;have hfew:=V.few;have hnf:=V.nowfew;obtain ⟨p,lg,z,in_,many,om,ov,sa,sc,svl,pF,ga⟩:=r;dsimp only at ok hf;generalize stF G so _=DF at ok hf;obtain rfl:z=w.z:=V.z;obtain rfl:in_=w.in_:=V.in_;have hpgs:(if w.in_=true then many else (G.sure ga).length)=w.pgs.length:=V.pgs;have ok:Hp h DF [boxI so 123 [.iface G.tid (.pointer (some ⟨p,0,none⟩)),.pointer lg,.int .i64 (w.z:Int),.bool w.in_,.int .i64 (many:Int),.map om,.slice sa svl.length sc,.bool false],nowI om ov,capI 2 120 (sa,svl.length,sc) (svl.flatMap RSv.cells),G.it p pF ga] [pbsI E ov,svsI E svl] h:=ok;have hsz0:=ok.chg.size;refine HC.go Tryz.func18 38 ?_;refine .seq<|.r<|.a' 2 (.alA T.zr38 ok) ?_;rintro _ η1 ⟨pb1,rfl,ok,xe⟩;refine .nil ?_;refine .seq<|.seq<|.r<|.z .mvP<|.k 8 .func (susable_any (G:=G) (r:=(⟨p,lg,w.z,w.in_,many,om,ov,sa,sc,svl,pF,ga⟩:RS G.α)) ok.m1)<|.z .neq<|.z .mvB<|.z .mvP<|.k 12 .func (spages_any (G:=G) (r:=(⟨p,lg,w.z,w.in_,many,om,ov,sa,sc,svl,pF,ga⟩:RS G.α)) (i:=w.in_) (m:=many) (k:=(G.sure ga).length) ok.m1 ok.m4 rfl rfl rfl)<|.z .eql<|.z .pkf<|.nil ?_;refine .cd (fun C0=>?_) (fun C0=>?_)
 ·
  refine .seq<|.r<|.z (.bd #[.int .i64 0,.int .i64 0,.int .i64 0,.int .i64 0,.int .i64 0,.int .i64 0] T.zr38 T.pl38 rfl)<|.ur' (.stW (vs:=[.int .i64 0,.int .i64 0,.int .i64 0,.int .i64 0,.int .i64 0,.int .i64 0]) T.sz38 ok (oneL rfl)) ?_;rintro η2 ⟨ok,cg⟩;refine .nil ?_;refine .ret ⟨.agg #[.int .i64 0,.int .i64 0,.int .i64 0,.int .i64 0,.int .i64 0,.int .i64 0],Res.many (vs:=[.agg #[.int .i64 0,.int .i64 0,.int .i64 0,.int .i64 0,.int .i64 0,.int .i64 0]]) rfl ⟨⟨_,rfl,load_ag T.ag38 ok.m0 T.sz38⟩,trivial⟩ rfl,⟨_,by rw [St.head_0 (by omega)];rfl,(ds_close (r':=(⟨p,lg,w.z,w.in_,many,om,ov,sa,sc,svl,pF,ga⟩:RS G.α)) (E':=E) (ok.n4.n4.n4.n4.f1.f1.k4) hf (fun j hj=>.inl (he j hj)) V)⟩⟩
 obtain ⟨hbl,hb,h1,h2⟩:=V.page (no:=1) (by omega) (by omega);refine .skip<|.seq<|.r<|.z .mvP<|.c' 18 .func (sread_any (G:=G) (r:=(⟨p,lg,w.z,w.in_,many,om,ov,sa,sc,svl,pF,ga⟩:RS G.α)) (E:=E) (no:=1) (b:=(w.pgs.getD 0 [])) ((Hp.locL [G.it p pF ga,boxI so 123 [.iface G.tid (.pointer (some ⟨p,0,none⟩)),.pointer lg,.int .i64 (w.z:Int),.bool w.in_,.int .i64 (many:Int),.map om,.slice sa svl.length sc,.bool false],nowI om ov] (ok.n2.n2.n4)).e1) (by omega) (show (w.pgs.getD 0 []).length≤1000000 from Nat.le_trans (Nat.le_of_eq hbl) (by omega)) hb h1 h2) ?_;rintro _ η3 ⟨Fs1,as1,xs1,cs1,rfl,hss1,q⟩;have ok:=Hp.liftL [G.it p pF ga,boxI so 123 [.iface G.tid (.pointer (some ⟨p,0,none⟩)),.pointer lg,.int .i64 (w.z:Int),.bool w.in_,.int .i64 (many:Int),.map om,.slice sa svl.length sc,.bool false],nowI om ov] (ok.n2.n2.n4) q;refine .z .mvU<|.z .ex<|.z .ex<|.z .asS<|.z .asI<|.nil ?_;refine .seq<|.seq<|.r<|.z .mvI<|.z .neq<|.nil ?_;refine .cf<|.skip<|.seq<|.r<|.z .mvS<|.c' 26 .func (dec_any (a:=xs1) (c:=cs1) (l:=(w.pgs.getD 0 [])) (RdL.ofCapB (v:=(xs1,(w.pgs.getD 0 []).length,cs1)) (l:=(w.pgs.getD 0 [])) ok.m0)) ?_;rintro _ η4 ⟨rfl,hx⟩;rw [show (decN (w.pgs.getD 0 [])).1.val=.agg #[.int .i64 (decN (w.pgs.getD 0 [])).1.size,.int .i64 (decN (w.pgs.getD 0 [])).1.pages,.int .i64 (decN (w.pgs.getD 0 [])).1.free,.int .i64 (decN (w.pgs.getD 0 [])).1.many,.int .i64 (decN (w.pgs.getD 0 [])).1.cookie,.int .i64 (decN (w.pgs.getD 0 [])).1.version] from rfl];have ok:=ok.ext hx;refine .z .mvU<|.z .ex<|.z .ex<|.a' 5 (.alA T.zr38 ok) ?_;rintro _ η5 ⟨pb2,rfl,ok,xe⟩;refine .ur' (.stW (vs:=[.int .i64 ((decN (w.pgs.getD 0 [])).1.size),.int .i64 ((decN (w.pgs.getD 0 [])).1.pages),.int .i64 ((decN (w.pgs.getD 0 [])).1.free),.int .i64 ((decN (w.pgs.getD 0 [])).1.many),.int .i64 ((decN (w.pgs.getD 0 [])).1.cookie),.int .i64 ((decN (w.pgs.getD 0 [])).1.version)]) T.sz38 ok (oneL rfl)) ?_;rintro η6 ⟨ok,cg⟩;refine .z .asI<|.nil ?_;refine .seq<|.a 7 (fun fl hh=>cond fl True (Hp h DF [boxI pb2 38 [.int .i64 ((decN (w.pgs.getD 0 [])).1.size),.int .i64 ((decN (w.pgs.getD 0 [])).1.pages),.int .i64 ((decN (w.pgs.getD 0 [])).1.free),.int .i64 ((decN (w.pgs.getD 0 [])).1.many),.int .i64 ((decN (w.pgs.getD 0 [])).1.cookie),.int .i64 ((decN (w.pgs.getD 0 [])).1.version)],capI 1 5 (xs1,(w.pgs.getD 0 []).length,cs1) ((w.pgs.getD 0 []).map bv),G.it p Fs1 as1,boxI so 123 [.iface G.tid (.pointer (some ⟨p,0,none⟩)),.pointer lg,.int .i64 (w.z:Int),.bool w.in_,.int .i64 (many:Int),.map om,.slice sa svl.length sc,.bool false],nowI om ov,boxI pb1 38 [.int .i64 0,.int .i64 0,.int .i64 0,.int .i64 0,.int .i64 0,.int .i64 0],capI 2 120 (sa,svl.length,sc) (svl.flatMap RSv.cells)] [pbsI E ov,svsI E svl] hh)) mixed ?_;have hS:=ok;refine .g 0 false rfl 29 hS (fun _=>.mvP)<|.g 1 false rfl 30 hS (fun _=>.nil)<|.g 2 false rfl 31 hS (fun _=>.fa T.fd123_2)<|.l 3 false rfl 32 hS (fun _ hS=>.ldx T.ag3 hS.m3)<|.g 4 false rfl 33 hS (fun _=>.mvP)<|.g 6 false rfl 35 hS (fun _=>.fa T.fd38_0)<|.o1 5<|.k false rfl 34 .func (spages_any (G:=G) (r:=(⟨p,lg,w.z,w.in_,many,om,ov,sa,sc,svl,Fs1,as1⟩:RS G.α)) (i:=w.in_) (m:=many) (k:=(G.sure as1).length) ok.m3 ok.m2 rfl rfl rfl) hS<|.o1 7<|.ur' true rfl (.stI T.sz3 ok) ?_;rintro η7 ⟨ok,cg⟩;refine ⟨trivial,?_⟩;refine .g 8 true rfl 36 trivial (fun _=>.fa T.fd38_1)<|.o1 9<|.ur' true rfl (.stI T.sz3 ok) ?_;rintro η8 ⟨ok,cg⟩;refine ⟨trivial,?_⟩;refine .e ?_;refine .seq<|.r<|.z (.ldb T.ag38 ok.m0 T.sz38)<|.ur' (.stW (vs:=[.int .i64 (w.z:Int),.int .i64 (((if w.in_=true then many else (G.sure as1).length):Nat):Int),.int .i64 ((decN (w.pgs.getD 0 [])).1.free),.int .i64 ((decN (w.pgs.getD 0 [])).1.many),.int .i64 ((decN (w.pgs.getD 0 [])).1.cookie),.int .i64 ((decN (w.pgs.getD 0 [])).1.version)]) T.sz38 ok.n5 (oneL rfl)) ?_;rintro η9 ⟨ok,cg⟩;refine .nil ?_;refine .ret ⟨.agg #[.int .i64 (w.z:Int),.int .i64 (((if w.in_=true then many else (G.sure as1).length):Nat):Int),.int .i64 ((decN (w.pgs.getD 0 [])).1.free),.int .i64 ((decN (w.pgs.getD 0 [])).1.many),.int .i64 ((decN (w.pgs.getD 0 [])).1.cookie),.int .i64 ((decN (w.pgs.getD 0 [])).1.version)],Res.many (vs:=[.agg #[.int .i64 (w.z:Int),.int .i64 (((if w.in_=true then many else (G.sure as1).length):Nat):Int),.int .i64 ((decN (w.pgs.getD 0 [])).1.free),.int .i64 ((decN (w.pgs.getD 0 [])).1.many),.int .i64 ((decN (w.pgs.getD 0 [])).1.cookie),.int .i64 ((decN (w.pgs.getD 0 [])).1.version)]]) rfl ⟨⟨_,rfl,load_ag T.ag38 ok.m0 T.sz38⟩,trivial⟩ rfl,⟨_,by rw [St.head_n (by omega),hss1,hpgs];rfl,(ds_close (r':=(⟨p,lg,w.z,w.in_,many,om,ov,sa,sc,svl,Fs1,as1⟩:RS G.α)) (E':=E) (ok.n3.n6.n6.n6.f1.f1.k4) hf (fun j hj=>.inl (he j hj)) (V.pg hss1))⟩⟩
theorem sHeadNil_any {h:Heap} :
  HC Tryz.prog 18 #[.pointer none] h (fun v h'=>v=hd0.val∧Ext h h'):=by
 have ok:=Hp.nil h none_;refine HC.go Tryz.func18 38 ?_;refine .seq<|.r<|.a' 2 (.alA T.zr38 ok) ?_;rintro _ η1 ⟨pb1,rfl,ok,xe⟩;refine .nil ?_;refine .seq<|.seq<|.r<|.z .mvP<|.k 8 .func susableNil_any<|.z .neq<|.z .mvB<|.y<|.y<|.y<|.z .pkt<|.nil ?_;refine .ct<|.seq<|.r<|.z (.bd #[.int .i64 0,.int .i64 0,.int .i64 0,.int .i64 0,.int .i64 0,.int .i64 0] T.zr38 T.pl38 rfl)<|.ur' (.stW (vs:=[.int .i64 0,.int .i64 0,.int .i64 0,.int .i64 0,.int .i64 0,.int .i64 0]) T.sz38 ok (oneL rfl)) ?_;rintro η2 ⟨ok,cg⟩;refine .nil ?_;refine .ret ⟨.agg #[.int .i64 0,.int .i64 0,.int .i64 0,.int .i64 0,.int .i64 0,.int .i64 0],Res.many (vs:=[.agg #[.int .i64 0,.int .i64 0,.int .i64 0,.int .i64 0,.int .i64 0,.int .i64 0]]) rfl ⟨⟨_,rfl,load_ag T.ag38 ok.m0 T.sz38⟩,trivial⟩ rfl,⟨rfl,ok.chg⟩⟩
theorem sBegin_any {G:Pgr} {h:Heap} {so:Nat} {F:Nat→Prop} {w:St} (ok:Hp h F [dsI G so F w] [] h) :
  HC Tryz.prog 45 #[.pointer (some ⟨so,0,none⟩)] h (fun v h'=>∃F',v=.int .i64 ((w.begin_).2:Int)∧Hp h F [dsI G so F' (w.begin_).1] [] h'):=by
 obtain ⟨r,E,V,ok,hf,he⟩:=ds_open ok;have hzc:=V.zc;have hfew:=V.few;have hnf:=V.nowfew;obtain ⟨p,lg,z,in_,many,om,ov,sa,sc,svl,pF,ga⟩:=r;dsimp only at ok hf;generalize stF G so _=DF at ok hf;obtain rfl:z=w.z:=V.z;obtain rfl:in_=w.in_:=V.in_;have hpgs:(if w.in_=true then many else (G.sure ga).length)=w.pgs.length:=V.pgs;have ok:Hp h DF [boxI so 123 [.iface G.tid (.pointer (some ⟨p,0,none⟩)),.pointer lg,.int .i64 (w.z:Int),.bool w.in_,.int .i64 (many:Int),.map om,.slice sa svl.length sc,.bool false],nowI om ov,capI 2 120 (sa,svl.length,sc) (svl.flatMap RSv.cells),G.it p pF ga] [pbsI E ov,svsI E svl] h:=ok;have hsz0:=ok.chg.size;refine HC.go Tryz.func45 26 ?_;refine .seq<|.r<|.z .asI<|.nil ?_;refine .seq<|.seq<|.r<|.z .mvP<|.k 5 .func (susable_any (G:=G) (r:=(⟨p,lg,w.z,w.in_,many,om,ov,sa,sc,svl,pF,ga⟩:RS G.α)) ok.m0)<|.z .asI<|.nil ?_;refine .seq<|.r<|.z .mvI<|.z .neq<|.nil ?_;refine .cf<|.skip<|.seq<|.seq<|.r<|.z .mvP<|.z .nil<|.z (.fa T.fd123_3)<|.z (.ldx T.ag4 ok.m0)<|.nil ?_;refine .cond (fun C1=>?_) (fun C1=>?_)
 ·
  refine .seq<|.r<|.z .asI<|.nil ?_;refine .ret ⟨.int .i64 10,Res.one rfl rfl,⟨_,by rw [St.begin_10 C1];rfl,by rw [St.begin_10 C1];exact (ds_close (r':=(⟨p,lg,w.z,w.in_,many,om,ov,sa,sc,svl,pF,ga⟩:RS G.α)) (E':=E) (ok.f1.f1) hf (fun j hj=>.inl (he j hj)) V)⟩⟩
 refine .skip<|.seq<|.r<|.z .mvP<|.z .mvP<|.z .mvP<|.z .nil<|.z (.fa T.fd123_0)<|.z (.ldx T.ag116 ok.m0)<|.k 19 (.inv (G.mPages _)) (G.cPages (F:=pF) (a:=ga) ok.m3)<|.a' 20 (.mkm (Value.int .i64) ok) ?_;rintro _ η1 ⟨mb1,rfl,ok⟩;refine .z (.bd #[.int .i64 ((G.sure ga).length:Int),.map (some mb1)] T.zr120 T.pl120 rfl)<|.z .nil<|.z (.fa T.fd123_3)<|.ur' (.stB T.sz4 ok.n1) ?_;rintro η2 ⟨ok,cg⟩;refine .z .nil<|.z (.fa T.fd123_4)<|.ur' (.stA (vs:=[.int .i64 ((G.sure ga).length:Int),.map (some mb1)]) T.sz120 ok (oneL rfl)) ?_;rintro η3 ⟨ok,cg⟩;refine .nil ?_;refine .seq<|.r<|.z .asI<|.nil ?_;have ok:=Hp.pbsNil (ok);refine .ret ⟨.int .i64 0,Res.one rfl rfl,⟨_,by rw [St.begin_0 (by simpa using C1)];rfl,by rw [St.begin_0 (by simpa using C1)];exact (ds_close (r':=(⟨p,lg,w.z,true,(G.sure ga).length,(some mb1),[],sa,sc,svl,pF,ga⟩:RS G.α)) (E':=E) (ok.n4.n4.n3.n3.f1.f1.k4) hf (fun j hj=>.inl (he j hj)) (V.begin (by simpa using C1)))⟩⟩
theorem sBeginNil_any {h:Heap} :
  HC Tryz.prog 45 #[.pointer none] h (fun v h'=>v=.int .i64 2∧h'=h):=by
 refine HC.go Tryz.func45 26 ?_;refine .seq<|.r<|.z .asI<|.nil ?_;refine .seq<|.seq<|.r<|.z .mvP<|.k 5 .func susableNil_any<|.z .asI<|.nil ?_;refine .seq<|.r<|.z .mvI<|.z .neq<|.nil ?_;refine .ct<|.seq<|.r<|.z .mvI<|.z .asI<|.nil ?_;refine .ret ⟨.int .i64 2,Res.one rfl rfl,⟨rfl,rfl⟩⟩
theorem send_any {G:Pgr} {h:Heap} {so:Nat} {r:RS G.α} (ok:Hp h (sboxI G so r).F [sboxI G so r] [] h) :
  HC Tryz.prog 103 #[.pointer (some ⟨so,0,none⟩)] h (fun v h'=>v=.tuple #[]∧Hp h (sboxI G so r).F [sboxI G so { r with in_:=false,many:=0,om:=none,ov:=[],sa:=none,sc:=0,sv:=[] }] [] h'):=by
 refine HC.go Tryz.func103 12 ?_;refine .r<|.z .mvP<|.z .mvP<|.z .mvP<|.z (.bd #[.int .i64 0,.map none] T.zr120 T.pl120 rfl)<|.z .nil<|.z (.fa T.fd123_3)<|.ur' (.stB T.sz4 ok) ?_;rintro η1 ⟨ok,cg⟩;refine .z .nil<|.z (.fa T.fd123_4)<|.ur' (.stA (vs:=[.int .i64 0,.map none]) T.sz120 ok (oneL rfl)) ?_;rintro η2 ⟨ok,cg⟩;refine .z .nil<|.z (.fa T.fd123_5)<|.ur' (.stS T.sz121 ok) ?_;rintro η3 ⟨ok,cg⟩;refine .nil ?_;refine .end<|⟨.tuple #[],Res.none rfl,⟨rfl,ok⟩⟩
theorem sRollbackNil_any {h:Heap} :
  HC Tryz.prog 51 #[.pointer none] h (fun v h'=>v=.int .i64 2∧h'=h):=by
 refine HC.go Tryz.func51 11 ?_;refine .seq<|.r<|.z .asI<|.nil ?_;refine .seq<|.seq<|.r<|.z .mvP<|.k 5 .func swithinNil_any<|.z .asI<|.nil ?_;refine .seq<|.r<|.z .mvI<|.z .neq<|.nil ?_;refine .ct<|.seq<|.r<|.z .mvI<|.z .asI<|.nil ?_;refine .ret ⟨.int .i64 2,Res.one rfl rfl,⟨rfl,rfl⟩⟩
theorem sSetHead_any {G:Pgr} {h:Heap} {so:Nat} {F:Nat→Prop} {w:St} {H:Hd} (ok:Hp h F [dsI G so F w] [] h) (hr:HdIn H) :
  HC Tryz.prog 46 #[.pointer (some ⟨so,0,none⟩),H.val] h (fun v h'=>∃F',v=.int .i64 ((w.setHead H).2:Int)∧Hp h F [dsI G so F' (w.setHead H).1] [] h'):=by
 obtain ⟨r,E,V,ok,hf,he⟩:=ds_open ok;have hzc:=V.zc;have hfew:=V.few;have hnf:=V.nowfew;obtain ⟨p,lg,z,in_,many,om,ov,sa,sc,svl,pF,ga⟩:=r;dsimp only at ok hf;generalize stF G so _=DF at ok hf;obtain rfl:z=w.z:=V.z;obtain rfl:in_=w.in_:=V.in_;have hpgs:(if w.in_=true then many else (G.sure ga).length)=w.pgs.length:=V.pgs;have ok:Hp h DF [boxI so 123 [.iface G.tid (.pointer (some ⟨p,0,none⟩)),.pointer lg,.int .i64 (w.z:Int),.bool w.in_,.int .i64 (many:Int),.map om,.slice sa svl.length sc,.bool false],nowI om ov,capI 2 120 (sa,svl.length,sc) (svl.flatMap RSv.cells),G.it p pF ga] [pbsI E ov,svsI E svl] h:=ok;have hsz0:=ok.chg.size;refine HC.go Tryz.func46 59 ?_;refine .seq<|.r<|.a' 3 (.bxA (cs:=[.int .i64 H.size,.int .i64 H.pages,.int .i64 H.free,.int .i64 H.many,.int .i64 H.cookie,.int .i64 H.version]) ok) ?_;rintro _ η1 ⟨pb1,rfl,ok,xe⟩;refine .z .asI<|.nil ?_;refine .seq<|.seq<|.r<|.z .mvP<|.k 9 .func (swithin_any (G:=G) (r:=(⟨p,lg,w.z,w.in_,many,om,ov,sa,sc,svl,pF,ga⟩:RS G.α)) (i:=w.in_) ok.m1 rfl)<|.z .asI<|.nil ?_;refine .seq<|.r<|.z .mvI<|.z .neq<|.nil ?_;refine .cd (fun C0=>?_) (fun C0=>?_)
 ·
  have hw:w.in_=false:=wthE_y C0;refine .seq<|.r<|.z .mvI<|.z .asI<|.nil ?_;refine .ret ⟨.int .i64 ((wthE w.in_):Int),Res.one rfl rfl,⟨_,by rw [St.setHead_10 hw,wthE_f (by rw [hw];decide)],by rw [St.setHead_10 hw];exact (ds_close (r':=(⟨p,lg,w.z,w.in_,many,om,ov,sa,sc,svl,pF,ga⟩:RS G.α)) (E':=E) (ok.n4.n4.n4.n4.f1.f1.k4) hf (fun j hj=>.inl (he j hj)) V)⟩⟩
 have hw:w.in_=true:=wthE_n C0;have hmany:many=w.now.length:=V.many hw;refine .skip<|.seq<|.r<|.z (.ldb T.ag38 ok.m0 T.sz38)<|.c' 15 .func (encN_any (H:=H) hr) ?_;rintro _ η2 (⟨hck,rfl,hx⟩ | ⟨hck,yw,rfl,own⟩)
 ·
  have ok:=ok.ext hx;refine .z .mvU<|.z .ex<|.z .ex<|.z .asS<|.z .asI<|.nil ?_;refine .seq<|.seq<|.q (hm:=mixed)<|.z .mvI<|.z .neq<|.z .mvB<|.y<|.y<|.y<|.y<|.y<|.y<|.y<|.z .pkt<|.z .mvB<|.y<|.y<|.y<|.y<|.y<|.y<|.y<|.y<|.y<|.z .pkt<|.nil ?_;refine .ct<|.seq<|.r<|.z .asI<|.nil ?_;refine .ret ⟨.int .i64 1,Res.one rfl rfl,⟨_,by rw [St.setHead_1 hw (by first | exact .inl hck | exact .inr (.inl (by omega)) | exact .inr (.inr (by omega)))];rfl,by rw [St.setHead_1 hw (by first | exact .inl hck | exact .inr (.inl (by omega)) | exact .inr (.inr (by omega)))];exact (ds_close (r':=(⟨p,lg,w.z,w.in_,many,om,ov,sa,sc,svl,pF,ga⟩:RS G.α)) (E':=E) (ok.n4.n4.n4.n4.f1.f1.k4) hf (fun j hj=>.inl (he j hj)) V)⟩⟩
 obtain ⟨ya1,yc1,rfl⟩:=own.formB;have ok:=ok.own own;refine .z .mvU<|.z .ex<|.z .ex<|.z .asS<|.z .asI<|.nil ?_;refine .seq<|.seq<|.q (hm:=mixed)<|.z .mvI<|.z .neq<|.z .mvB<|.z (.fa T.fd38_0)<|.z (.ldx T.ag3 ok.m1)<|.z .mvP<|.z .nil<|.z (.fa T.fd123_2)<|.z (.ldx T.ag3 ok.m2)<|.z .neq<|.z .pkf<|.z .mvB<|.sd (fun G29=>?_) (fun G29=>?_)
 ·
  refine .y<|.y<|.y<|.y<|.y<|.y<|.y<|.y<|.y<|.z .pkt<|.nil ?_;refine .ct<|.seq<|.r<|.z .asI<|.nil ?_;refine .ret ⟨.int .i64 1,Res.one rfl rfl,⟨_,by rw [St.setHead_1 hw (by first | exact .inl hck | exact .inr (.inl (by omega)) | exact .inr (.inr (by omega)))];rfl,by rw [St.setHead_1 hw (by first | exact .inl hck | exact .inr (.inl (by omega)) | exact .inr (.inr (by omega)))];exact (ds_close (r':=(⟨p,lg,w.z,w.in_,many,om,ov,sa,sc,svl,pF,ga⟩:RS G.α)) (E':=E) (ok.n5.n5.n5.n5.f1.f1.k4) hf (fun j hj=>.inl (he j hj)) V)⟩⟩
 refine .z (.fa T.fd38_1)<|.z (.ldx T.ag3 ok.m1)<|.z .mvP<|.z .nil<|.z (.fa T.fd123_4)<|.z (.fa T.fd120_0)<|.z (.ldx T.ag3 ok.m2)<|.z .max2<|.z .gtr<|.z .pkf<|.nil ?_;refine .cd (fun C1=>?_) (fun C1=>?_)
 ·
  refine .seq<|.r<|.z .asI<|.nil ?_;refine .ret ⟨.int .i64 1,Res.one rfl rfl,⟨_,by rw [St.setHead_1 hw (by first | exact .inl hck | exact .inr (.inl (by omega)) | exact .inr (.inr (by omega)))];rfl,by rw [St.setHead_1 hw (by first | exact .inl hck | exact .inr (.inl (by omega)) | exact .inr (.inr (by omega)))];exact (ds_close (r':=(⟨p,lg,w.z,w.in_,many,om,ov,sa,sc,svl,pF,ga⟩:RS G.α)) (E':=E) (ok.n5.n5.n5.n5.f1.f1.k4) hf (fun j hj=>.inl (he j hj)) V)⟩⟩
 obtain ⟨n,hn⟩:∃n:Nat,H.pages=(n:Int):=⟨H.pages.toNat,by have:=hck.2.1.1;omega⟩;rw [hn] at ok⊢;obtain ⟨mb,rfl⟩:=(V.now hw).1;have ok:=Hp.nowSome (ok.n3);refine .skip<|.seq<|.a 13 (fun fl hh=>cell hh so 2=some (.int .i64 (w.z:Int))) mixed ?_;have hS:=(at_box (o:=2) ok.m3 rfl:cell _ so 2=some (.int .i64 (w.z:Int)));refine .g 0 false rfl 40 hS (fun _=>.mvP)<|.g 1 false rfl 41 hS (fun _=>.nil)<|.g 2 false rfl 42 hS (fun _=>.fa T.fd123_4)<|.g 3 false rfl 43 hS (fun _=>.mvS)<|.g 4 false rfl 44 hS (fun _=>.mvP)<|.g 5 false rfl 45 hS (fun _=>.nil)<|.g 6 false rfl 46 hS (fun _=>.fa T.fd123_2)<|.lw 7 false rfl 47 hS (fun _ _ hS=>.ld T.ag3 hS)<|.g 8 false rfl 48 hS (fun _=>.mvS)<|.g 9 false rfl 49 hS (fun _=>.len T.el44)<|.g 10 false rfl 50 hS (fun _=>.sub (hr:=(by rw [enc_len];omega)))<|.o1 11<|.a' false rfl 51 (.apz (z:=((w.z:Int)-(((H.enc).length:Nat):Int))) (w.z-64) T.el44 T.in3 T.sz5 T.by5 T.zr5 ok.n1 (by rw [enc_len];omega) (by rw [enc_len];omega)) ?_;rintro _ η3 ⟨ya2,yc2,rfl,ok⟩;refine ⟨(at_box (o:=2) ok.m3 rfl:cell _ so 2=some (.int .i64 (w.z:Int))),?_⟩;have hS:=(at_box (o:=2) ok.m3 rfl:cell _ so 2=some (.int .i64 (w.z:Int)));refine .o1 12<|.c' false rfl 52 .func (sput_any (G:=G) (r:=(⟨p,lg,w.z,w.in_,many,(some mb),ov,sa,sc,svl,pF,ga⟩:RS G.α)) (mb:=mb) (a:=ya2) (c:=yc2) (l:=((H.enc)++List.replicate (w.z-64) 0)) (no:=1) (Hp.locL [boxI so 123 [.iface G.tid (.pointer (some ⟨p,0,none⟩)),.pointer lg,.int .i64 (w.z:Int),.bool w.in_,.int .i64 (many:Int),.map (some mb),.slice sa svl.length sc,.bool false],mapI (Value.int .i64) mb (bsE ov)] (ok.n1.n3)).e0 (by rfl)) ?_;rintro _ η4 ⟨rfl,q⟩;have ok:=Hp.liftL [boxI so 123 [.iface G.tid (.pointer (some ⟨p,0,none⟩)),.pointer lg,.int .i64 (w.z:Int),.bool w.in_,.int .i64 (many:Int),.map (some mb),.slice sa svl.length sc,.bool false],mapI (Value.int .i64) mb (bsE ov)] (ok.n1.n3) q;have hnb:=Hp.putNew (ok.n2) hf;have ok:=Hp.pbsPut (k:=(1:Int)) (ok.n2);have ok:=ok.d0 (svsI (fun j=>E j∨blkC (sv (ya2,((H.enc)++List.replicate (w.z-64) 0).length,yc2)) j) svl) (Svs.mono (E:=E) (E':=(fun j=>E j∨blkC (sv (ya2,((H.enc)++List.replicate (w.z-64) 0).length,yc2)) j)) (fun j h=>Or.inl h) ok.r1) (fun _ h=>h);refine ⟨(at_box (o:=2) ok.m0 rfl:cell _ so 2=some (.int .i64 (w.z:Int))),?_⟩;have hS:=(at_box (o:=2) ok.m0 rfl:cell _ so 2=some (.int .i64 (w.z:Int)));refine .e ?_;refine .seq<|.t 5 mixed ?_;simp only [List.take_succ_cons,List.take_zero,List.drop_succ_cons,List.drop_zero];refine .z .mvP<|.z .nil<|.z (.fa T.fd123_4)<|.z (.fa T.fd38_1)<|.z (.ldx T.ag3 ok.m2)<|.nil ?_;refine .c' 58 .func (scut_any (G:=G) (r:=(⟨p,lg,w.z,w.in_,(max many 1),(some mb),(mput ov (1:Int) ⟨ya2,yc2,((H.enc)++List.replicate (w.z-64) 0)⟩),sa,sc,svl,pF,ga⟩:RS G.α)) (mb:=mb) (n:=n) (Hp.locL [boxI so 123 [.iface G.tid (.pointer (some ⟨p,0,none⟩)),.pointer lg,.int .i64 (w.z:Int),.bool w.in_,.int .i64 ((max many 1:Nat):Int),.map (some mb),.slice sa svl.length sc,.bool false],mapI (Value.int .i64) mb (bsE (mput ov (1:Int) ⟨ya2,yc2,((H.enc)++List.replicate (w.z-64) 0)⟩))] (ok)).e0 (by rfl)) ?_;rintro _ η5 ⟨rfl,q⟩;have ok:=Hp.liftL [boxI so 123 [.iface G.tid (.pointer (some ⟨p,0,none⟩)),.pointer lg,.int .i64 (w.z:Int),.bool w.in_,.int .i64 ((max many 1:Nat):Int),.map (some mb),.slice sa svl.length sc,.bool false],mapI (Value.int .i64) mb (bsE (mput ov (1:Int) ⟨ya2,yc2,((H.enc)++List.replicate (w.z-64) 0)⟩))] (ok) q;have ok:=ok.d1 (pbsI (fun j=>E j∨blkC (sv (ya2,((H.enc)++List.replicate (w.z-64) 0).length,yc2)) j) (((mput ov (1:Int) ⟨ya2,yc2,((H.enc)++List.replicate (w.z-64) 0)⟩)).filter fun p=>decide (p.1≤(n:Int)))) (Pbs.filt ok.r1) (fun _ h=>h);refine .nil ?_;refine .seq<|.r<|.z .asI<|.nil ?_;have hno:¬(¬ChkP H∨H.size≠(w.z:Int)∨max 1 (w.now.length:Int)<H.pages):=by rintro (h | h | h);exact h hck;exact h (by omega);omega
 refine .ret ⟨.int .i64 0,Res.one rfl rfl,⟨_,by rw [St.setHead_0 hw hno hn];rfl,by rw [St.setHead_0 hw hno hn];exact (ds_close (r':=(⟨p,lg,w.z,w.in_,n,(some mb),(((mput ov (1:Int) ⟨ya2,yc2,((H.enc)++List.replicate (w.z-64) 0)⟩)).filter fun p=>decide (p.1≤(n:Int))),sa,sc,svl,pF,ga⟩:RS G.α)) (E':=(fun j=>E j∨blkC (sv (ya2,((H.enc)++List.replicate (w.z-64) 0).length,yc2)) j)) (ok.n4.n4.n3.n3.f1.f1.k4) hf (fun j hj=>hj.elim (fun hj=>.inl (he j hj)) (hnb j)) (V.setHead hw (x:=⟨ya2,yc2,((H.enc)++List.replicate (w.z-64) 0)⟩) hck (by omega) hn (by omega) rfl))⟩⟩
theorem sSetHeadNil_any {h:Heap} {H:Hd} :
  HC Tryz.prog 46 #[.pointer none,H.val] h (fun v h'=>v=.int .i64 2∧Ext h h'):=by
 have ok:=Hp.nil h none_;refine HC.go Tryz.func46 59 ?_;refine .seq<|.r<|.a' 3 (.bxA (cs:=[.int .i64 H.size,.int .i64 H.pages,.int .i64 H.free,.int .i64 H.many,.int .i64 H.cookie,.int .i64 H.version]) ok) ?_;rintro _ η1 ⟨pb1,rfl,ok,xe⟩;refine .z .asI<|.nil ?_;refine .seq<|.seq<|.r<|.z .mvP<|.k 9 .func swithinNil_any<|.z .asI<|.nil ?_;refine .seq<|.r<|.z .mvI<|.z .neq<|.nil ?_;refine .ct<|.seq<|.r<|.z .mvI<|.z .asI<|.nil ?_;refine .ret ⟨.int .i64 2,Res.one rfl rfl,⟨rfl,ok.chg⟩⟩
theorem sWrite_any {G:Pgr} {h:Heap} {so:Nat} {F:Nat→Prop} {w:St} {no:Int} {a:Option Addr} {c:Nat} {l:List UInt8} {F2 E2:Nat→Prop} (ok:Hp h F [dsI G so F w] [rdI F2 E2 (a,l.length,c) l] h) (hl:l.length≤1000000000) :
  HC Tryz.prog 29 #[.pointer (some ⟨so,0,none⟩),.int .i64 no,.slice a l.length c] h (fun v h'=>∃F',v=.int .i64 ((w.write no l).2:Int)∧Hp h F [dsI G so F' (w.write no l).1] [] h'):=by
 obtain ⟨r,E,V,ok,hf,he⟩:=ds_open ok;have hzc:=V.zc;have hfew:=V.few;have hnf:=V.nowfew;obtain ⟨p,lg,z,in_,many,om,ov,sa,sc,svl,pF,ga⟩:=r;dsimp only at ok hf;generalize stF G so _=DF at ok hf;obtain rfl:z=w.z:=V.z;obtain rfl:in_=w.in_:=V.in_;have hpgs:(if w.in_=true then many else (G.sure ga).length)=w.pgs.length:=V.pgs;have ok:Hp h DF [boxI so 123 [.iface G.tid (.pointer (some ⟨p,0,none⟩)),.pointer lg,.int .i64 (w.z:Int),.bool w.in_,.int .i64 (many:Int),.map om,.slice sa svl.length sc,.bool false],nowI om ov,capI 2 120 (sa,svl.length,sc) (svl.flatMap RSv.cells),G.it p pF ga] [pbsI E ov,svsI E svl,rdI F2 E2 (a,l.length,c) l] h:=ok;have hsz0:=ok.chg.size;have hlc:=ok.r2.c;have hlm:=ok.r2.m;simp only at hlc hlm;refine HC.go Tryz.func29 62 ?_;refine .seq<|.r<|.z .asI<|.nil ?_;refine .seq<|.seq<|.r<|.z .mvP<|.k 9 .func (swithin_any (G:=G) (r:=(⟨p,lg,w.z,w.in_,many,om,ov,sa,sc,svl,pF,ga⟩:RS G.α)) (i:=w.in_) ok.m0 rfl)<|.z .asI<|.nil ?_;refine .seq<|.r<|.z .mvI<|.z .neq<|.nil ?_;refine .cd (fun C0=>?_) (fun C0=>?_)
 ·
  have hw:w.in_=false:=wthE_y C0;refine .seq<|.r<|.z .mvI<|.z .asI<|.nil ?_;refine .ret ⟨.int .i64 ((wthE w.in_):Int),Res.one rfl rfl,⟨_,by rw [St.write_10 hw,wthE_f (by rw [hw];decide)],by rw [St.write_10 hw];exact (ds_close (r':=(⟨p,lg,w.z,w.in_,many,om,ov,sa,sc,svl,pF,ga⟩:RS G.α)) (E':=E) (ok.f1.f1) hf (fun j hj=>.inl (he j hj)) V)⟩⟩
 have hw:w.in_=true:=wthE_n C0;have hmany:many=w.now.length:=V.many hw;refine .skip<|.seq<|.block fun K0 hK0=>.seq<|.r<|.z .mvI<|.z .lss<|.z .mvB<|.sd (fun G16=>?_) (fun G16=>?_)
 ·
  refine .y<|.y<|.y<|.y<|.y<|.y<|.z .pkt<|.z .mvB<|.y<|.y<|.y<|.y<|.y<|.y<|.y<|.y<|.z .pkt<|.z .mvB<|.y<|.y<|.y<|.y<|.y<|.y<|.y<|.z .pkt<|.z .asB<|.nil ?_;refine .ct<|.seq<|.r<|.z .asI<|.nil ?_;have hbad:no<2∨(w.now.length:Int)+1<no∨w.now=[]∨l.length≠w.z:=by
   first
   | exact .inl (by omega)
   | exact .inr (.inl (by omega))
   | exact .inr (.inr (.inl (List.eq_nil_of_length_eq_zero (by omega))))
   | exact .inr (.inr (.inr (by omega)))
  refine .ret ⟨.int .i64 1,Res.one rfl rfl,⟨_,by rw [St.write_1 hw hbad];rfl,by rw [St.write_1 hw hbad];exact (ds_close (r':=(⟨p,lg,w.z,w.in_,many,om,ov,sa,sc,svl,pF,ga⟩:RS G.α)) (E':=E) (ok.f1.f1) hf (fun j hj=>.inl (he j hj)) V)⟩⟩
 refine .z .mvP<|.z .nil<|.z (.fa T.fd123_4)<|.z (.fa T.fd120_0)<|.z (.ldx T.ag3 ok.m0)<|.z .lss<|.z .pkf<|.z .mvB<|.sd (fun G24=>?_) (fun G24=>?_)
 ·
  refine .y<|.y<|.y<|.y<|.y<|.y<|.y<|.y<|.z .pkt<|.z .mvB<|.y<|.y<|.y<|.y<|.y<|.y<|.y<|.z .pkt<|.z .asB<|.nil ?_;refine .ct<|.seq<|.r<|.z .asI<|.nil ?_;have hbad:no<2∨(w.now.length:Int)+1<no∨w.now=[]∨l.length≠w.z:=by
   first
   | exact .inl (by omega)
   | exact .inr (.inl (by omega))
   | exact .inr (.inr (.inl (List.eq_nil_of_length_eq_zero (by omega))))
   | exact .inr (.inr (.inr (by omega)))
  refine .ret ⟨.int .i64 1,Res.one rfl rfl,⟨_,by rw [St.write_1 hw hbad];rfl,by rw [St.write_1 hw hbad];exact (ds_close (r':=(⟨p,lg,w.z,w.in_,many,om,ov,sa,sc,svl,pF,ga⟩:RS G.α)) (E':=E) (ok.f1.f1) hf (fun j hj=>.inl (he j hj)) V)⟩⟩
 refine .z .mvI<|.z .mvP<|.z .nil<|.z (.fa T.fd123_4)<|.z (.fa T.fd120_0)<|.z (.ldx T.ag3 ok.m0)<|.z (.addI (b:=1))<|.z .gtr<|.z .pkf<|.z .mvB<|.sd (fun G34=>?_) (fun G34=>?_)
 ·
  refine .y<|.y<|.y<|.y<|.y<|.y<|.y<|.z .pkt<|.z .asB<|.nil ?_;refine .ct<|.seq<|.r<|.z .asI<|.nil ?_;have hbad:no<2∨(w.now.length:Int)+1<no∨w.now=[]∨l.length≠w.z:=by
   first
   | exact .inl (by omega)
   | exact .inr (.inl (by omega))
   | exact .inr (.inr (.inl (List.eq_nil_of_length_eq_zero (by omega))))
   | exact .inr (.inr (.inr (by omega)))
  refine .ret ⟨.int .i64 1,Res.one rfl rfl,⟨_,by rw [St.write_1 hw hbad];rfl,by rw [St.write_1 hw hbad];exact (ds_close (r':=(⟨p,lg,w.z,w.in_,many,om,ov,sa,sc,svl,pF,ga⟩:RS G.α)) (E':=E) (ok.f1.f1) hf (fun j hj=>.inl (he j hj)) V)⟩⟩
 refine .z .mvS<|.z (.len T.el44)<|.z .mvP<|.z .nil<|.z (.fa T.fd123_2)<|.z (.ldx T.ag3 ok.m0)<|.z .neq<|.z .pkf<|.z .asB<|.nil ?_;refine .cd (fun C1=>?_) (fun C1=>?_)
 ·
  refine .seq<|.r<|.z .asI<|.nil ?_;have hbad:no<2∨(w.now.length:Int)+1<no∨w.now=[]∨l.length≠w.z:=by
   first
   | exact .inl (by omega)
   | exact .inr (.inl (by omega))
   | exact .inr (.inr (.inl (List.eq_nil_of_length_eq_zero (by omega))))
   | exact .inr (.inr (.inr (by omega)))
  refine .ret ⟨.int .i64 1,Res.one rfl rfl,⟨_,by rw [St.write_1 hw hbad];rfl,by rw [St.write_1 hw hbad];exact (ds_close (r':=(⟨p,lg,w.z,w.in_,many,om,ov,sa,sc,svl,pF,ga⟩:RS G.α)) (E':=E) (ok.f1.f1) hf (fun j hj=>.inl (he j hj)) V)⟩⟩
 have hgood:¬(no<2∨(w.now.length:Int)+1<no∨w.now=[]∨l.length≠w.z):=by
  rintro (h | h | h | h)
  ·omega
  ·omega
  ·rw [h] at hmany;simp at hmany;omega
  ·omega
 obtain ⟨k,rfl⟩:∃k:Nat,no=(k:Int):=⟨no.toNat,by omega⟩;refine .seq<|.r<|.z .mvI<|.z .gtr<|.z .mvB<|.sd (fun G46=>?_) (fun G46=>?_)
 ·
  refine .y<|.y<|.y<|.y<|.y<|.y<|.y<|.z .pkt<|.z .asB<|.nil ?_;refine .ct<|.seq<|.r<|.z .asI<|.nil ?_;refine .ret ⟨.int .i64 5,Res.one rfl rfl,⟨_,by rw [St.write_5 hw hgood (by first | exact .inl (by omega) | exact .inr (by omega))];rfl,by rw [St.write_5 hw hgood (by first | exact .inl (by omega) | exact .inr (by omega))];exact (ds_close (r':=(⟨p,lg,w.z,w.in_,many,om,ov,sa,sc,svl,pF,ga⟩:RS G.α)) (E':=E) (ok.f1.f1) hf (fun j hj=>.inl (he j hj)) V)⟩⟩
 have hmz:=pg_mul (x:=(k:Int)) (s:=w.z) (by omega) (by omega) (by omega);refine .z .mvI<|.z .mvP<|.z .nil<|.z (.fa T.fd123_2)<|.z (.ldx T.ag3 ok.m0)<|.z .mulI<|.z .gtr<|.z .pkf<|.z .asB<|.nil ?_;refine .cd (fun C2=>?_) (fun C2=>?_)
 ·
  refine .seq<|.r<|.z .asI<|.nil ?_;refine .ret ⟨.int .i64 5,Res.one rfl rfl,⟨_,by rw [St.write_5 hw hgood (by first | exact .inl (by omega) | exact .inr (by omega))];rfl,by rw [St.write_5 hw hgood (by first | exact .inl (by omega) | exact .inr (by omega))];exact (ds_close (r':=(⟨p,lg,w.z,w.in_,many,om,ov,sa,sc,svl,pF,ga⟩:RS G.α)) (E':=E) (ok.f1.f1) hf (fun j hj=>.inl (he j hj)) V)⟩⟩
 have hgd:¬(1048576<(k:Int)∨16777216<(k:Int)*(w.z:Int)):=by rintro (h | h)<;>omega
 obtain ⟨mb,rfl⟩:=(V.now hw).1;have ok:=Hp.nowSome (ok.n1);refine .skip<|.end<|hK0 _ _<|.seq<|.a 5 (fun fl hh=>cond fl True (Hp h DF [] [] hh)) mixed ?_;have hS:=ok.k0.tR.tR.tR;refine .g 0 false rfl 55 hS (fun _=>.mvP)<|.g 1 false rfl 56 hS (fun _=>.nil)<|.g 2 false rfl 57 hS (fun _=>.fa T.fd123_4)<|.g 3 false rfl 58 hS (fun _=>.mvI)<|.g 4 false rfl 59 hS (fun _=>.mvS)<|.o1 5<|.c' true rfl 60 .func (bclone_any (a:=a) (c:=c) (l:=l) ok.r2 (by omega)) ?_;rintro _ η1 own;obtain ⟨ya1,yc1,rfl⟩:=own.formB;have ok:=ok.own own;refine ⟨trivial,?_⟩;refine .o1 6<|.c' true rfl 61 .func (sput_any (G:=G) (r:=(⟨p,lg,w.z,w.in_,many,(some mb),ov,sa,sc,svl,pF,ga⟩:RS G.α)) (mb:=mb) (a:=ya1) (c:=yc1) (l:=l) (no:=k) (Hp.locL [boxI so 123 [.iface G.tid (.pointer (some ⟨p,0,none⟩)),.pointer lg,.int .i64 (w.z:Int),.bool w.in_,.int .i64 (many:Int),.map (some mb),.slice sa svl.length sc,.bool false],mapI (Value.int .i64) mb (bsE ov)] (ok.n1.n2)).e0 (by rfl)) ?_;rintro _ η2 ⟨rfl,q⟩;have ok:=Hp.liftL [boxI so 123 [.iface G.tid (.pointer (some ⟨p,0,none⟩)),.pointer lg,.int .i64 (w.z:Int),.bool w.in_,.int .i64 (many:Int),.map (some mb),.slice sa svl.length sc,.bool false],mapI (Value.int .i64) mb (bsE ov)] (ok.n1.n2) q;have hnb:=Hp.putNew (ok.n2) hf;have ok:=Hp.pbsPut (k:=(k:Int)) (ok.n2);have ok:=ok.d0 (svsI (fun j=>E j∨blkC (sv (ya1,(l).length,yc1)) j) svl) (Svs.mono (E:=E) (E':=(fun j=>E j∨blkC (sv (ya1,(l).length,yc1)) j)) (fun j h=>Or.inl h) ok.r1) (fun _ h=>h);refine ⟨trivial,?_⟩;refine .e ?_;refine .seq<|.r<|.z .asI<|.nil ?_;have hkz:k*w.z≤16777216:=by have h2:((k*w.z:Nat):Int)=(k:Int)*(w.z:Int):=Int.natCast_mul _ _;omega
 refine .ret ⟨.int .i64 0,Res.one rfl rfl,⟨_,by rw [St.write_0 hw hgood hgd];rfl,by rw [St.write_0 hw hgood hgd];exact (ds_close (r':=(⟨p,lg,w.z,w.in_,(max many k),(some mb),(mput ov (k:Int) ⟨ya1,yc1,l⟩),sa,sc,svl,pF,ga⟩:RS G.α)) (E':=(fun j=>E j∨blkC (sv (ya1,(l).length,yc1)) j)) (ok.f1) hf (fun j hj=>hj.elim (fun hj=>.inl (he j hj)) (hnb j)) (V.write hw (no:=k) (x:=⟨ya1,yc1,l⟩) (by omega) (by omega) (fun h=>hgood (.inr (.inr (.inl h)))) (Classical.byContradiction fun h=>hgood (.inr (.inr (.inr h)))) hkz))⟩⟩
theorem sWriteNil_any {h:Heap} {no:Int} {x:Option Addr} {n c:Nat} :
  HC Tryz.prog 29 #[.pointer none,.int .i64 no,.slice x n c] h (fun v h'=>v=.int .i64 2∧h'=h):=by
 refine HC.go Tryz.func29 62 ?_;refine .seq<|.r<|.z .asI<|.nil ?_;refine .seq<|.seq<|.r<|.z .mvP<|.k 9 .func swithinNil_any<|.z .asI<|.nil ?_;refine .seq<|.r<|.z .mvI<|.z .neq<|.nil ?_;refine .ct<|.seq<|.r<|.z .mvI<|.z .asI<|.nil ?_;refine .ret ⟨.int .i64 2,Res.one rfl rfl,⟨rfl,rfl⟩⟩
end Go.Proofs.YtndlpekckpdncaaGreat
namespace Go.HL
open Go
theorem Hp.locW {h0 h:Heap} {D:Nat→Prop} {M R:List Itm} {x:Itm} {e:TypeId} {a:Option Addr} {c:Nat} {l:List UInt8} (ok:Hp h0 D (x::capI 1 e (a,l.length,c) (l.map bv)::M) R h):Hp h x.F [x] [rdI (blkC (sv (a,l.length,c))) none_ (a,l.length,c) l] h:=
 (ok.k2.n1.frzB (l:=l) rfl).loc1
end Go.HL
namespace Go.Proofs.YtndlpekckpdncaaGreat
open Go Go.HL
theorem St.pgk {w:St} (k:StOk w):PgsK w.z w.pgs:=by
 unfold St.pgs;split
 ·exact k.now
 ·exact k.sure
theorem St.page_len {w:St} (k:StOk w) {no:Int} (h1:1≤no) (h2:no≤(w.pgs.length:Int)):(w.pgs.getD (no-1).toNat []).length=w.z:=by
 have hi:(no-1).toNat<w.pgs.length:=by omega
 rw [List.getD_eq_getElem?_getD,List.getElem?_eq_getElem hi];exact (St.pgk k).len _ (List.getElem_mem hi)
theorem sReadOk_any {G:Pgr} {h:Heap} {so:Nat} {F:Nat→Prop} {w:St} {no:Int} {b:List UInt8} (ok:Hp h F [dsI G so F w] [] h) (h1:1≤no) (h2:no≤(w.pgs.length:Int)) (hb:b=w.pgs.getD (no-1).toNat []:=by exact rfl) :
  HC Tryz.prog 22 #[.pointer (some ⟨so,0,none⟩),.int .i64 no] h (fun v h'=>∃F' x c,v=.tuple #[.slice x b.length c,.int .i64 0]∧b.length=w.z∧Hp h F [capI 1 5 (x,b.length,c) (b.map bv),dsI G so F' w] [] h'):=by
 have k:=ds_ok ok.m0;subst hb;refine (sRead_any ok).mono fun v h' ⟨F',x,c,hv,q⟩=>?_;rw [St.read_ok h1 h2] at hv q;exact ⟨F',x,c,hv,St.page_len k h1 h2,q⟩
theorem sWriteC_any {G:Pgr} {h0 h:Heap} {D:Nat→Prop} {M R:List Itm} {so:Nat} {F:Nat→Prop} {w:St} {no:Int} {a:Option Addr} {n c:Nat} {l:List UInt8} (ok:Hp h0 D (dsI G so F w::capI 1 5 (a,n,c) (l.map bv)::M) R h) (hl:l.length≤1000000000) :
  HC Tryz.prog 29 #[.pointer (some ⟨so,0,none⟩),.int .i64 no,.slice a n c] h (fun v h'=>∃F',v=.int .i64 ((w.write no l).2:Int)∧Hp h F [dsI G so F' (w.write no l).1] [] h'):=by
 obtain rfl:n=l.length:=ok.n1.lenB;exact sWrite_any ok.locW hl
theorem St.head_pages {w:St} : w.head.pages=(w.pgs.length:Int):=by
 by_cases h:w.pgs.length=0
 ·rw [St.head_0 h,h];rfl
 ·rw [St.head_n h]
structure DgP (h:Heap) (d:Nat) (F:Nat→Prop) (D:Dk) (r:RD) (E:Nat→Prop):Prop where
 p:(dskI d r).p h
 b:Bys h E r.fs
 f:∀j,(dskI d r).F j→F j
 e:∀j,E j→F j
 n:∀j,(dskI d r).F j→¬E j
 a:r.abs=D
@[reducible] def dgI (d:Nat) (F:Nat→Prop) (D:Dk):Itm:=⟨fun h=>∃r E,DgP h d F D r E,F,fun _ _ _ c g ⟨r,E,q⟩=>⟨r,E,(dskI d r).st _ _ _ c (fun j hj=>g j (q.f j hj)) q.p,(bysI E r.fs).st _ _ _ c (fun j hj=>g j (q.e j hj)) q.b,q.f,q.e,q.n,q.a⟩⟩
section
variable {h h':Heap} {d p:Nat} {F G E E':Nat→Prop} {D:Dk} {r r':RD}
theorem dg_open {M:List Itm} (ok:Hp h F [dgI d F D] M h):∃r E,r.abs=D∧Hp h (dskI d r).F [dskI d r] [bysI E r.fs] h∧(∀j,(dskI d r).F j→F j)∧∀j,E j→F j:=by
 obtain ⟨r,E,q⟩:=ok.m0;have hl:=(ok.m (dgI d F D) (by simp)).2;exact ⟨r,E,q.a,⟨Chg.refl _ _,fun i hi=>by rw [List.mem_singleton.1 hi];exact ⟨q.p,fun j hj=>⟨(hl j (q.f j hj)).1,.inl hj⟩⟩,fun i hi=>by rw [List.mem_singleton.1 hi];exact ⟨q.b,fun j hj=>(hl j (q.e j hj)).1⟩,List.pairwise_singleton _ _,fun a ha b hb=>by rw [List.mem_singleton.1 ha,List.mem_singleton.1 hb];exact q.n⟩,q.f,q.e⟩
theorem dg_close {M:List Itm} (q:Hp h G (dskI d r'::M) [bysI E' r'.fs] h') (hG:∀j,G j→F j) (hE:∀j,E' j→F j∨h.size≤j):Hp h F (dgI d (fun j=>(dskI d r').F j∨E' j) r'.abs::M) [] h':=by
 have hm:=List.pairwise_cons.1 q.mm;refine ⟨q.chg.mono fun j _=>hG j,fun i hi=>?_,by simp,List.pairwise_cons.2 ⟨fun b hb j hj hb2=>?_,hm.2⟩,by simp⟩
 ·rcases List.mem_cons.1 hi with rfl | hi
  ·refine ⟨⟨r',E',q.m0,q.r0,fun j hj=>.inl hj,fun j hj=>.inr hj,q.mr (dskI d r') (by simp) (bysI E' r'.fs) (by simp),rfl⟩,fun j hj=>?_⟩;rcases hj with hj | hj
   ·have:=(q.m _ List.mem_cons_self).2 j hj;exact ⟨this.1,this.2.imp (hG j) id⟩
   ·exact ⟨(q.r _ List.mem_cons_self).2 j hj,hE j hj⟩
  ·have:=q.m i (List.mem_cons_of_mem _ hi);exact ⟨this.1,fun j hj=>⟨(this.2 j hj).1,(this.2 j hj).2.imp (hG j) id⟩⟩
 ·rcases hj with hj | hj
  ·exact hm.1 b hb j hj hb2
  ·exact q.mr b (List.mem_cons_of_mem _ hb) _ List.mem_cons_self j hb2 hj
theorem dg_up (up:DUp h h' d r r' E E') (hf:∀j,(dskI d r).F j→F j) (he:∀j,E j→F j):∃F',Hp h F [dgI d F' r'.abs] [] h':=⟨_,dg_close up.hp hf fun j hj=>(up.new j hj).imp (he j) id⟩
section
variable {n:List UInt8} {z y:Int} {a:Option Addr} {c:Nat} {l:List UInt8} {F2 E2:Nat→Prop}
theorem dgwrite_any (ok:Hp h F [dgI d F D] [rdI F2 E2 (a,l.length,c) l] h) (hk:DkOk D) (hcg:D.chg<1000000000) (hz : -9223372036854775808≤z∧z≤9223372036854775807) :
  HC Tryz.prog 207 #[.pointer (some ⟨d,0,none⟩),.string (BA n),.int .i64 z,.slice a l.length c] h (fun v h'=>∃F',v=.int .i64 ((writeN D n z l).2:Int)∧Hp h F [dgI d F' (writeN D n z l).1] [] h'):=by
 obtain ⟨r,E,rfl,o,hf,he⟩:=dg_open ok;have o2:Hp h (dskI d r).F [dskI d r] [bysI E r.fs,rdI F2 E2 (a,l.length,c) l] h:=⟨o.chg,o.m,fun i hi=>by
  rcases List.mem_cons.1 hi with rfl | hi
  ·exact o.r _ (by simp)
  ·exact ok.r i hi,o.mm,fun x hx b hb=>by
  rcases List.mem_cons.1 hb with rfl | hb
  ·exact o.mr x hx _ (by simp)
  ·rw [List.mem_singleton.1 hx,List.mem_singleton.1 hb];exact fun j hj=>ok.mr (dgI d F r.abs) (by simp) (rdI F2 E2 (a,l.length,c) l) (by simp) j (hf j hj)⟩
 refine (write_any o2 hk hcg hz).mono fun v h' ⟨r',E',hv,ha,up⟩=>?_;obtain ⟨F',hp⟩:=dg_up up hf he;rw [ha] at hp;exact ⟨F',hv,hp⟩
theorem dgsync_any (ok:Hp h F [dgI d F D] [] h) (hk:DkOk D) (hcg:D.chg<1000000000) :
  HC Tryz.prog 209 #[.pointer (some ⟨d,0,none⟩),.string (BA n)] h (fun v h'=>∃F',v=.int .i64 ((syncN D n).2:Int)∧Hp h F [dgI d F' (syncN D n).1] [] h'):=by
 obtain ⟨r,E,rfl,o,hf,he⟩:=dg_open ok;refine (sync_any o hk hcg).mono fun v h' ⟨r',E',hv,ha,up⟩=>?_;obtain ⟨F',hp⟩:=dg_up up hf he;rw [ha] at hp;exact ⟨F',hv,hp⟩
theorem dgsize_any (ok:Hp h F [dgI d F D] [] h) :
  HC Tryz.prog 136 #[.pointer (some ⟨d,0,none⟩),.string (BA n)] h (fun v h'=>v=.tuple #[.int .i64 ((sizeN D n).1:Int),.bool (sizeN D n).2]∧h'=h):=by
 obtain ⟨r,E,rfl,o,hf,he⟩:=dg_open ok;exact size_anyD o.m0
theorem dgread_any (ok:Hp h F [dgI d F D] [] h) (hk:DkOk D) (hy : -9223372036854775808≤y∧y≤9223372036854775807) (hz : -9223372036854775808≤z∧z≤9223372036854775807) :
  HC Tryz.prog 180 #[.pointer (some ⟨d,0,none⟩),.string (BA n),.int .i64 y,.int .i64 z] h (fun v h'=>∃w,v=.tuple #[w,.int .i64 ((readN D n y z).2:Int)]∧Own h h' 1 5 w ((readN D n y z).1.map bv)):=by
 obtain ⟨r,E,rfl,o,hf,he⟩:=dg_open ok;exact read_anyD o.rdo hk hy hz
theorem dgdark_any (ok:Hp h F [dgI d F D] [] h) :
  HC Tryz.prog 135 #[.pointer (some ⟨d,0,none⟩)] h (fun v h'=>v=.bool D.dark∧h'=h):=by
 obtain ⟨r,E,rfl,o,hf,he⟩:=dg_open ok;exact dark_any (dsk_parts o.m0).1
theorem dgchanges_any (ok:Hp h F [dgI d F D] [] h) :
  HC Tryz.prog 268 #[.pointer (some ⟨d,0,none⟩)] h (fun v h'=>v=.int .i64 D.chg∧h'=h):=by
 obtain ⟨r,E,rfl,o,hf,he⟩:=dg_open ok;exact changes_any (dsk_parts o.m0).1
end
theorem dgnew_any:HC Tryz.prog 35 #[] h (fun v h'=>∃d F,v=.pointer (some ⟨d,0,none⟩)∧Hp h none_ [dgI d F newN] [] h'):=
 new_any.mono fun v h' ⟨d,r,hv,ha,q⟩=>⟨d,_,hv,by
  have hp:=dg_close (F:=none_) q (fun _ f=>f) (fun j f=>f.elim);rw [ha] at hp;exact hp⟩
end
open Go Go.HL
def gd (b:List UInt8) (i:Nat):UInt8:=b.getD i 0
theorem gd_ge {b:List UInt8} {i:Nat} (h:b.length≤i):gd b i=0:=by unfold gd;rw [List.getD_eq_getElem?_getD,List.getElem?_eq_none h];rfl
theorem gd_lt {b:List UInt8} {i:Nat} (h:i<b.length):gd b i=b[i]:=by unfold gd;rw [List.getD_eq_getElem?_getD,List.getElem?_eq_getElem h];rfl
theorem gd_app {a b:List UInt8} {i:Nat} : gd (a++b) i=if i<a.length then gd a i else gd b (i-a.length):=by
 unfold gd;rw [List.getD_eq_getElem?_getD,List.getD_eq_getElem?_getD,List.getD_eq_getElem?_getD];split
 ·rename_i h;rw [List.getElem?_append_left h]
 ·rename_i h;rw [List.getElem?_append_right (by omega)]
theorem gd_take {b:List UInt8} {n i:Nat} : gd (b.take n) i=if i<n then gd b i else 0:=by
 split
 ·rename_i h;unfold gd;rw [List.getD_eq_getElem?_getD,List.getD_eq_getElem?_getD,List.getElem?_take_of_lt h]
 ·rename_i h;exact gd_ge (by rw [List.length_take];omega)
theorem gd_drop {b:List UInt8} {n i:Nat} : gd (b.drop n) i=gd b (n+i):=by unfold gd;rw [List.getD_eq_getElem?_getD,List.getD_eq_getElem?_getD,List.getElem?_drop]
theorem gd_zeros {n i:Nat} : gd (List.replicate n 0) i=0:=by
 by_cases h:i<n
 ·rw [gd_lt (by simpa using h)];simp
 ·exact gd_ge (by simp;omega)
theorem ext_gd {a b:List UInt8} (hl:a.length=b.length) (h:∀i,i<a.length→gd a i=gd b i):a=b:=by
 refine List.ext_getElem hl fun i h1 h2=>?_;have:=h i h1;rwa [gd_lt h1,gd_lt h2] at this
theorem gd_longN {b:List UInt8} {n i:Nat} : gd (longN b n) i=if i<n then gd b i else 0:=by
 unfold longN;rw [gd_app,gd_take,gd_zeros,List.length_take];by_cases h1:i<n
 ·by_cases h2:i<b.length
  ·rw [if_pos (by omega),if_pos h1]
  ·rw [if_neg (by omega),if_pos h1,gd_ge (by omega)]
 ·rw [if_neg (by omega),if_neg h1]
def wrB (b:List UInt8) (p:Nat) (c:List UInt8):List UInt8:=patchN (longN b (max b.length (p+c.length))) p c
theorem wrB_len {b c:List UInt8} {p:Nat} : (wrB b p c).length=max b.length (p+c.length):=by
 unfold wrB;rw [patchN_len (by rw [longN_len];omega),longN_len]
theorem gd_wrB {b c:List UInt8} {p i:Nat} : gd (wrB b p c) i=if p≤i∧i<p+c.length then gd c (i-p) else gd b i:=by
 unfold wrB patchN;obtain ⟨m,hm⟩:∃m,m=max b.length (p+c.length):=⟨_,rfl⟩;have h1:b.length≤m:=by omega
 have h2:p+c.length≤m:=by omega
 rw [←hm];have h3:((longN b m).take p).length=p:=by rw [List.length_take,longN_len];omega
 rw [gd_app,gd_app,List.length_append,h3,gd_take,gd_drop,gd_longN,gd_longN];by_cases g1:i<p
 ·rw [if_pos (by omega),if_pos g1,if_pos g1,if_pos (by omega),if_neg (by omega)]
 ·by_cases g2:i<p+c.length
  ·rw [if_pos g2,if_neg g1,if_pos ⟨by omega,g2⟩]
  ·have g3:¬(p≤i∧i<p+c.length):=fun h=>g2 h.2;rw [if_neg g2,show p+c.length+(i-(p+c.length))=i by omega,if_neg g3];split
   ·rfl
   ·rw [gd_ge (by omega)]
def nOk (n:List UInt8):Prop:=1≤n.length∧n.length≤32
section
variable {d:Dk} {r:Dk × Nat} {G G' B B':Dk→Prop} {n:List UInt8}
theorem wrong_0 {zs:List Int} (hd:d.dark=false) (hn:nOk n) (hz:∀z∈zs,0≤z):wrongN d n zs=0:=by
 unfold wrongN;rw [if_neg,if_neg (by rw [hd];decide)];rintro (h | h | ⟨z,h1,h2⟩)
 ·have:=hn.1;omega
 ·have:=hn.2;omega
 ·have:=hz z h1;omega
end
open Go Go.HL
theorem okZ_of {z:Nat} (h:okSz z=true):okZ (z:Int)=true:=by have:=okSz_cases h;exact decide_eq_true (by omega)
def jsign:List UInt8:=[116,111,109,101,32,106,110,108]
def okJ (n k:Nat):Bool:=okSz n && decide (k≤1048576∧n*k≤16777216)
def jfrontN (n k s:Nat):List UInt8:=jsign++fixedN n 4++fixedN k 4++fixedN s 8
def jheadN (n k s:Nat):List UInt8:=jfrontN n k s++fixedN (sumN (jfrontN n k s)) 4
def jfootN (s:Nat) (b:List UInt8):List UInt8:=fixedN (sumN (fixedN s 8++b)) 4
def jbodyN (p:Nat) (b:List UInt8):List UInt8:=fixedN p 4++b
def jputN (s p:Nat) (b:List UInt8):List UInt8:=jbodyN p b++jfootN s (jbodyN p b)
def okE (f:Fr):Bool:=decide (1≤f.page∧f.page≤1048576∧f.commit=0) && okSz f.b.length
theorem okJ_1 {n k:Nat} (h:okZ (n:Int)=false):okJ n k=false:=by rw [okZ_nat] at h;simp [okJ,h]
theorem okJ_2 {n k:Nat} (h:¬k≤1048576):okJ n k=false:=by simp [okJ,h]
theorem okJ_3 {n k:Nat} (h:¬n*k≤16777216):okJ n k=false:=by simp [okJ,h]
theorem okJ_t {n k:Nat} (h:okZ (n:Int)=true) (h1:k≤1048576) (h2:n*k≤16777216):okJ n k=true:=by rw [okZ_nat] at h;simp [okJ,h,h1,h2]
theorem okZ_le {n:Nat} (h:okZ (n:Int)=true):n=256∨n=512∨n=1024∨n=2048∨n=4096:=by
 have:=of_decide_eq_true h;omega
theorem okZ_mul {n k:Nat} (h:okZ (n:Int)=true) (hk:k≤1048576):n*k≤4294967296:=
 Nat.le_trans (Nat.mul_le_mul (show n≤4096 by have:=okZ_le h;omega) hk) (by decide)
theorem okZ_quo {n k:Nat} (h:okZ (n:Int)=true):k≤16777216 / n↔n*k≤16777216:=by
 rcases okZ_le h with rfl | rfl | rfl | rfl | rfl<;>omega
theorem jheadN_len (n k s:Nat):(jheadN n k s).length=28:=by simp [jheadN,jfrontN,jsign,fixedN_len]
theorem jputN_len (s p:Nat) (b:List UInt8):(jputN s p b).length=b.length+8:=by simp [jputN,jbodyN,jfootN,fixedN_len];omega
theorem okE_1 {p q:Int} {l:List UInt8} (h:¬(1≤p∧p≤1048576∧q=0)):okE ⟨p,q,l⟩=false:=by simp only [okE,decide_eq_false h,Bool.false_and]
theorem okE_2 {p q:Int} {l:List UInt8} (h:okZ (l.length:Int)=false):okE ⟨p,q,l⟩=false:=by rw [okZ_nat] at h;simp only [okE,h,Bool.and_false]
theorem okE_t {p q:Int} {l:List UInt8} (h:okZ (l.length:Int)=true) (h1:1≤p∧p≤1048576∧q=0):okE ⟨p,q,l⟩=true:=by rw [okZ_nat] at h;simp only [okE,h,decide_eq_true h1,Bool.and_true]
end Go.Proofs.YtndlpekckpdncaaGreat
namespace Go.Proofs
open Go.Shelf
def Tryz.keysC_ren:Go.Shelf.Ren:=⟨fun | 7=>319 | 10=>320 | n=>n,fun | 23=>245 | 26=>3 | 3=>339 | 28=>217 | 0=>0 | 27=>216 | 33=>49 | 4=>4 | n=>n,fun | n=>n⟩
theorem Tryz.keysC:Go.Proofs.SlLaysZI.n7 Tryz.prog Tryz.keysC_ren:={
 mixed:=by kernel_rfl
 f7:=⟨Tryz.f319.name,by decide,Tryz.func319.trans (congrArg some (by kernel_rfl))⟩
 f10:=⟨Tryz.f320.name,by decide,Tryz.func320.trans (congrArg some (by kernel_rfl))⟩
 t0:=Tryz.underlying0
 a0:=Tryz.isAgg0
 z0:=Tryz.sizeOf0
 v0:=Tryz.zeroValue0
 t4:=Tryz.underlying4
 a4:=Tryz.isAgg4
 z4:=Tryz.sizeOf4
 v4:=Tryz.zeroValue4
 t23:=Tryz.underlying245
 a23:=Tryz.isAgg245
 z23:=Tryz.sizeOf245
 v23:=Tryz.zeroValue245
 t26:=Tryz.underlying3
 a26:=Tryz.isAgg3
 z26:=Tryz.sizeOf3
 v26:=Tryz.zeroValue3
 t27:=Tryz.underlying216
 a27:=Tryz.isAgg216
 z27:=Tryz.sizeOf216
 v27:=Tryz.zeroValue216
 t28:=Tryz.underlying217
 a28:=Tryz.isAgg217
 z28:=Tryz.sizeOf217
 v28:=Tryz.zeroValue217
 t33:=Tryz.underlying49
 a33:=Tryz.isAgg49
 z33:=Tryz.sizeOf49
 v33:=Tryz.zeroValue49 }
end Go.Proofs
namespace Go.Proofs.YtndlpekckpdncaaGreat
open Go Go.HL Go.RowKit Go.Maps Go.Sort Go.Shelf Go.MapKept
theorem ckeys_any {h:Heap} {mb:Nat} : HC Tryz.prog 319 #[.map (some mb)] h (fun v h'=>v=.func (.func 320) #[] #[ptr h.size]∧h'=h.push (.cells #[.map (some mb)] 245 (0,0))):=
 HC.of_calls ⟨_,Tryz.func319,by decide,rfl⟩ fun w hw=>(callsIn_wide.1 (AnyZI.keys_in Tryz.keysC Fence.wide 5 trivial rfl (some mb) w)).mono fun e w' ⟨h1,h2⟩=>by
  subst h2 hw;exact ⟨_,h1,(RowKit.Below.refl _ w).alloc (Nat.le_refl _) _,rfl,rfl⟩
theorem csorted_any {h:Heap} {mb:Nat} {ks:List Int} {f:Int→Value} (hm:MapT (Value.int .i64) h mb (ks.map fun k=>(k,f k))) (hr:∀k∈ks,-9223372036854775808≤k∧k≤9223372036854775807) (hl:ks.length≤1000000000000) :
  HC Tryz.prog 144 #[.func (.func 320) #[] #[ptr h.size]] (h.push (.cells #[.map (some mb)] 245 (0,0)))
   (fun v h'=>∃S:List Int,S.Perm ks∧S.Pairwise (·≤·)∧Own (h.push (.cells #[.map (some mb)] 245 (0,0))) h' 1 3 v (S.map iv)):=
 HC.of_calls ⟨_,Tryz.func144,by decide,rfl⟩ fun w hw=>by
  have hsz:w.heap.size=h.size+1:=by rw [hw];simp
  obtain ⟨nn,D,hown,hD,hK⟩:=owns_keys hm hr hl (w:=w) (by rw [hw,Array.getElem?_push,if_neg (by have:=hm.lt;omega)]);have hseq:SeqGives Fence.wide 2 Tryz.prog 320 #[.pointer (some ⟨h.size,0,none⟩)] encZ (fun ss=>ss.Perm (intKeys D)) (Maps.size D) w:=
   AnyZI.keys_gives (ρ:=Tryz.keysC_ren) { Tryz.keysC with } Fence.wide _ trivial rfl (by omega) h.size mb nn D w (by omega) (by rw [cell?_eq,hw];exact cell_of (push_same _ _) 0) hown
  have cS:=AnyZI.sorted_in Tryz.sortedA Fence.wide 5 trivial trivial trivial trivial rfl (by omega) (sorts_in _) (enters_of Tryz.func68 (by kernel_rfl) rfl) 320 #[.pointer (some ⟨h.size,0,none⟩)] trivial (enters_of Tryz.func320 (by kernel_rfl) rfl) _ (Maps.size D) (by show _≤9223372036854775807;omega) (by omega) w hseq;refine (callsIn_wide.1 cS).mono fun e w' ⟨v,ss,h1,h2,h3,h4,h5⟩=>⟨v,h1,by rw [←hw];exact h5,ss.mergeSort (fun x y=>decide (x≤y)),?_,?_,?_⟩
  ·exact (List.mergeSort_perm _ _).trans (h2.trans hK)
  ·have:=List.pairwise_mergeSort (le:=fun x y:Int=>decide (x≤y)) (fun a b c h1 h2=>by simp at h1 h2⊢;omega) (fun a b=>by simp;omega) ss;exact this.imp fun h=>by simpa using h
  ·have hx:Ext w.heap w'.heap:=Ext.of_below rfl h5;rw [←hw];have hml:(ss.mergeSort fun x y=>decide (x≤y)).length=ss.length:=List.length_mergeSort _;rcases h3.2 with ⟨rfl,hz⟩ | ⟨g,cap,cur,rfl,hg,hgb,hnc,hcm,hcs,hct⟩
   ·have hs0:ss=[]:=List.length_eq_zero_iff.1 hz;subst hs0;rw [List.mergeSort_nil];exact Own.nil hx _ _
   ·refine ⟨⟨_,_,_,rfl,hnc,hcm,by simp,.inr ⟨g,0,cur,(0,0),rfl,hgb,by simp;omega,fzOk_zero _,?_⟩⟩,hx,fun b hb=>?_⟩
    ·rw [List.drop_zero];exact hct
    ·obtain ⟨o,n,c,e⟩:=hb;injection e with e;injection e with e;injection e with e;subst e;exact hg
def AFr.fr (x:AFr):Fr:=⟨x.page,x.commit,x.b⟩
def FrIn (h:Heap) (G:Nat→Prop) (v:Value) (L:List AFr):Prop:=∃x:SV,v=sv x∧RdL h G G x (L.map AFr.fr)
theorem FrIn.nil {h:Heap} {G:Nat→Prop} : FrIn h G (.slice none 0 0) []:=⟨(none,0,0),rfl,RdL.nil _ _ _⟩
theorem put_anyF {h:Heap} {F:Nat→Prop} {p:Nat} {room:Int} {L:List AP} (r:CRep h F p room L) (hlen:L.length≤100000000) (no:Int) {bs:SV} {l:List UInt8} (hb:Sl h 1 (sv bs) (l.map bv)) (hbl:l.length≤1000000) (d:Bool) (hrm:1≤room) :
  HC Tryz.prog 288 #[ptr p,.int .i64 no,sv bs,.bool d] h (fun v h'=>∃F',CRep h' F' p room (putL room no l d L)∧Step F h F' h'∧FrIn h' F' v (putA room no l d L)):=by
 obtain ⟨m,ov,ks,q,r⟩:=r;obtain ⟨dd,hdd⟩:∃dd,dd=(d || wasD no L):=⟨_,rfl⟩;refine HC.body Tryz.func288 rfl (by kernel_rfl) 87 rfl rfl ?_;refine HW.seq fun K1 hK1=>?_;refine HW.region ?_;refine HO.v (V.asS rfl) rfl 8 rfl rfl ?_;refine HO.nil ?_;refine hK1 _ _ ?_;refine HW.seq fun K2 hK2=>?_;refine HW.seq fun K3 hK3=>?_;refine HW.region ?_;refine HO.v (V.mvP rfl) rfl 12 rfl rfl ?_;refine HO.v (V.ptrEqNil rfl rfl T.pt194) rfl 13 rfl rfl ?_;refine HO.v (V.mvB rfl) rfl 14 rfl rfl ?_;refine HO.spl (fun hb2=>?_) (fun hb2=>?_)
 ·
  refine HO.no rfl 15 rfl rfl ?_;refine HO.no rfl 16 rfl rfl ?_;refine HO.v (V.pick_t rfl rfl) rfl 17 rfl rfl ?_;refine HO.nil ?_;refine hK3 _ _ ?_;refine HW.cond_t rfl ?_;refine HW.seq fun K4 hK4=>?_;refine HW.region ?_;refine HO.v (V.asS rfl) rfl 8 rfl rfl ?_;refine HO.nil ?_;refine hK4 _ _ ?_;refine HW.ret ?_;refine ⟨.slice none 0 0,Res.one rfl rfl,(by simp at hb2)⟩
 ·
  refine HO.v (V.mvI rfl) rfl 15 rfl rfl ?_;refine HO.v (V.lss rfl rfl rfl) rfl 16 rfl rfl ?_;refine HO.v (V.pick_f rfl rfl) rfl 17 rfl rfl ?_;refine HO.nil ?_;refine hK3 _ _ ?_;refine HW.cond rfl (fun hc=>?_) (fun hc=>?_)
  ·
   refine HW.seq fun K5 hK5=>?_;refine HW.region ?_;refine HO.v (V.asS rfl) rfl 8 rfl rfl ?_;refine HO.nil ?_;refine hK5 _ _ ?_;refine HW.ret ?_;refine ⟨.slice none 0 0,Res.one rfl rfl,F,(by unfold putL;rw [if_pos (of_decide_eq_true hc)];exact ⟨m,ov,ks,q,r⟩),⟨Chg.refl _ _,fun b hb=>.inl hb⟩,(by unfold putA;rw [if_pos (of_decide_eq_true hc)];exact FrIn.nil)⟩
  refine HW.skip ?_;refine hK2 _ _ ?_;refine HW.seqc (fun s hh=>Has s [(0,ptr p),(1,.int .i64 no),(2,sv bs),(3,.bool dd)]∧h=hh) ?_ ?_
  ·
   refine HW.seq fun K7 hK7=>?_;refine HW.region ?_;refine HO.v (V.mvP rfl) rfl 18 rfl rfl ?_;refine HO.v (V.nilCheck rfl) rfl 19 rfl rfl ?_;refine HO.v (V.fieldAddr rfl T.fd249_2) rfl 20 rfl rfl ?_;refine HO.v (V.load rfl (load_one T.ag245 (v:=.map (some m)) (cell_of r.hp 2))) rfl 21 rfl rfl ?_;refine HO.v (V.mvI rfl) rfl 22 rfl rfl ?_;refine HO.v (V.lookupE (KV.int .i64) rfl rfl r.mp.map T.mp245 (inB_iff T.in3) T.zr339 (r.mp.get no)) rfl 23 rfl rfl ?_;refine HO.v (V.asP rfl) rfl 9 rfl rfl ?_;refine HO.nil ?_;refine hK7 _ _ ?_;refine HW.seq fun K8 hK8=>?_;refine HW.region ?_;refine HO.v (V.mvP rfl) rfl 24 rfl rfl ?_;refine HO.v (V.ptrNeNil rfl rfl T.pt339) rfl 25 rfl rfl ?_;refine HO.nil ?_;refine hK8 _ _ ?_;refine HW.condr rfl (fun hc=>?_) (fun hc=>?_)
   ·
    refine HW.skip ?_;have hn:hit no L=none:=by simpa using hc
    obtain rfl:d=dd:=by subst hdd;unfold wasD;rw [hn];simp
    refine ⟨⟨rfl,rfl,rfl,rfl,trivial⟩,rfl⟩
   refine HW.region ?_;refine HO.v (V.mvB rfl) rfl 26 rfl rfl ?_;refine HO.v (V.mvB rfl) rfl 27 rfl rfl ?_;refine HO.spl (fun hb1=>?_) (fun hb1=>?_)
   ·
    refine HO.no rfl 28 rfl rfl ?_;refine HO.no rfl 29 rfl rfl ?_;refine HO.no rfl 30 rfl rfl ?_;refine HO.no rfl 31 rfl rfl ?_;refine HO.v (V.pick_t rfl rfl) rfl 32 rfl rfl ?_;refine HO.v (V.asB rfl) rfl 3 rfl rfl ?_;refine HO.nil ?_;obtain rfl:true=dd:=by subst hdd hb1;simp
    refine ⟨⟨rfl,rfl,rfl,rfl,trivial⟩,rfl⟩
   ·
    have hx:∃x,hit no L=some x:=by
     cases e:hit no L with
     | some x=>exact ⟨x,rfl⟩
     | none=>rw [e] at hc;simp at hc
    obtain ⟨x,hx⟩:=hx;obtain ⟨hxm,hxn⟩:=hit_some hx;obtain ⟨pb,hq,_⟩:=r.hpage hxm;rw [hxn] at hq;rw [hx];refine HO.v (V.mvP rfl) rfl 28 rfl rfl ?_;refine HO.v (V.nilCheck rfl) rfl 29 rfl rfl ?_;refine HO.v (V.fieldAddr rfl T.fd341_1) rfl 30 rfl rfl ?_;refine HO.v (V.load rfl (load_one T.ag4 (v:=.bool x.d) (cell_of hq 1))) rfl 31 rfl rfl ?_;refine HO.v (V.pick_f rfl rfl) rfl 32 rfl rfl ?_;refine HO.v (V.asB rfl) rfl 3 rfl rfl ?_;refine HO.nil ?_;obtain rfl:x.d=dd:=by subst hdd hb1;unfold wasD;rw [hx];simp
    refine ⟨⟨rfl,rfl,rfl,rfl,trivial⟩,rfl⟩
  rintro s hh ⟨hs,rfl⟩;refine HW.frame hs fun τ=>?_;refine HW.seq fun K9 hK9=>?_;refine HW.any 10 (fun fl h=>cond fl True (h[p]? = some (.cells #[sv ov,.int .i64 room,.map (some m)] 249 (0,0)))) mixed ?_;have hS:h[p]? = some (.cells #[sv ov,.int .i64 room,.map (some m)] 249 (0,0)):=r.hp;refine HA.p 0 rfl (by kernel_rfl) (by kernel_rfl) (by kernel_rfl) rfl rfl 33 rfl rfl (fl:=false) (by kernel_rfl) hS (fun _=>V.mvP rfl) ?_;refine HA.p 1 rfl (by kernel_rfl) (by kernel_rfl) (by kernel_rfl) rfl rfl 34 rfl rfl (fl:=false) (by kernel_rfl) hS (fun _=>V.nilCheck rfl) ?_;refine HA.p 2 rfl (by kernel_rfl) (by kernel_rfl) (by kernel_rfl) rfl rfl 35 rfl rfl (fl:=false) (by kernel_rfl) hS (fun _=>V.fieldAddr rfl T.fd249_2) ?_;refine HA.v 3 rfl (by kernel_rfl) (by kernel_rfl) (by kernel_rfl) rfl rfl 36 rfl rfl (fl:=false) (by kernel_rfl) hS (by kernel_rfl) (fun _ hS=>V.load rfl (load_one T.ag245 (v:=.map (some m)) (cell_of hS 2))) ?_;refine HA.p 4 rfl (by kernel_rfl) (by kernel_rfl) (by kernel_rfl) rfl rfl 37 rfl rfl (fl:=false) (by kernel_rfl) hS (fun _=>V.mvI rfl) ?_;refine HA.p 5 rfl (by kernel_rfl) (by kernel_rfl) (by kernel_rfl) rfl rfl 38 rfl rfl (fl:=false) (by kernel_rfl) hS (fun _=>V.mvS rfl) ?_;refine HA.p 7 rfl (by kernel_rfl) (by kernel_rfl) (by kernel_rfl) rfl rfl 40 rfl rfl (fl:=false) (by kernel_rfl) hS (fun _=>V.mvB rfl) ?_;refine HA.one 6 (by kernel_rfl) ?_;refine Up.c rfl rfl 39 rfl rfl OpC.func (cloneB_any hb (by omega)) (fl:=false) (by kernel_rfl) ?_;rintro _ h1 ow;have hSn:h1[p]? = some (.cells #[sv ov,.int .i64 room,.map (some m)] 249 (0,0)):=ow.ext.block r.hp (fun f=>f);refine ⟨hSn,?_⟩;replace hS:=hSn;obtain ⟨rb,rfl⟩:=ow.cap.form;refine HA.p 8 rfl (by kernel_rfl) (by kernel_rfl) (by kernel_rfl) rfl rfl 41 rfl rfl (fl:=false) (by kernel_rfl) hS (fun _=>V.build (cs:=#[sv rb,.bool dd]) T.zr341 T.pl341 rfl) ?_;refine HA.one 9 (by kernel_rfl) ?_;have hSn:(h1.push (.cells #[sv rb,.bool dd] 341 (0,0)))[p]? = some (.cells #[sv ov,.int .i64 room,.map (some m)] 249 (0,0)):=push_other hS;refine Up.e rfl rfl 42 rfl rfl (V.boxA rfl) (fl:=false) (by kernel_rfl) hSn ?_;replace hS:=hSn;refine HA.one 10 (by kernel_rfl) ?_;have e2:Ext h (h1.push (.cells #[sv rb,.bool dd] 341 (0,0))):=ow.ext.trans (Ext.push _ _);refine Up.ur rfl rfl rfl (V.mapUpdate (KV.int .i64) V.sbI rfl rfl rfl (r.mp.map.ext e2) T.mp245 (inB_iff T.in3)) (fl:=true) (by kernel_rfl) ?_;rintro h3 pu;refine ⟨trivial,?_⟩;refine HA.done (by kernel_rfl) ?_;refine hK9 _ _ ?_;refine HW.seq fun K10 hK10=>?_;have c3:CMap h3 (fun b=>F b∨h.size≤b) m (putL1 no l d L) (kput ks no) (fput q no h1.size):=by
   have c2:CMap (h1.push (.cells #[sv rb,.bool dd] 341 (0,0))) F m L ks q:=r.mp.chg e2 (fun _ g _=>g.elim) fun _ f=>f;have hp:PgAt (h1.push (.cells #[sv rb,.bool dd] 341 (0,0))) (fun b=>F b∨h.size≤b) h1.size ⟨no,l,dd⟩:=⟨⟨rb,push_same _ _,ow.cap.ext (Ext.push _ _),fun j hj=>.inr (ow.fresh j hj)⟩,.inr ow.ext.size⟩;have:=c2.put hp (fun y hy e=>by
    have h1:=r.lt _ (r.mp.pg y hy).own;have h2:=ow.ext.size;omega) (fun b f=>.inl f) pu
   unfold putL1;rw [←hdd];exact this
  have hsz:h.size≤h3.size:=by have h1:=e2.size;have h2:=pu.size;omega
  have hc3:Chg (fun b=>b=m) h h3:=e2.to.trans pu.chg;have o3:Ordr h3 p (.int .i64 room) (.map (some m)) ov (nos L).reverse:=r.od.chg hc3 r.ne_p r.ne_o;refine HW.region ?_;refine HO.v (V.mvP rfl) rfl 43 rfl rfl ?_;refine HO.v (V.nilCheck rfl) rfl 44 rfl rfl ?_;refine HO.v (V.fieldAddr rfl T.fd249_0) rfl 45 rfl rfl ?_;refine HO.v (V.mvI rfl) rfl 46 rfl rfl ?_;refine HO.c OpC.func rfl 47 rfl rfl (touch_any o3 (by have:=r.len;simp [nos];omega)) ?_;rintro _ h4 ⟨ov1,rfl,t⟩;refine HO.nil ?_;refine hK10 _ _ ?_;have o4:Ordr h4 p (.int .i64 room) (.map (some m)) ov1 (nos (putL1 no l d L)).reverse:=by
   have:=t.ordr;have e:=order_touch (x:=⟨no,l,d || wasD no L⟩) r.mp.nd;rw [e] at this;exact this
  have c4:CMap h4 (fun b=>F b∨h.size≤b) m (putL1 no l d L) (kput ks no) (fput q no h1.size):=c3.chg t.chg (fun b g _=>by
   rcases g with rfl | hb
   ·exact .inl ⟨_,_,o3.hp⟩
   ·exact .inr (o3.ord.blk hb)) fun _ f=>f
  have i4:=CIn.mk' c4 o4 (.inl r.fp) (fun b hb=>(t.place b hb).imp (r.fo b) fun h=>Nat.le_trans hsz h) (by have h1:=putL1_len no l d L;omega) (fun y hy=>by
   rcases List.mem_cons.1 hy with rfl | hy
   ·exact hbl
   ·exact r.sm y (mem_rid.1 hy).1)
  have st4:Step F h (fun b=>(F b∨h.size≤b)∧b<h4.size) h4:=⟨(hc3.mono fun b _ hb=>by subst hb;exact r.mp.own).trans' t.chg fun b _ hb=>by
   rcases hb with rfl | hb
   ·exact r.fp
   ·exact r.fo b hb,fun b hb=>hb.1⟩
  have hno:¬no<1:=of_decide_eq_false hc;have hol:ov1.2.1=(putL1 no l d L).length:=by
   obtain ⟨a,n,c⟩:=ov1;have ho:Cap h4 1 3 (.slice a n c) ((nos (putL1 no l d L)).reverse.map iv):=o4.ord;have:=ho.sl.cells.len;simpa [nos] using this.symm
  refine HW.seq fun K11 hK11=>?_;refine HW.seq fun K12 hK12=>?_;refine HW.quiet mixed (by kernel_rfl) ?_;refine HQ.v (V.mvP rfl) rfl 48 rfl rfl ?_;refine HQ.v (V.nilCheck rfl) rfl 49 rfl rfl ?_;refine HQ.v (V.fieldAddr rfl T.fd249_0) rfl 50 rfl rfl ?_;refine HQ.v (V.fieldAddr rfl T.fd247_0) rfl 51 rfl rfl ?_;refine HQ.v (V.load rfl (load_one T.ag24 (v:=sv ov1) (cell_of t.ordr.hp 0))) rfl 52 rfl rfl ?_;refine HQ.v (V.len rfl T.el24) rfl 53 rfl rfl ?_;refine HQ.v (V.mvP rfl) rfl 54 rfl rfl ?_;refine HQ.v (V.nilCheck rfl) rfl 55 rfl rfl ?_;refine HQ.v (V.fieldAddr rfl T.fd249_1) rfl 56 rfl rfl ?_;refine HQ.v (V.load rfl (load_one T.ag3 (v:=.int .i64 room) (cell_of t.ordr.hp 1))) rfl 57 rfl rfl ?_;refine HQ.v (V.leq rfl rfl rfl) rfl 58 rfl rfl ?_;refine HQ.nil ?_;refine hK12 _ _ ?_;refine HW.cond rfl (fun hc=>?_) (fun hc=>?_)
  ·
   refine HW.seq fun K13 hK13=>?_;have hle:((putL1 no l d L).length:Int)≤room:=by have:=of_decide_eq_true hc;omega
   refine HW.region ?_;refine HO.v (V.asS rfl) rfl 8 rfl rfl ?_;refine HO.nil ?_;refine hK13 _ _ ?_;refine HW.ret ?_;refine ⟨.slice none 0 0,Res.one rfl rfl,_,(by unfold putL;rw [if_neg hno,if_pos hle];exact ⟨m,ov1,_,_,i4⟩),st4,(by unfold putA;rw [if_neg hno,if_pos hle];exact FrIn.nil)⟩
  refine HW.skip ?_;refine hK11 _ _ ?_;refine HW.seq fun K14 hK14=>?_;have hgt:¬((putL1 no l d L).length:Int)≤room:=by have:=of_decide_eq_false hc;omega
  obtain ⟨x,hlast⟩:∃x,(putL1 no l d L).getLast? = some x:=by
   cases e:(putL1 no l d L).getLast? with
   | some x=>exact ⟨x,rfl⟩
   | none=>rw [List.getLast?_eq_none_iff] at e;simp [putL1] at e
  have hxm:x∈putL1 no l d L:=List.mem_of_getLast? hlast;obtain ⟨pb,hq,hpb,hpf⟩:=i4.hpage hxm;have hhx:hit x.no (putL1 no l d L)=some x:=by
   obtain ⟨y,hy⟩:=hit_mem (List.mem_map.2 ⟨x,hxm,rfl⟩:x.no∈nos (putL1 no l d L));rw [hy,nos_inj i4.mp.nd (hit_some hy).1 hxm (hit_some hy).2]
  obtain ⟨oa,on,oc⟩:=ov1;have hoc0:Cap h4 1 3 (.slice oa on oc) ((nos (putL1 no l d L)).reverse.map iv):=o4.ord;have hol':on=(putL1 no l d L).length:=hol;obtain ⟨ob,oo,rfl,hoc⟩:=hoc0.sl.cells.pos (by rw [hol'];simp [putL1]);have hx0:((nos (putL1 no l d L)).reverse.map iv)[0]? = some (.int .i64 x.no):=by
   obtain ⟨M,hM⟩:=List.getLast?_eq_some_iff.1 hlast;rw [hM];simp [nos,iv]
  refine HW.region ?_;refine HO.v (V.mvP rfl) rfl 59 rfl rfl ?_;refine HO.v (V.nilCheck rfl) rfl 60 rfl rfl ?_;refine HO.v (V.fieldAddr rfl T.fd249_0) rfl 61 rfl rfl ?_;refine HO.v (V.fieldAddr rfl T.fd247_0) rfl 62 rfl rfl ?_;refine HO.v (V.load rfl (load_one T.ag24 (v:=sv (some ⟨ob,oo,none⟩,on,oc)) (cell_of t.ordr.hp 0))) rfl 63 rfl rfl ?_;refine HO.v (V.indexAddr1 rfl rfl T.el24 T.sz3 (by omega)) rfl 64 rfl rfl ?_;refine HO.v (V.load rfl (load_one T.ag3 (v:=.int .i64 x.no) (hoc 0 _ hx0))) rfl 65 rfl rfl ?_;refine HO.v (V.asI rfl) rfl 10 rfl rfl ?_;refine HO.nil ?_;refine hK14 _ _ ?_;refine HW.seq fun K15 hK15=>?_;refine HW.region ?_;refine HO.v (V.mvP rfl) rfl 66 rfl rfl ?_;refine HO.v (V.nilCheck rfl) rfl 67 rfl rfl ?_;refine HO.v (V.fieldAddr rfl T.fd249_2) rfl 68 rfl rfl ?_;refine HO.v (V.load rfl (load_one T.ag245 (v:=.map (some m)) (cell_of t.ordr.hp 2))) rfl 69 rfl rfl ?_;refine HO.v (V.mvI rfl) rfl 70 rfl rfl ?_;refine HO.v (V.lookupE (KV.int .i64) rfl rfl i4.mp.map (v:=ptr (fput q no h1.size x.no)) T.mp245 (inB_iff T.in3) T.zr339 ((i4.mp.get x.no).trans (by rw [hhx];rfl))) rfl 71 rfl rfl ?_;refine HO.v (V.asP rfl) rfl 11 rfl rfl ?_;refine HO.nil ?_;refine hK15 _ _ ?_;refine HW.seq fun K16 hK16=>?_;refine HW.region ?_;refine HO.v (V.mvP rfl) rfl 72 rfl rfl ?_;refine HO.v (V.mvI rfl) rfl 73 rfl rfl ?_;refine HO.c OpC.func rfl 74 rfl rfl (drop_in i4 x.no) ?_;rintro _ h5 ⟨ov5,rfl,i5,chg5⟩;refine HO.nil ?_;refine hK16 _ _ ?_;have hk5:∀b,(b=m∨b=p∨blkC (sv (some ⟨ob,oo,none⟩,on,oc)) b)→isT h4 b 341∨isT h4 b 5→False:=fun b hb ht=>by
   rcases hb with rfl | hb
   ·obtain ⟨es,cl,h1,_⟩:=i4.mp.map;rcases ht with ⟨cs,fz,h2⟩ | ⟨cs,fz,h2⟩<;>(rw [h1] at h2;injection h2 with h2;cases h2)
   ·rcases i4.kind b hb with h1 | h1<;>rcases ht with h2 | h2<;>exact absurd (h1.eq h2) (by decide)
  have hq5:h5[fput q no h1.size x.no]? = some (.cells #[sv pb,.bool x.d] 341 (0,0)):=chg5.block hq fun hb=>hk5 _ hb (.inl ⟨_,_,hq⟩);have hpb5:Cap h5 1 5 (sv pb) (x.b.map bv):=hpb.chg chg5 fun j hj hb=>hk5 _ hb (.inr (hpb.blk hj));have st5:=st4.trans (F2:=wd (fun b=>(F b∨h.size≤b)∧b<h4.size) h4.size h5.size) ⟨chg5.mono fun b _ hb=>by
   rcases hb with rfl | rfl | hb
   ·exact i4.mp.own
   ·exact i4.fp
   ·exact i4.fo b hb,fun b hb=>hb.imp id fun h=>h.1⟩
  refine HW.seq fun K17 hK17=>?_;refine HW.seq fun K18 hK18=>?_;refine HW.region ?_;refine HO.v (V.mvP rfl) rfl 75 rfl rfl ?_;refine HO.v (V.nilCheck rfl) rfl 76 rfl rfl ?_;refine HO.v (V.fieldAddr rfl T.fd341_1) rfl 77 rfl rfl ?_;refine HO.v (V.load rfl (load_one T.ag4 (v:=.bool x.d) (cell_of hq5 1))) rfl 78 rfl rfl ?_;refine HO.v (V.not rfl) rfl 79 rfl rfl ?_;refine HO.nil ?_;refine hK18 _ _ ?_;refine HW.cond rfl (fun hc=>?_) (fun hc=>?_)
  ·
   refine HW.seq fun K19 hK19=>?_;refine HW.region ?_;refine HO.v (V.asS rfl) rfl 8 rfl rfl ?_;refine HO.nil ?_;refine hK19 _ _ ?_;refine HW.ret ?_;refine ⟨.slice none 0 0,Res.one rfl rfl,_,(by unfold putL;rw [if_neg hno,if_neg hgt,←drop_last i4.mp.nd hlast];exact ⟨m,ov5,_,_,i5⟩),st5,(by unfold putA;rw [if_neg hno,if_neg hgt,hlast,told_no (by simpa using hc)];exact FrIn.nil)⟩
  refine HW.skip ?_;refine hK17 _ _ ?_;refine HW.seq fun K20 hK20=>?_;refine HW.region ?_;refine HO.v (V.mvI rfl) rfl 80 rfl rfl ?_;refine HO.v (V.mvP rfl) rfl 81 rfl rfl ?_;refine HO.v (V.nilCheck rfl) rfl 82 rfl rfl ?_;refine HO.v (V.fieldAddr rfl T.fd341_0) rfl 83 rfl rfl ?_;refine HO.v (V.load rfl (load_one T.ag44 (v:=sv pb) (cell_of hq5 0))) rfl 84 rfl rfl ?_;refine HO.v (V.build (cs:=#[.int .i64 x.no,.int .i64 0,sv pb]) T.zr277 T.pl277 rfl) rfl 85 rfl rfl ?_;refine HO.e (V.buildSlice [.tmp 85] (cs:=#[.int .i64 x.no,.int .i64 0,sv pb]) T.el252 T.sz277 T.zr277 rfl rfl rfl ⟨rfl,trivial⟩ rfl) rfl 86 rfl rfl ?_;refine HO.v (V.asS rfl) rfl 8 rfl rfl ?_;refine HO.nil ?_;refine hK20 _ _ ?_;refine HW.ret ?_;have i6:CIn (h5.push (.cells #[.int .i64 x.no,.int .i64 0,sv pb] 277 (0,0))) (fun b=>wd (fun b=>(F b∨h.size≤b)∧b<h4.size) h4.size h5.size b∨b=h5.size) p m ov5 room _ _ _:=
   ⟨i5.mp.chg (G:=none_) (Ext.push _ _) (fun _ f=>f.elim) fun _ f=>.inl f,i5.od.chg (G:=none_) (Ext.push _ _) (fun f=>f) fun _ _ f=>f,.inl i5.fp,fun b hb=>.inl (i5.fo b hb),fun b hb=>by
    rw [Array.size_push];rcases hb with hb | rfl
    ·have:=i5.lt b hb;omega
    ·omega,i5.len,i5.sm⟩
  refine ⟨.slice (some ⟨h5.size,0,none⟩) 1 1,Res.one rfl rfl,_,(by unfold putL;rw [if_neg hno,if_neg hgt,←drop_last i4.mp.nd hlast];exact ⟨m,ov5,_,_,i6⟩),⟨st5.chg.trans' (Ext.push _ _) fun _ _ f=>f.elim,fun b hb=>Or.elim (show wd (fun b=>(F b∨h.size≤b)∧b<h4.size) h4.size h5.size b∨b=h5.size from hb) (st5.place b) fun e=>.inr (by have:=st5.chg.size;omega)⟩,?_⟩;have hd:x.d=true:=by simpa using hc
  unfold putA;rw [if_neg hno,if_neg hgt,hlast,told_yes hd];refine ⟨(some ⟨h5.size,0,none⟩,1,1),rfl,rfl,Nat.le_refl _,by simp,fun _=>⟨h5.size,0,rfl,.inr rfl,fun i hi=>?_⟩⟩;obtain rfl:i=0:=by simp at hi;omega
  refine ⟨[.int .i64 x.no,.int .i64 0,sv pb],⟨pb,rfl,(RdL.of_cap1 (f:=bv) (x:=pb) (l:=x.b) (E:=none_) rfl (fun _ _ _=>rfl) (hpb5.ext (Ext.push _ _))).mono (fun j hj=>.inl (.inl (hpf j hj))) (fun _ f=>f.elim)⟩,fun j v hj=>?_⟩;rw [Nat.zero_mul,Nat.zero_add];exact cell_of (push_same _ _) j |>.trans (by simpa using hj)
theorem ints_cell {h:Heap} {a:Option Addr} {n c:Nat} {l:List Int} (r:Sl h 1 (.slice a n c) (l.map iv)) {j:Nat} (hj:j<l.length):∃b o,a=some ⟨b,o,none⟩∧cell h b (o+j)=some (.int .i64 l[j]):=by
 have hl:=r.cells.len;obtain ⟨b,o,rfl,hc⟩:=r.cells.pos (by simp at hl;omega);exact ⟨b,o,rfl,hc j _ (by simp [hj,iv])⟩
def dirty1 (L:List AP) (k:Int):List AFr:=toldL (hit k L)
def dirtyS (S:List Int) (L:List AP):List AFr:=S.flatMap (dirty1 L)
structure FrCap (h:Heap) (f:CFr) (x:AFr):Prop where
 page:f.page=x.page
 commit:f.commit=x.commit
 b:Cap h 1 5 (sv f.b) (x.b.map bv)
theorem FrCap.chg {F:Nat→Prop} {h h':Heap} {f:CFr} {x:AFr} (r:FrCap h f x) (c:Chg F h h') (hf:∀b,F b→isT h b 5→False):FrCap h' f x:=
 ⟨r.page,r.commit,r.b.chg c fun b hb g=>by
  obtain ⟨cs,fz,h1⟩:=r.b.blk hb;exact hf b g ⟨cs,fz,h1⟩⟩
structure FrNw (h0 h:Heap) (f:CFr) (x:AFr):Prop where
 is:FrCap h f x
 nw:∀j,blkC (sv f.b) j→h0.size≤j
theorem FrNw.in {h0 h:Heap} {v:SV} {fl:List CFr} {L:List AFr} (hx:Ext h0 h) (c:Cap h 3 277 (sv v) (fl.flatMap fr)) (hv:∀j,blkC (sv v) j→h0.size≤j) (hall:All2 (FrNw h0 h) fl L):FrIn h (Nw h0 h) (sv v) L:=by
 refine ⟨v,rfl,(RdL.of_cap (α:=Fr) (E:=Nw h0 h) (css:=fl.map fr) (by rw [←List.flatMap_def];exact c) ⟨by simp [hall.1],fun i h1 h2=>?_⟩).mono (fun j hj=>⟨hv j hj,c.lt hj⟩) (fun _ h=>h)⟩;have q:=hall.2 i (by simpa using h1) (by simpa using h2);rw [List.getElem_map,List.getElem_map];refine ⟨(fl[i]'(by simpa using h1)).b,by simp only [fr,AFr.fr,q.is.page,q.is.commit];rfl,(RdL.of_cap1 (f:=bv) (E:=none_) rfl (fun _ _ _=>rfl) q.is.b).mono (fun j hj=>⟨q.nw j hj,q.is.b.lt hj⟩) (fun _ f=>f.elim)⟩
theorem dirty_next {S:List Int} {L:List AP} {k:Nat} (h:k<S.length):dirtyS (S.take (k+1)) L=dirtyS (S.take k) L++dirty1 L S[k]:=by
 unfold dirtyS;rw [take_next h,List.flatMap_append];simp
theorem dirty_len (S:List Int) (L:List AP):(dirtyS S L).length≤S.length:=by
 unfold dirtyS;induction S with
 | nil=>simp
 | cons a s ih=>
  rw [List.flatMap_cons,List.length_append];have:(dirty1 L a).length≤1:=by
   unfold dirty1 toldL;split
   ·split<;>simp
   ·simp
  simp only [List.length_cons];omega
theorem dirty_any {h:Heap} {F:Nat→Prop} {p:Nat} {room:Int} {L:List AP} (r:CRep h F p room L) (hr:∀k∈nos L,-9223372036854775808≤k∧k≤9223372036854775807) :
  HC Tryz.prog 316 #[ptr p] h (fun v h'=>∃S:List Int,S.Perm (nos L)∧S.Pairwise (·≤·)∧FrIn h' (Nw h h') v (dirtyS S L)∧Ext h h'):=by
 obtain ⟨mb,ov,ks,q,r⟩:=r;have hkp:ks.Perm (nos L):=(List.perm_ext_iff_of_nodup r.mp.keys r.mp.nd).2 r.mp.mem;have hkl:ks.length≤1000000000000:=by rw [hkp.length_eq];have:=r.len;simp [nos];omega
 refine HC.body Tryz.func316 rfl (by kernel_rfl) 42 rfl rfl ?_;refine HW.seq fun K1 hK1=>?_;refine HW.region ?_;refine HO.v (V.asS rfl) rfl 2 rfl rfl ?_;refine HO.nil ?_;refine hK1 _ _ ?_;refine HW.seq fun K2 hK2=>?_;refine HW.seq fun K3 hK3=>?_;refine HW.region ?_;refine HO.v (V.mvP rfl) rfl 7 rfl rfl ?_;refine HO.v (V.ptrEqNil rfl rfl T.pt194) rfl 8 rfl rfl ?_;refine HO.nil ?_;refine hK3 _ _ ?_;refine HW.cond rfl (fun hc=>?_) (fun hc=>?_)
 ·
  refine HW.seq fun K4 hK4=>?_;refine HW.region ?_;refine HO.v (V.asS rfl) rfl 2 rfl rfl ?_;refine HO.nil ?_;refine hK4 _ _ ?_;refine HW.ret ?_;refine ⟨.slice none 0 0,Res.one rfl rfl,(by simp at hc)⟩
 refine HW.skip ?_;refine hK2 _ _ ?_;refine HW.seq fun K5 hK5=>?_;refine HW.region ?_;refine HO.v (V.asS rfl) rfl 3 rfl rfl ?_;refine HO.nil ?_;refine hK5 _ _ ?_;refine HW.seq fun K6 hK6=>?_;refine HW.seq fun K7 hK7=>?_;refine HW.region ?_;refine HO.v (V.mvP rfl) rfl 9 rfl rfl ?_;refine HO.v (V.nilCheck rfl) rfl 10 rfl rfl ?_;refine HO.v (V.fieldAddr rfl T.fd249_2) rfl 11 rfl rfl ?_;refine HO.v (V.load rfl (load_one T.ag245 (v:=.map (some mb)) (cell_of r.hp 2))) rfl 12 rfl rfl ?_;refine HO.c OpC.func rfl 13 rfl rfl ckeys_any ?_;rintro _ _ ⟨rfl,rfl⟩;refine HO.c OpC.func rfl 14 rfl rfl (csorted_any r.mp.map (fun k hk=>hr k ((r.mp.mem k).1 hk)) hkl) ?_;rintro _ h1 ⟨S,hp0,hsort,ow⟩;obtain ⟨⟨sa,sn,sc⟩,rfl⟩:=ow.cap.form;have hperm:=hp0.trans hkp;have x1:=(Ext.push h (.cells #[.map (some mb)] 245 (0,0))).trans ow.ext;have hsl:Sl h1 1 (.slice sa sn sc) (S.map iv):=ow.sl;have hSn:S.length=sn:=by simpa using hsl.cells.len
 have hSl:S.length≤100000001:=by rw [hperm.length_eq];have:=r.len;simpa [nos] using this
 refine HO.v (V.len rfl T.el24) rfl 15 rfl rfl ?_;refine HO.v (V.mvI rfl) rfl 16 rfl rfl ?_;refine HO.nil ?_;refine hK7 _ _ ?_;refine HW.block ?_;refine HW.loopm (fun m s hh=>∃(k:Nat) (wv:SV),Has s [(0,ptr p),(3,sv wv),(14,.slice sa sn sc),(15,.int .i64 sn),(16,.int .i64 k)]∧(∃fl,Own h1 hh 3 277 (sv wv) (fl.flatMap fr)∧All2 (FrNw h hh) fl (dirtyS (S.take k) L))∧k≤sn∧m=sn-k) ?_ ?_
 ·exact ⟨_,0,(none,0,0),⟨rfl,rfl,rfl,rfl,rfl,trivial⟩,⟨[],Own.nil (Ext.refl _) _ _,All2.nil⟩,by omega,rfl⟩
 rintro m s hh ⟨k,wv,hs,⟨fl,owf,hall⟩,hkn,rfl⟩ J8 hJ8;refine HW.frame hs fun τ=>?_;refine HW.seq fun K9 hK9=>?_;refine HW.region ?_;refine HO.v (V.lss rfl rfl rfl) rfl 17 rfl rfl ?_;refine HO.nil ?_;refine hK9 _ _ ?_;refine HW.seq fun K10 hK10=>?_;refine HW.condr rfl (fun hc=>?_) (fun hc=>?_)
 ·
  refine HW.exit ?_;refine hK6 _ _ ?_;refine HW.seq fun K11 hK11=>?_;refine HW.region ?_;refine HO.v (V.mvS rfl) rfl 41 rfl rfl ?_;refine HO.v (V.asS rfl) rfl 2 rfl rfl ?_;refine HO.nil ?_;refine hK11 _ _ ?_;refine HW.ret ?_;refine ⟨sv wv,Res.one rfl rfl,S,hperm,hsort,(by have h1:=of_decide_eq_false hc;rw [List.take_of_length_le (by omega)] at hall;exact FrNw.in (x1.trans owf.ext) owf.cap (fun j hj=>Nat.le_trans x1.size (owf.fresh j hj)) hall),x1.trans owf.ext⟩
 refine HW.skip ?_;refine hK10 _ _ ?_;refine HW.seq fun K12 hK12=>?_;have hk2:k<S.length:=by have:=of_decide_eq_true hc;omega
 have rH:=r.chg (x1.trans owf.ext) fun _ _ f=>f;have hnx:=dirty_next (L:=L) hk2;obtain ⟨b,o,rfl,hcel⟩:=ints_cell (hsl.ext owf.ext) hk2;obtain ⟨x,hx⟩:=hit_mem ((hperm.mem_iff).1 (List.getElem_mem hk2));obtain ⟨hxm,hxn⟩:=hit_some hx;obtain ⟨pb,hq,hpb,_⟩:=rH.hpage hxm;rw [hxn] at hq;refine HW.block ?_;refine HW.seq fun K13 hK13=>?_;refine HW.region ?_;refine HO.v (V.indexAddr1 rfl rfl T.el24 T.sz3 (by omega)) rfl 18 rfl rfl ?_;refine HO.v (V.load rfl (load_one T.ag3 (v:=.int .i64 S[k]) hcel)) rfl 19 rfl rfl ?_;refine HO.v (V.asI rfl) rfl 5 rfl rfl ?_;refine HO.nil ?_;refine hK13 _ _ ?_;refine HW.seq fun K14 hK14=>?_;refine HW.region ?_;refine HO.v (V.mvP rfl) rfl 20 rfl rfl ?_;refine HO.v (V.nilCheck rfl) rfl 21 rfl rfl ?_;refine HO.v (V.fieldAddr rfl T.fd249_2) rfl 22 rfl rfl ?_;refine HO.v (V.load rfl (load_one T.ag245 (v:=.map (some mb)) (cell_of rH.hp 2))) rfl 23 rfl rfl ?_;refine HO.v (V.mvI rfl) rfl 24 rfl rfl ?_;refine HO.v (V.lookupE (KV.int .i64) rfl rfl rH.mp.map (v:=ptr (q S[k])) T.mp245 (inB_iff T.in3) T.zr339 ((rH.mp.get S[k]).trans (by rw [hx];rfl))) rfl 25 rfl rfl ?_;refine HO.v (V.asP rfl) rfl 6 rfl rfl ?_;refine HO.nil ?_;refine hK14 _ _ ?_;refine HW.seq fun K15 hK15=>?_;refine HW.region ?_;refine HO.v (V.mvP rfl) rfl 26 rfl rfl ?_;refine HO.v (V.nilCheck rfl) rfl 27 rfl rfl ?_;refine HO.v (V.fieldAddr rfl T.fd341_1) rfl 28 rfl rfl ?_;refine HO.v (V.load rfl (load_one T.ag4 (v:=.bool x.d) (cell_of hq 1))) rfl 29 rfl rfl ?_;refine HO.nil ?_;refine hK15 _ _ ?_;refine HW.condr rfl (fun hc=>?_) (fun hc=>?_)
 ·
  refine HW.skip ?_;refine hK12 _ _ ?_;refine HW.region ?_;refine HO.v (V.add rfl rfl (by omega)) rfl 40 rfl rfl ?_;refine HO.v (V.mvI rfl) rfl 16 rfl rfl ?_;refine HO.nil ?_;refine hJ8 _ _ _ ⟨k+1,wv,⟨rfl,rfl,rfl,rfl,rfl,trivial⟩,⟨fl,owf,(by rw [hnx];unfold dirty1;rw [hx,told_no hc,List.append_nil];exact hall)⟩,by omega,rfl⟩ (by omega)
 refine HW.region ?_;refine HO.v (V.mvS rfl) rfl 30 rfl rfl ?_;refine HO.v (V.mvI rfl) rfl 31 rfl rfl ?_;refine HO.v (V.mvP rfl) rfl 32 rfl rfl ?_;refine HO.v (V.nilCheck rfl) rfl 33 rfl rfl ?_;refine HO.v (V.fieldAddr rfl T.fd341_0) rfl 34 rfl rfl ?_;refine HO.v (V.load rfl (load_one T.ag44 (v:=sv pb) (cell_of hq 0))) rfl 35 rfl rfl ?_;refine HO.c OpC.func rfl 36 rfl rfl (cloneB_any hpb.sl (by have:=r.sm x hxm;omega)) ?_;rintro _ h3 owb;obtain ⟨rb,rfl⟩:=owb.cap.form;refine HO.v (V.build (cs:=#[.int .i64 S[k],.int .i64 0,sv rb]) T.zr277 T.pl277 rfl) rfl 37 rfl rfl ?_;refine HO.e (V.buildSlice [.tmp 37] (cs:=#[.int .i64 S[k],.int .i64 0,sv rb]) T.el252 T.sz277 T.zr277 rfl rfl rfl ⟨rfl,trivial⟩ rfl) rfl 38 rfl rfl ?_;have e4:Ext hh (h3.push (.cells #[.int .i64 S[k],.int .i64 0,sv rb] 277 (0,0))):=owb.ext.trans (Ext.push _ _);have ow4:=owf.push e4;have hfit:((fl.flatMap fr).length+(fr ⟨S[k],0,rb⟩).length)*(39+1)≤140737488355328:=by
  have h1:=hall.1;have h2:=dirty_len (S.take k) L;have h3:(S.take k).length≤S.length:=by simp;omega
  have h4:(fl.flatMap fr).length=fl.length*3:=flat_len fr_len fl;have h5:(fr ⟨S[k],0,rb⟩).length=3:=rfl;omega
 refine HO.a (V.append rfl rfl T.el252 T.sz277 T.by277 T.zr277 rfl ow4.cap (sl_new (n:=1) rfl (by omega)) (fr_one ⟨S[k],0,rb⟩) hfit) rfl 39 rfl rfl ?_;rintro _ h5 hap;obtain ⟨w2,rfl⟩:=hap.cap.form;have ow5:=ow4.app hap;refine HO.v (V.asS rfl) rfl 3 rfl rfl ?_;refine HO.nil ?_;refine hK12 _ _ ?_;refine HW.region ?_;refine HO.v (V.add rfl rfl (by omega)) rfl 40 rfl rfl ?_;refine HO.v (V.mvI rfl) rfl 16 rfl rfl ?_;refine HO.nil ?_;refine hJ8 _ _ _ ⟨k+1,w2,⟨rfl,rfl,rfl,rfl,rfl,trivial⟩,⟨fl++[⟨S[k],0,rb⟩],?_,?_⟩,by omega,rfl⟩ (by omega)
 ·rw [List.flatMap_append];simpa using ow5
 ·rw [hnx];unfold dirty1;rw [hx,told_yes hc];have hty:∀j,blkC (sv wv) j→isT (h3.push (.cells #[.int .i64 S[k],.int .i64 0,sv rb] 277 (0,0))) j 5→False:=fun j hj ht=>by
   have h1:isT (h3.push (.cells #[.int .i64 S[k],.int .i64 0,sv rb] 277 (0,0))) j 277:=ow4.cap.blk hj;exact absurd (h1.eq ht) (by decide)
  refine All2.append (hall.mono fun f y h=>⟨(h.is.chg e4 fun _ g _=>g.elim).chg hap.chg hty,h.nw⟩) (All2.cons ?_ All2.nil);exact ⟨FrCap.chg ⟨hxn.symm,rfl,owb.cap.ext (Ext.push _ _)⟩ hap.chg hty,fun j hj=>Nat.le_trans (x1.trans owf.ext).size (owb.fresh j hj)⟩
def nJ:List UInt8:=[116,111,109,101,46,98,97,99,107]
def mostB (size:Nat):Nat:=16777188 / (size+8)
structure Bk where
 dk:Dk
 size:Nat
 room:Int
 L:List AP
 in_:Bool
 now:Nat
 valid:Nat
 begun:Bool
 nonce:Nat
 kept:List Int
 marked:Nat
 sure:Nat
 bytes:Nat
 broken:Bool
def dirtyB (L:List AP):List AFr:=dirtyS ((nos L).mergeSort fun a b=>decide (a≤b)) L
end Go.Proofs.YtndlpekckpdncaaGreat
namespace Go.HL
open Go
def dcl (f:FuncId) (args:Array Value):Deferred:={ target:=.fn (.func f) #[],args:=args }
def HCD (P:Program) (f:FuncId) (args:Array Value) (h:Heap) (R:Value→Heap→Prop):Prop:=
 Callable P f∧∀E w u,At E h w→CallsD P f args u w fun e u' w'=>u'=u∧∃v h',e=.returned v∧At E h' w'∧R v h'
theorem HCD.body {P:Program} {f:FuncId} {fn:Func} {c:Code} {args:List Value} {h:Heap} {R:Value→Heap→Prop} (hf:P.funcs[f]? = some fn) (hb:fn.body=some c)
  (hname : (fn.name == "runtime.NumGoroutine") = false) (n : Nat) (hn : fn.ntmps = n) (hsz : Nat.ble args.length n = true) (hc : HW none P n c (fin P fn R) (lst args) h) : HCD P f args.toArray h R :=
 ⟨⟨fn,hf,hname,by simp [hb]⟩,fun _ _ _ at'=>callsD_of_wp hf hb (wp_body n hn hsz hc at')⟩
theorem HCD.go {P:Program} {f:FuncId} {fn:Func} {c:Code} {args:List Value} {h:Heap} {R:Value→Heap→Prop} (hf:P.funcs[f]? = some fn) (n:Nat) (hc:HS none P n [c] (fin P fn R) (lst args) h) (hb:fn.body=some c:=by exact rfl)
  (hname : (fn.name == "runtime.NumGoroutine") = false := by first | exact rfl | kernel_rfl) (hn : fn.ntmps = n := by exact rfl) (hsz : Nat.ble args.length n = true := by exact rfl) : HCD P f args.toArray h R :=
 HCD.body hf hb hname n hn hsz (HW.mono hc fun e s h q=>by cases e<;>exact q)
abbrev PD:=List Deferred→Exit→Slots→Heap→Prop
def LiftD (E:Env) (n:Nat) (Q:PD) (e:Exit) (a:Act) (w:World):Prop:=∃ds s h,Rel ds n s a∧At E h w∧Q ds e s h
def WD (P:Program) (n:Nat) (c:Code) (Q:PD) (s:Slots) (h:Heap):Prop:=∀E a w,E.ds=[]→Rel [] n s a→At E h w→c.wp P (LiftD E n Q) a w
def nxtD (P:Program) (n:Nat) (k:List Code) (Q:PD) (H:Slots→Heap→Prop):PD
 | [],.normal,s,h=>H s h
 | d::ds,.normal,s,h=>HS none P n k (Q (d::ds)) s h
 | ds,e,s,h=>Q ds e s h
def HSD (P:Program) (n:Nat):List Code→PD→Slots→Heap→Prop
 | [],Q,s,h=>Q [] .normal s h
 | c::k,Q,s,h=>WD P n c (nxtD P n k Q (HSD P n k Q)) s h
section
variable {P:Program} {n:Nat} {Q:PD} {s:Slots} {h:Heap} {k:List Code} {E:Env}
theorem At.ds {w:World} (at':At E h w) (ds:List Deferred):At { E with ds:=ds } h w:=⟨at'.heap,at'.os,at'.tape,at'.output⟩
theorem At.of_ds {w:World} {ds:List Deferred} (at':At { E with ds:=ds } h w):At E h w:=⟨at'.heap,at'.os,at'.tape,at'.output⟩
theorem HSD.seq {a b:Code} (hk:HSD P n (a::b::k) Q s h):HSD P n (.seq a b::k) Q s h:=by
 intro E a0 w hE r at';refine wp_seq (wp_mono (hk E a0 w hE r at') ?_);rintro e a' w' ⟨ds,s',h',r',at2,q⟩;cases e with
 | normal=>
  cases ds with
  | nil=>exact q E a' w' hE r' at2
  | cons d ds=>
   refine wp_mono (wpIn_wide.1 (q { E with ds:=d::ds } a' w' r' (at2.ds _))) ?_;rintro e a'' w'' ⟨s2,h2,r2,at3,q2⟩;refine ⟨d::ds,s2,h2,r2,at3.of_ds,?_⟩;cases e<;>exact q2
 | exit id=>exact ⟨ds,s',h',r',at2,by cases ds<;>exact q⟩
 | goto l=>exact ⟨ds,s',h',r',at2,by cases ds<;>exact q⟩
 | ret=>exact ⟨ds,s',h',r',at2,by cases ds<;>exact q⟩
 | panic c=>exact ⟨ds,s',h',r',at2,by cases ds<;>exact q⟩
 | outgrown=>exact ⟨ds,s',h',r',at2,by cases ds<;>exact q⟩
theorem HSD.lift {c:Code} (hx:HS none P n [c] (thn (HSD P n k Q) (Q [])) s h):HSD P n (c::k) Q s h:=by
 intro E a w hE r at';refine wp_mono (wpIn_wide.1 (hx E a w (hE▸r) at')) ?_;rintro e a' w' ⟨s',h',r',at2,q⟩;refine ⟨[],s',h',hE▸r',at2,?_⟩;cases e<;>exact q
theorem HSD.on {Q':Exit→Slots→Heap→Prop} (hk:HSD P n k Q s h):thn (HSD P n k Q) Q' .normal s h:=hk
def HOD (P:Program) (n:Nat) (ops:Array Oper) (l:List Oper) (K:Deferred→Slots→Heap→Prop) (s:Slots) (h:Heap):Prop:=
 ∀E a w,E.ds=[]→Rel [] n s a→At E h w→wpList P ops (fun e a' w'=>e=.normal∧∃d s' h',Rel [d] n s' a'∧At E h' w'∧K d s' h') l a w
theorem HSD.rd {id:Nat} {l:List Oper} (hk:HOD P n l.toArray l (fun d s h=>HS none P n k (Q [d]) s h) s h):HSD P n (.region id l.toArray false::k) Q s h:=by
 intro E a w hE r at';refine wp_mono (wp_region_lit (hk E a w hE r at')) ?_;rintro e a' w' ⟨rfl,d,s',h',r',at2,q⟩;exact ⟨[d],s',h',r',at2,q⟩
variable {ops:Array Oper} {l:List Oper} {o:Oper} {K:Deferred→Slots→Heap→Prop}
theorem HOD.w (d:Nat) {v:Value} (hv:OpV P o s h v) (hk:HOD P n ops l K (upd s d v) h) (hw:wants ops o s=true:=by exact rfl) (hd:o.dst=some d:=by exact rfl) (hn:Nat.blt d n=true:=by exact rfl):HOD P n ops (o::l) K s h:=by
 intro E a w hE r at';unfold wpList;rw [r.wanted,hw,if_pos rfl];refine .inl ?_;unfold Oper.wp;rw [r.eval',hv w at'.heap];simp only [Oper.upon,hd];exact hk E _ w hE (r.put v hn) at'
theorem HOD.z {op:Op} {ty:TypeId} {pos:String} {af:Array Edge} {g:Option (Nat × Bool)} {d:Nat} {v:Value} (hv:OpV P ⟨some d,op,ty,pos,af,g⟩ s h v) (hk:HOD P n ops l K (upd s d v) h) (hw:wants ops ⟨some d,op,ty,pos,af,g⟩ s=true:=by exact rfl) (hn:Nat.blt d n=true:=by exact rfl):HOD P n ops (⟨some d,op,ty,pos,af,g⟩::l) K s h:=HOD.w d hv hk hw rfl hn
theorem HOD.df {f:FuncId} {xs:Array Operand} {ts:Array TypeId} {ty:TypeId} {pos:String} {af:Array Edge} {g:Option (Nat × Bool)} {args:List Value} (hx:xs.toList.map (ev s)=args) (hk:K (dcl f args.toArray) s h) (hw:wants ops ⟨none,.defer ⟨.value (.func f),xs,ts⟩,ty,pos,af,g⟩ s=true:=by exact rfl):HOD P n ops [⟨none,.defer ⟨.value (.func f),xs,ts⟩,ty,pos,af,g⟩] K s h:=by
 intro E a w hE r at';unfold wpList;rw [r.wanted,hw,if_pos rfl];refine .inl ?_;have e:xs.map a.eval=args.toArray:=by rw [r.eval',←hx];apply Array.ext';simp
 have hr:(execOp a.eval ⟨none,.defer ⟨.value (.func f),xs,ts⟩,ty,pos,af,g⟩).run P w=.ok (.defer (dcl f args.toArray)) w:=by
  have ef:a.eval (.func f)=.func (.func f) #[] #[]:=rfl;unfold execOp;simp [resolve,Deferred.ofValue,ef,dcl,e]
 unfold Oper.wp;rw [hr];simp only [Oper.upon,wpList];exact ⟨by trivial,_,s,h,⟨by simpa [Act.put] using r.size,fun i=>by simpa [Act.put] using r.get i,by simp [Act.put,r.defers]⟩,at',hk⟩
end
def finD (P:Program) (fn:Func) (R:Value→Heap→Prop):PD
 | [],.normal,s,h | [],.ret,s,h=>∃v,Res P fn s h v∧R v h
 | [d],.normal,s,h | [d],.ret,s,h=>∃f args Rm,d=dcl f args∧HCD P f args h Rm∧∀v' h',Rm v' h'→∃v,Res P fn s h' v∧R v h'
 | _,_,_,_=>False
theorem leavesD {P:Program} {fn:Func} {R:Value→Heap→Prop} {s:Slots} {h:Heap} {n:Nat} {E:Env} {a:Act} {w:World} {ds:List Deferred} (r:Rel ds n s a) (at':At E h w) (q:finD P fn R ds .ret s h):Leaves P fn a.tmps (fun e w'=>∃v h',e=.returned v∧At E h' w'∧R v h') a.defers .returning w:=by
 rw [r.defers]
 match ds,q with
 | [],⟨v,hv,hR⟩=>exact ⟨v,hv _ _ r.get at'.heap,v,h,rfl,at',hR⟩
 | [d],⟨f,args,Rm,hd,⟨hc,hcd⟩,hk⟩=>
  subst hd;refine ⟨by simp,.func f,#[],f,args,rfl,?_,?_⟩
  ·obtain ⟨fn',hf,hb,hbody⟩:=hc;have h2' : ¬ fn'.name = "runtime.NumGoroutine" := by simpa using hb
   have h3':¬fn'.body=none:=by intro e;simp [e] at hbody
   simp [dcl,invoke,callFunc,hf,h2',h3']
  ·refine (hcd E w .returning at').mono ?_;rintro e u' w' ⟨rfl,v',h',rfl,at2,hRm⟩;obtain ⟨v,hv,hR⟩:=hk v' h' hRm;exact ⟨v,hv _ _ r.get at2.heap,v,h',rfl,at2,hR⟩
theorem HC.goD {P:Program} {f:FuncId} {fn:Func} {c:Code} {args:List Value} {h:Heap} {R:Value→Heap→Prop} (hf:P.funcs[f]? = some fn) (n:Nat) (hc:HSD P n [c] (finD P fn R) (lst args) h) (hb:fn.body=some c:=by exact rfl)
  (hname : (fn.name == "runtime.NumGoroutine") = false := by first | exact rfl | kernel_rfl) (hn : fn.ntmps = n := by exact rfl) (hsz : Nat.ble args.length n = true := by exact rfl) : HC P f args.toArray h R := by
 have hsz:=Nat.le_of_ble_eq_true hsz;refine ⟨⟨fn,hf,hname,by simp [hb]⟩,fun E w at'=>calls_of_wp_defers hf hb ?_⟩;subst hn;refine wp_mono (hc { E with ds:=[] } _ w rfl ⟨by simp;omega,fun i=>?_,rfl⟩ (at'.ds _)) ?_
 ·rw [←lst_getD];simp only [Array.getD_eq_getD_getElem?,Array.getElem?_append,List.getD_eq_getElem?_getD];by_cases hi:i<args.length
  ·simp [hi]
  ·simp only [List.size_toArray,hi,if_false];rw [List.getElem?_eq_none (by omega)];by_cases hj:i-args.length<fn.ntmps-args.length
   ·rw [Array.getElem?_replicate,if_pos hj];rfl
   ·rw [Array.getElem?_replicate,if_neg hj]
 ·rintro e a' w' ⟨ds,s',h',r',at2,q⟩;have at3:At E h' w':=at2.of_ds;cases e with
  | normal=>
   have q2:finD P fn R ds .ret s' h':=by
    match ds,q with
    | [],q=>exact q
    | [d],q=>exact q
    | _::_::_,q=>exact q
   exact leavesD r' at3 q2
  | ret=>exact leavesD r' at3 (by cases ds<;>exact q)
  | exit id=>cases ds with
   | nil=>exact q
   | cons d ds=>cases ds<;>exact q
  | goto l=>cases ds with
   | nil=>exact q
   | cons d ds=>cases ds<;>exact q
  | panic c=>cases ds with
   | nil=>exact False.elim q
   | cons d ds=>cases ds<;>exact False.elim q
  | outgrown=>cases ds with
   | nil=>exact False.elim q
   | cons d ds=>cases ds<;>exact False.elim q
end Go.HL
namespace Go.Proofs.YtndlpekckpdncaaGreat
open Go Go.HL
section
variable {d:Dk} {n:List UInt8}
theorem size_f (h:(sizeN d n).2=false):d.dark=true∨thereN d n=false:=by
 unfold sizeN at h;split at h
 ·assumption
 ·cases h
theorem size_t (h:(sizeN d n).2=true):d.dark=false∧thereN d n=true:=by
 unfold sizeN at h;split at h
 ·cases h
 ·rename_i h1;exact ⟨by cases hd:d.dark<;>simp [hd] at h1⊢,by cases ht:thereN d n<;>simp [ht] at h1⊢⟩
theorem rem_dark (hn:1≤n.length∧n.length≤32) (h:d.dark=true):removeN d n=(d,13):=by
 have h1:wrongN d n []=13:=by unfold wrongN;rw [if_neg (by rintro (h | h | ⟨z,hz,_⟩)<;>first | omega | cases hz),if_pos h]
 unfold removeN;rw [h1];rfl
theorem rem_none (hn:1≤n.length∧n.length≤32) (h:d.dark=false) (ht:thereN d n=false):removeN d n=(d,4):=by
 have h1:wrongN d n []=0:=by unfold wrongN;rw [if_neg (by rintro (h | h | ⟨z,hz,_⟩)<;>first | omega | cases hz),if_neg (by simp [h])]
 unfold removeN;rw [h1];simp [ht]
theorem rem_there (h:thereN d n=true):(removeN d n).2≠4:=by
 unfold removeN wrongN doN powerN
 repeat' split
 all_goals first | (simp_all;done) | (simp only;omega)
theorem bgone_1 (hn:1≤n.length∧n.length≤32) (h:d.dark=true):goneN d n=(d,13):=by unfold goneN;rw [rem_dark hn h];rfl
theorem bgone_2 (hn:1≤n.length∧n.length≤32) (h:(sizeN d n).2=false) (hd:d.dark=false):goneN d n=(d,0):=by
 unfold goneN;rw [rem_none hn hd ((size_f h).resolve_left (by simp [hd]))];rfl
theorem bgone_3 (h:(removeN d n).2=0):goneN d n=syncN (removeN d n).1 n:=if_pos h
theorem bgone_4 (h:(sizeN d n).2=true) (h1:(removeN d n).2≠0):goneN d n=removeN d n:=by
 unfold goneN;rw [if_neg h1,if_neg (rem_there (size_t h).2)]
end
theorem bgone_any {h:Heap} {d:Nat} {n:List UInt8} {r:RD} {E:Nat→Prop} (ok:Hp h (dskI d r).F [dskI d r] [bysI E r.fs] h) (hk:DkOk r.abs) (hcg:r.chg<900000000) (hn:1≤n.length∧n.length≤32) :
  HC Tryz.prog 215 #[.pointer (some ⟨d,0,none⟩),.string (BA n)] h (fun v h'=>∃r' E',v=.int .i64 ((goneN r.abs n).2:Int)∧r'.abs=(goneN r.abs n).1∧DUp h h' d r r' E E'):=by
 refine HC.go Tryz.func215 27 ?_;refine .seq<|.r<|.z .asI<|.nil ?_;refine .seq<|.seq<|.r<|.z .mvP<|.z .mvT<|.k 11 .func (size_anyD (d:=d) (r:=r) (n:=n) (ok.m0))<|.z .mvU<|.z .ex<|.z .ex<|.z .asI<|.z .asB<|.nil ?_;refine .seq<|.r<|.z .mvB<|.z .not<|.nil ?_;refine .cond (fun C0=>?_) (fun C0=>?_)
 ·
  have hs0:(sizeN r.abs n).2=false:=by simpa using C0
  refine .seq<|.seq<|.r<|.z .mvP<|.k 17 .func (dark_any (d:=d) (r:=r) (dsk_parts (ok.m0)).1)<|.nil ?_;refine .cond (fun C1=>?_) (fun C1=>?_)
  ·
   refine .seq<|.r<|.z .asI<|.nil ?_;refine .ret ⟨.int .i64 13,Res.one rfl rfl,⟨r,E,(by rw [bgone_1 hn (show r.abs.dark=true from C1)];rfl),(by rw [bgone_1 hn (show r.abs.dark=true from C1)]),((ok).k1.e1).up (fun _ h=>Or.inl h)⟩⟩
  refine .skip<|.seq<|.r<|.z .asI<|.nil ?_;refine .ret ⟨.int .i64 0,Res.one rfl rfl,⟨r,E,(by rw [bgone_2 hn hs0 (show r.dark=false by simpa using C1)];rfl),(by rw [bgone_2 hn hs0 (show r.dark=false by simpa using C1)]),((ok).k1.e1).up (fun _ h=>Or.inl h)⟩⟩
 have hs0:(sizeN r.abs n).2=true:=by simpa using C0
 refine .skip<|.seq<|.seq<|.r<|.z .mvP<|.z .mvT<|.c' 20 .func (remove_any (d:=d) (r:=r) (E:=E) (n:=n) (ok).loc1 hk (by omega)) ?_;rintro _ η1 ⟨rw1,Ew1,rfl,haw1,upw1⟩;have hzw1:=(ok).chg.size;have ok:=(ok).dsk (d:=d) (r:=r) upw1;have hkw1:DkOk rw1.abs:=by rw [haw1];exact (hk).remove
 have hcw1:rw1.chg≤r.chg+1:=Int.le_trans (Int.le_of_eq (congrArg Dk.chg haw1)) remove_chg;have hnw1:=fun j hj=>(upw1.new j hj).elim ((fun _ h=>Or.inl h) j) fun h1=>Or.inr (Nat.le_trans hzw1 h1);refine .z .asI<|.nil ?_;refine .seq<|.r<|.z .mvI<|.z .neq<|.nil ?_;refine .cd (fun C2=>?_) (fun C2=>?_)
 ·
  refine .seq<|.r<|.z .mvI<|.z .asI<|.nil ?_;refine .ret ⟨.int .i64 ((removeN r.abs n).2:Int),Res.one rfl rfl,⟨rw1,Ew1,(by rw [bgone_4 hs0 (by omega)]),(by rw [bgone_4 hs0 (by omega)];exact haw1),((ok).k1.e1).up hnw1⟩⟩
 refine .skip<|.seq<|.r<|.z .mvP<|.z .mvT<|.c' 26 .func (sync_any (d:=d) (r:=rw1) (E:=Ew1) (n:=n) (ok).loc1 hkw1 (by omega)) ?_;rintro _ η2 ⟨rw2,Ew2,rfl,haw2,upw2⟩;have hzw2:=(ok).chg.size;have ok:=(ok).dsk (d:=d) (r:=rw1) upw2;have hkw2:DkOk rw2.abs:=by rw [haw2];exact (hkw1).sync
 have hcw2:rw2.chg≤rw1.chg+1:=Int.le_trans (Int.le_of_eq (congrArg Dk.chg haw2)) sync_chg;have hnw2:=fun j hj=>(upw2.new j hj).elim (hnw1 j) fun h1=>Or.inr (Nat.le_trans hzw2 h1);refine .z .asI<|.nil ?_;refine .ret ⟨.int .i64 ((syncN rw1.abs n).2:Int),Res.one rfl rfl,⟨rw2,Ew2,(by rw [bgone_3 (by omega),haw1]),(by rw [bgone_3 (by omega),←haw1];exact haw2),((ok).k1.e1).up hnw2⟩⟩
theorem most_any {h:Heap} {n:Nat} (hn:n≤16777216) :
  HC Tryz.prog 184 #[.int .i64 (n:Int)] h (fun v h'=>v=.int .i64 ((mostB n:Nat):Int)∧h'=h):=by
 refine HC.go Tryz.func184 6 ?_;refine .seq<|.r<|.z .asI<|.nil ?_;refine .seq<|.r<|.z .mvI<|.z (.addI (b:=8))<|.z (.quoI (a:=16777188) (b:=(n+8)))<|.z .asI<|.nil ?_;refine .ret ⟨.int .i64 ((16777188 / (n+8):Nat):Int),Res.one rfl rfl,⟨rfl,rfl⟩⟩
open Go Go.HL
def setE (s:List Int):List (Int × Value):=s.map fun k=>(k,.bool true)
theorem setE_get {s:List Int} {k:Int} : (aget (setE s) k).getD (.bool false)=.bool (decide (k∈s)):=by
 induction s with
 | nil=>rfl
 | cons a s ih=>
  unfold setE aget at ih⊢;rw [List.map_cons,List.find?_cons];by_cases h:a=k
  ·simp [h]
  ·have h2:¬k=a:=fun e=>h e.symm;simpa [h,h2] using ih
theorem setE_put {s:List Int} {k:Int} (h:k∉s):aput (setE s) k (.bool true)=setE (s++[k]):=by
 induction s with
 | nil=>rfl
 | cons a s ih=>
  have h1:¬a=k:=fun e=>h (by simp [e]);have h2:=ih fun hs=>h (List.mem_cons_of_mem _ hs);unfold setE at h2⊢;simp only [List.map_cons,List.cons_append,aput,if_neg h1];rw [h2]
theorem jright_any {h:Heap} {z:Int} (hz : -9223372036854775808≤z∧z≤9223372036854775807) :
  HC Tryz.prog 231 #[.int .i64 z] h (fun v h'=>v=.bool (okZ z)∧h'=h):=by
 refine HC.go Tryz.func231 16 ?_;refine .seq<|.r<|.z .asB<|.nil ?_;refine .seq<|.r<|.z .mvI<|.z .geq<|.z .mvB<|.sd (fun G5=>?_) (fun G5=>?_)
 ·
  refine .z .mvI<|.z .leq<|.z .pkt<|.z .mvB<|.sd (fun G9=>?_) (fun G9=>?_)
  ·
   obtain ⟨q,rfl⟩:∃q:Nat,z=(q:Int):=⟨z.toNat,by omega⟩;have hq:=and_pow q (by omega) (by omega);refine .z .mvI<|.z .mvI<|.z .sub<|.z (.bandI q (q-1))<|.z .eql<|.z .pkt<|.z .asB<|.nil ?_;refine .ret ⟨.bool (decide ((((q &&& (q-1)):Nat):Int)=0)),Res.one rfl rfl,⟨by first | exact congrArg _ (by unfold okZ;rw [decide_eq_decide];omega) | exact congrArg _ (by unfold okZ;exact (decide_eq_false (by omega)).symm) | exact congrArg _ (by unfold okZ;exact (decide_eq_true (by omega)).symm),rfl⟩⟩
  refine .y<|.y<|.y<|.y<|.y<|.z .pkf<|.z .asB<|.nil ?_;refine .ret ⟨.bool false,Res.one rfl rfl,⟨by first | exact congrArg _ (by unfold okZ;rw [decide_eq_decide];omega) | exact congrArg _ (by unfold okZ;exact (decide_eq_false (by omega)).symm) | exact congrArg _ (by unfold okZ;exact (decide_eq_true (by omega)).symm),rfl⟩⟩
 refine .y<|.y<|.z .pkf<|.z .mvB<|.y<|.y<|.y<|.y<|.y<|.z .pkf<|.z .asB<|.nil ?_;refine .ret ⟨.bool false,Res.one rfl rfl,⟨by first | exact congrArg _ (by unfold okZ;rw [decide_eq_decide];omega) | exact congrArg _ (by unfold okZ;exact (decide_eq_false (by omega)).symm) | exact congrArg _ (by unfold okZ;exact (decide_eq_true (by omega)).symm),rfl⟩⟩
theorem jstart0_any {h:Heap} {n k s:Nat} (hn:n<4294967296) (hk:k<4294967296) (hs:s<18446744073709551616) :
  HC Tryz.prog 232 #[.int .u64 (n:Int),.int .u64 (k:Int),.int .u64 (s:Int)] h (fun v h'=>Own h h' 1 5 v ((jheadN n k s).map bv)):=by
 have ok:=Hp.nil h none_;refine HC.go Tryz.func232 26 ?_;refine .seq<|.r<|.z .asS<|.nil ?_;refine .seq<|.r<|.a' 8 (.lit [.const (.int .u8 116),.const (.int .u8 111),.const (.int .u8 109),.const (.int .u8 101),.const (.int .u8 32),.const (.int .u8 106),.const (.int .u8 110),.const (.int .u8 108)] (cs:=[.int .u8 116,.int .u8 111,.int .u8 109,.int .u8 101,.int .u8 32,.int .u8 106,.int .u8 110,.int .u8 108]) T.el44 T.sz5 T.zr5 ok ⟨rfl,rfl,rfl,rfl,rfl,rfl,rfl,rfl,trivial⟩) ?_;rintro _ η1 ⟨pb1,rfl,ok,xe⟩;have ok:=ok.cx (ys:=([116,111,109,101,32,106,110,108]:List UInt8).map bv) rfl;refine .a' 9 (.cvL T.el44 T.in5 ok) ?_;rintro _ η2 ⟨rfl,ok,cg⟩;refine .z .mvI<|.c' 11 .func (fixed_any (n:=n) (size:=4) (by omega) (by omega) (by omega)) ?_;rintro _ η3 own;obtain ⟨ya1,yc1,rfl⟩:=own.formB;have ok:=ok.own own;refine .z .mvI<|.c' 13 .func (fixed_any (n:=k) (size:=4) (by omega) (by omega) (by omega)) ?_;rintro _ η4 own;obtain ⟨ya2,yc2,rfl⟩:=own.formB;have ok:=ok.own own;refine .z .mvI<|.c' 15 .func (fixed_any (n:=s) (size:=8) (by omega) (by omega) (by omega)) ?_;rintro _ η5 own;obtain ⟨ya3,yc3,rfl⟩:=own.formB;have ok:=ok.own own;refine .a' 16 (.lit [.tmp 9,.tmp 11,.tmp 13,.tmp 15] (cs:=[.slice (some ⟨pb1,0,none⟩) 8 8,.slice ya1 ((fixedN n 4).length) yc1,.slice ya2 ((fixedN k 4).length) yc2,.slice ya3 ((fixedN s 8).length) yc3]) T.el28 T.sz44 T.zr44 ok ⟨rfl,rfl,rfl,rfl,trivial⟩) ?_;rintro _ η6 ⟨pb2,rfl,ok,xe⟩;refine .c' 17 .func (njoin_any (a:=some ⟨pb2,0,none⟩) (c:=4) (L:=[[116,111,109,101,32,106,110,108],(fixedN n 4),(fixedN k 4),(fixedN s 8)]) (RdL.rows (v:=(some ⟨pb2,0,none⟩,4,4)) (xs:=[(some ⟨pb1,0,none⟩,8,8),(ya1,(fixedN n 4).length,yc1),(ya2,(fixedN k 4).length,yc2),(ya3,(fixedN s 8).length,yc3)]) (ls:=[[116,111,109,101,32,106,110,108],(fixedN n 4),(fixedN k 4),(fixedN s 8)]) ok.m0 ⟨⟨_,_,(RdL.ofCapB (v:=(some ⟨pb1,0,none⟩,8,8)) (l:=[116,111,109,101,32,106,110,108]) ok.m4)⟩,⟨_,_,(RdL.ofCapB (v:=(ya1,(fixedN n 4).length,yc1)) (l:=(fixedN n 4)) ok.m3)⟩,⟨_,_,(RdL.ofCapB (v:=(ya2,(fixedN k 4).length,yc2)) (l:=(fixedN k 4)) ok.m2)⟩,⟨_,_,(RdL.ofCapB (v:=(ya3,(fixedN s 8).length,yc3)) (l:=(fixedN s 8)) ok.m1)⟩,trivial⟩) (by simp [fixedN_len]<;>omega)) ?_;rintro _ η7 own;obtain ⟨ya4,yc4,rfl⟩:=own.formB;have ok:=ok.own own;refine .z .asS<|.nil ?_;refine .seq<|.r<|.z .mvS<|.z .mvS<|?_;have hsm:=sumN_lt ([([[116,111,109,101,32,106,110,108],(fixedN n 4),(fixedN k 4),(fixedN s 8)]).flatten]).flatten;refine .a' 20 (.lit [.tmp 19] (cs:=[.slice ya4 ((([[116,111,109,101,32,106,110,108],(fixedN n 4),(fixedN k 4),(fixedN s 8)]).flatten).length) yc4]) T.el28 T.sz44 T.zr44 ok ⟨rfl,trivial⟩) ?_;rintro _ η8 ⟨pb3,rfl,ok,xe⟩;refine .c' 21 .func (sum_any (a:=some ⟨pb3,0,none⟩) (c:=1) (L:=[([[116,111,109,101,32,106,110,108],(fixedN n 4),(fixedN k 4),(fixedN s 8)]).flatten]) (RdL.rows (v:=(some ⟨pb3,0,none⟩,1,1)) (xs:=[(ya4,(([[116,111,109,101,32,106,110,108],(fixedN n 4),(fixedN k 4),(fixedN s 8)]).flatten).length,yc4)]) (ls:=[([[116,111,109,101,32,106,110,108],(fixedN n 4),(fixedN k 4),(fixedN s 8)]).flatten]) ok.m0 ⟨⟨_,_,(RdL.ofCapB (v:=(ya4,(([[116,111,109,101,32,106,110,108],(fixedN n 4),(fixedN k 4),(fixedN s 8)]).flatten).length,yc4)) (l:=(([[116,111,109,101,32,106,110,108],(fixedN n 4),(fixedN k 4),(fixedN s 8)]).flatten)) ok.m1)⟩,trivial⟩)) ?_;rintro _ η9 ⟨rfl,hx⟩;have ok:=ok.ext hx;refine .z (.cvs T.in130 T.in89 (M:=18446744073709551616) rfl rfl)<|.c' 23 .func (fixed_any (n:=(sumN ([([[116,111,109,101,32,106,110,108],(fixedN n 4),(fixedN k 4),(fixedN s 8)]).flatten]).flatten)) (size:=4) (by omega) (by omega) (by omega)) ?_;rintro _ η10 own;obtain ⟨ya5,yc5,rfl⟩:=own.formB;have ok:=ok.own own;refine .a' 24 (.lit [.tmp 18,.tmp 23] (cs:=[.slice ya4 ((([[116,111,109,101,32,106,110,108],(fixedN n 4),(fixedN k 4),(fixedN s 8)]).flatten).length) yc4,.slice ya5 ((fixedN (sumN ([([[116,111,109,101,32,106,110,108],(fixedN n 4),(fixedN k 4),(fixedN s 8)]).flatten]).flatten) 4).length) yc5]) T.el28 T.sz44 T.zr44 ok ⟨rfl,rfl,trivial⟩) ?_;rintro _ η11 ⟨pb4,rfl,ok,xe⟩;refine .c' 25 .func (njoin_any (a:=some ⟨pb4,0,none⟩) (c:=2) (L:=[([[116,111,109,101,32,106,110,108],(fixedN n 4),(fixedN k 4),(fixedN s 8)]).flatten,(fixedN (sumN ([([[116,111,109,101,32,106,110,108],(fixedN n 4),(fixedN k 4),(fixedN s 8)]).flatten]).flatten) 4)]) (RdL.rows (v:=(some ⟨pb4,0,none⟩,2,2)) (xs:=[(ya4,(([[116,111,109,101,32,106,110,108],(fixedN n 4),(fixedN k 4),(fixedN s 8)]).flatten).length,yc4),(ya5,(fixedN (sumN ([([[116,111,109,101,32,106,110,108],(fixedN n 4),(fixedN k 4),(fixedN s 8)]).flatten]).flatten) 4).length,yc5)]) (ls:=[([[116,111,109,101,32,106,110,108],(fixedN n 4),(fixedN k 4),(fixedN s 8)]).flatten,(fixedN (sumN ([([[116,111,109,101,32,106,110,108],(fixedN n 4),(fixedN k 4),(fixedN s 8)]).flatten]).flatten) 4)]) ok.m0 ⟨⟨_,_,(RdL.ofCapB (v:=(ya4,(([[116,111,109,101,32,106,110,108],(fixedN n 4),(fixedN k 4),(fixedN s 8)]).flatten).length,yc4)) (l:=(([[116,111,109,101,32,106,110,108],(fixedN n 4),(fixedN k 4),(fixedN s 8)]).flatten)) ok.m3)⟩,⟨_,_,(RdL.ofCapB (v:=(ya5,(fixedN (sumN ([([[116,111,109,101,32,106,110,108],(fixedN n 4),(fixedN k 4),(fixedN s 8)]).flatten]).flatten) 4).length,yc5)) (l:=(fixedN (sumN ([([[116,111,109,101,32,106,110,108],(fixedN n 4),(fixedN k 4),(fixedN s 8)]).flatten]).flatten) 4)) ok.m1)⟩,trivial⟩) (by simp [fixedN_len]<;>omega)) ?_;rintro _ η12 own;obtain ⟨ya6,yc6,rfl⟩:=own.formB;have ok:=ok.own own;refine .z .asS<|.nil ?_;refine .ret ⟨.slice ya6 ((([([[116,111,109,101,32,106,110,108],(fixedN n 4),(fixedN k 4),(fixedN s 8)]).flatten,(fixedN (sumN ([([[116,111,109,101,32,106,110,108],(fixedN n 4),(fixedN k 4),(fixedN s 8)]).flatten]).flatten) 4)]).flatten).length) yc6,Res.one rfl rfl,by have:=ok.toOwn;simpa [jheadN,jfrontN,jsign] using this⟩
theorem jstart_any {h:Heap} {n k s:Nat} (hn:n<4294967296) (hk:k<4294967296) (hs:s<18446744073709551616) :
  HC Tryz.prog 212 #[.int .i64 (n:Int),.int .i64 (k:Int),.int .u64 (s:Int)] h (fun v h'=>(okJ n k=false∧v=.tuple #[.slice none 0 0,.int .i64 1]∧Ext h h')∨(okJ n k=true∧∃w,v=.tuple #[w,.int .i64 0]∧Own h h' 1 5 w ((jheadN n k s).map bv))):=by
 have ok:=Hp.nil h none_;refine HC.go Tryz.func212 31 ?_;refine .seq<|.r<|.z .asS<|.z .asI<|.nil ?_;refine .seq<|.seq<|.r<|.z .mvI<|.k 9 .func (jright_any (z:=(n:Int)) (by omega))<|.z .not<|.z .mvB<|.spl (fun G11=>?_) (fun G11=>?_)
 ·
  have hz:okZ (n:Int)=false:=by simpa using G11
  refine .y<|.y<|.z .pkt<|.z .mvB<|.y<|.y<|.z .pkt<|.z .mvB<|.y<|.y<|.y<|.y<|.z .pkt<|.nil ?_;refine .ct<|.seq<|.r<|.z .asS<|.z .asI<|.nil ?_;refine .ret ⟨.tuple #[.slice none 0 0,.int .i64 1],Res.two rfl rfl rfl,.inl ⟨by first | exact okJ_1 hz | exact okJ_2 (by omega) | exact okJ_3 (by omega) | exact okJ_3 (fun h9=>by have:=(okZ_quo (k:=k) hz).2 h9;omega),rfl,ok.chg⟩⟩
 have hz:okZ (n:Int)=true:=by simpa using G11
 refine .z .mvI<|.z .lss<|.z .pkf<|.z .mvB<|.sd (fun G15=>?_) (fun G15=>?_)
 ·
  refine .y<|.y<|.z .pkt<|.z .mvB<|.y<|.y<|.y<|.y<|.z .pkt<|.nil ?_;refine .ct<|.seq<|.r<|.z .asS<|.z .asI<|.nil ?_;refine .ret ⟨.tuple #[.slice none 0 0,.int .i64 1],Res.two rfl rfl rfl,.inl ⟨by first | exact okJ_1 hz | exact okJ_2 (by omega) | exact okJ_3 (by omega) | exact okJ_3 (fun h9=>by have:=(okZ_quo (k:=k) hz).2 h9;omega),rfl,ok.chg⟩⟩
 refine .z .mvI<|.z .gtr<|.z .pkf<|.z .mvB<|.sd (fun G19=>?_) (fun G19=>?_)
 ·
  refine .y<|.y<|.y<|.y<|.z .pkt<|.nil ?_;refine .ct<|.seq<|.r<|.z .asS<|.z .asI<|.nil ?_;refine .ret ⟨.tuple #[.slice none 0 0,.int .i64 1],Res.two rfl rfl rfl,.inl ⟨by first | exact okJ_1 hz | exact okJ_2 (by omega) | exact okJ_3 (by omega) | exact okJ_3 (fun h9=>by have:=(okZ_quo (k:=k) hz).2 h9;omega),rfl,ok.chg⟩⟩
 refine .z .mvI<|.z .mvI<|?_;have hmul:=okZ_mul (n:=n) (k:=k) hz (by omega);refine .z .mulI<|.z .gtr<|.z .pkf<|.nil ?_;refine .cd (fun C0=>?_) (fun C0=>?_)
 ·
  refine .seq<|.r<|.z .asS<|.z .asI<|.nil ?_;refine .ret ⟨.tuple #[.slice none 0 0,.int .i64 1],Res.two rfl rfl rfl,.inl ⟨by first | exact okJ_1 hz | exact okJ_2 (by omega) | exact okJ_3 (by omega) | exact okJ_3 (fun h9=>by have:=(okZ_quo (k:=k) hz).2 h9;omega),rfl,ok.chg⟩⟩
 refine .skip<|.seq<|.r<|.z .mvI<|.z (.cvs T.in130 T.in3 (M:=18446744073709551616) rfl rfl)<|.z .mvI<|.z (.cvs T.in130 T.in3 (M:=18446744073709551616) rfl rfl)<|.z .mvI<|.c' 30 .func (jstart0_any (n:=n) (k:=k) (s:=s) (by omega) (by omega) (by omega)) ?_;rintro _ η1 own;obtain ⟨ya1,yc1,rfl⟩:=own.formB;have ok:=ok.own own;refine .z .asS<|.z .asI<|.nil ?_;refine .ret ⟨.tuple #[.slice ya1 ((jheadN n k s).length) yc1,.int .i64 0],Res.two rfl rfl rfl,.inr ⟨okJ_t hz (by omega) (by first | omega | exact (okZ_quo hz).1 (by omega)),_,rfl,by have:=ok.toOwn;simpa [jheadN,jfrontN,jsign] using this⟩⟩
theorem jfoot_any {h:Heap} {F E:Nat→Prop} {s:Nat} {a:Option Addr} {c:Nat} {l:List UInt8} (hs:s<18446744073709551616) (hl:RdL h F E (a,l.length,c) l) :
  HC Tryz.prog 213 #[.int .u64 (s:Int),.slice a l.length c] h (fun v h'=>Own h h' 1 5 v ((jfootN s l).map bv)):=by
 have hc2:=hl.m;have hc1:l.length≤c:=hl.c;simp only at hc2;have ok:=(Hp.nil h none_).arg hl;refine HC.go Tryz.func213 12 ?_;refine .seq<|.r<|.z .asS<|.nil ?_;refine .seq<|.r<|.z .mvI<|.c' 6 .func (fixed_any (n:=s) (size:=8) (by omega) (by omega) (by omega)) ?_;rintro _ η1 own;obtain ⟨ya1,yc1,rfl⟩:=own.formB;have ok:=ok.own own;refine .z .mvS<|.a' 8 (.lit [.tmp 6,.tmp 7] (cs:=[.slice ya1 ((fixedN s 8).length) yc1,.slice a l.length c]) T.el28 T.sz44 T.zr44 ok ⟨rfl,rfl,trivial⟩) ?_;rintro _ η2 ⟨pb1,rfl,ok,xe⟩;have hsm:=sumN_lt ([fixedN s 8,l]).flatten;refine .c' 9 .func (sum_any (a:=some ⟨pb1,0,none⟩) (c:=2) (L:=[(fixedN s 8),l]) (RdL.rows (v:=(some ⟨pb1,0,none⟩,2,2)) (xs:=[(ya1,(fixedN s 8).length,yc1),(a,l.length,c)]) (ls:=[(fixedN s 8),l]) ok.m0 ⟨⟨_,_,(RdL.ofCapB (v:=(ya1,(fixedN s 8).length,yc1)) (l:=(fixedN s 8)) ok.m1)⟩,⟨_,_,ok.r0⟩,trivial⟩)) ?_;rintro _ η3 ⟨rfl,hx⟩;have ok:=ok.ext hx;refine .z (.cvs T.in130 T.in89 (M:=18446744073709551616) rfl rfl)<|.c' 11 .func (fixed_any (n:=(sumN ([(fixedN s 8),l]).flatten)) (size:=4) (by omega) (by omega) (by omega)) ?_;rintro _ η4 own;obtain ⟨ya2,yc2,rfl⟩:=own.formB;have ok:=ok.own own;refine .z .asS<|.nil ?_;refine .ret ⟨.slice ya2 ((fixedN (sumN ([(fixedN s 8),l]).flatten) 4).length) yc2,Res.one rfl rfl,by have:=ok.toOwn;simpa [jfootN] using this⟩
theorem jentry_any {h:Heap} {F E:Nat→Prop} {s:Nat} {z1 z2:Int} {a:Option Addr} {c:Nat} {l:List UInt8} (hs:s<18446744073709551616) (hN:l.length≤10000000) (hl:RdL h F E (a,l.length,c) l) :
  HC Tryz.prog 317 #[.int .u64 (s:Int),.agg #[.int .i64 z1,.int .i64 z2,.slice a l.length c]] h (fun v h'=>(okE ⟨z1,z2,l⟩=false∧v=.tuple #[.slice none 0 0,.int .i64 1]∧Ext h h')∨(okE ⟨z1,z2,l⟩=true∧∃w,v=.tuple #[w,.int .i64 0]∧Own h h' 1 5 w ((jputN s z1.toNat l).map bv))):=by
 have hc2:=hl.m;have hc1:l.length≤c:=hl.c;simp only at hc2;have ok:=(Hp.nil h none_).arg hl;refine HC.go Tryz.func317 41 ?_;refine .seq<|.r<|.a' 3 (.bxA (cs:=[.int .i64 z1,.int .i64 z2,.slice a l.length c]) ok) ?_;rintro _ η1 ⟨pb1,rfl,ok,xe⟩;refine .z .asS<|.z .asI<|.nil ?_;refine .seq<|.seq<|.r<|.z (.fa T.fd277_0)<|.z (.ldx T.ag3 ok.m0)<|.z .lss<|.z .mvB<|.sd (fun G10=>?_) (fun G10=>?_)
 ·
  refine .y<|.y<|.y<|.z .pkt<|.z .mvB<|.y<|.y<|.y<|.z .pkt<|.z .mvB<|.y<|.y<|.y<|.y<|.y<|.z .pkt<|.nil ?_;refine .ct<|.seq<|.r<|.z .asS<|.z .asI<|.nil ?_;refine .ret ⟨.tuple #[.slice none 0 0,.int .i64 1],Res.two rfl rfl rfl,.inl ⟨by first | exact okE_1 (by omega) | exact okE_2 (by simpa using C0),rfl,ok.chg⟩⟩
 refine .z (.fa T.fd277_0)<|.z (.ldx T.ag3 ok.m0)<|.z .gtr<|.z .pkf<|.z .mvB<|.sd (fun G15=>?_) (fun G15=>?_)
 ·
  refine .y<|.y<|.y<|.z .pkt<|.z .mvB<|.y<|.y<|.y<|.y<|.y<|.z .pkt<|.nil ?_;refine .ct<|.seq<|.r<|.z .asS<|.z .asI<|.nil ?_;refine .ret ⟨.tuple #[.slice none 0 0,.int .i64 1],Res.two rfl rfl rfl,.inl ⟨by first | exact okE_1 (by omega) | exact okE_2 (by simpa using C0),rfl,ok.chg⟩⟩
 refine .z (.fa T.fd277_1)<|.z (.ldx T.ag3 ok.m0)<|.z .neq<|.z .pkf<|.z .mvB<|.sd (fun G20=>?_) (fun G20=>?_)
 ·
  refine .y<|.y<|.y<|.y<|.y<|.z .pkt<|.nil ?_;refine .ct<|.seq<|.r<|.z .asS<|.z .asI<|.nil ?_;refine .ret ⟨.tuple #[.slice none 0 0,.int .i64 1],Res.two rfl rfl rfl,.inl ⟨by first | exact okE_1 (by omega) | exact okE_2 (by simpa using C0),rfl,ok.chg⟩⟩
 refine .z (.fa T.fd277_2)<|.z (.ldx T.ag44 ok.m0)<|.z (.len T.el44)<|.k 24 .func (jright_any (z:=(l.length:Int)) (by omega))<|.z .not<|.z .pkf<|.nil ?_;refine .cond (fun C0=>?_) (fun C0=>?_)
 ·
  refine .seq<|.r<|.z .asS<|.z .asI<|.nil ?_;refine .ret ⟨.tuple #[.slice none 0 0,.int .i64 1],Res.two rfl rfl rfl,.inl ⟨by first | exact okE_1 (by omega) | exact okE_2 (by simpa using C0),rfl,ok.chg⟩⟩
 refine .skip<|.seq<|?_;obtain ⟨p,rfl⟩:∃p:Nat,z1=(p:Int):=⟨z1.toNat,by omega⟩;refine .a 9 (fun fl hh=>Hp h none_ [boxI pb1 277 [.int .i64 (p:Int),.int .i64 z2,.slice a l.length c]] [rdI (fun j=>F j∧j<h.size) (fun j=>E j∧j<h.size) (a,l.length,c) l] hh) mixed ?_;have hS:=ok;refine .g 0 false rfl 27 hS (fun _=>.fa T.fd277_0)<|.lw 1 false rfl 28 hS (fun _ _ hS=>.ldx T.ag3 hS.m0)<|.g 2 false rfl 29 hS (fun _=>.cvs T.in130 T.in3 (M:=18446744073709551616) rfl rfl)<|.g 4 false rfl 31 hS (fun _=>.fa T.fd277_2)<|.lw 5 false rfl 32 hS (fun _ _ hS=>.ldx T.ag44 hS.m0)<|.o1 3<|.c' false rfl 30 .func (fixed_any (n:=p) (size:=4) (by omega) (by omega) (by omega)) ?_;rintro _ η2 own;obtain ⟨ya1,yc1,rfl⟩:=own.formB;have ok:=ok.own own;refine ⟨ok.n1.k1,?_⟩;have hS:=ok.n1.k1;refine .o1 6<|.a' false rfl 33 (.lit [.tmp 30,.tmp 32] (cs:=[.slice ya1 ((fixedN p 4).length) yc1,.slice a l.length c]) T.el28 T.sz44 T.zr44 ok ⟨rfl,rfl,trivial⟩) ?_;rintro _ η3 ⟨pb2,rfl,ok,xe⟩;refine ⟨ok.n2.k1,?_⟩;have hS:=ok.n2.k1;refine .o1 7<|.c' false rfl 34 .func (njoin_any (a:=some ⟨pb2,0,none⟩) (c:=2) (L:=[(fixedN p 4),l]) (RdL.rows (v:=(some ⟨pb2,0,none⟩,2,2)) (xs:=[(ya1,(fixedN p 4).length,yc1),(a,l.length,c)]) (ls:=[(fixedN p 4),l]) ok.m0 ⟨⟨_,_,(RdL.ofCapB (v:=(ya1,(fixedN p 4).length,yc1)) (l:=(fixedN p 4)) ok.m1)⟩,⟨_,_,ok.r0⟩,trivial⟩) (by simp [fixedN_len,jfootN]<;>omega)) ?_;rintro _ η4 own;obtain ⟨ya2,yc2,rfl⟩:=own.formB;have ok:=ok.own own;refine ⟨ok.n3.k1,?_⟩;have hS:=ok.n3.k1;refine .g 8 false rfl 6 hS (fun _=>.asS)<|.e ?_;refine .seq<|.r<|.z .mvS<|.z .mvI<|.z .mvS<|.c' 38 .func (jfoot_any (s:=s) (by omega) (a:=ya2) (c:=yc2) (l:=([(fixedN p 4),l]).flatten) (RdL.ofCapB (v:=(ya2,(([(fixedN p 4),l]).flatten).length,yc2)) (l:=(([(fixedN p 4),l]).flatten)) ok.m0)) ?_;rintro _ η5 own;obtain ⟨ya3,yc3,rfl⟩:=own.formB;have ok:=ok.own own;refine .a' 39 (.lit [.tmp 35,.tmp 38] (cs:=[.slice ya2 ((([(fixedN p 4),l]).flatten).length) yc2,.slice ya3 ((jfootN s (([(fixedN p 4),l]).flatten)).length) yc3]) T.el28 T.sz44 T.zr44 ok ⟨rfl,rfl,trivial⟩) ?_;rintro _ η6 ⟨pb3,rfl,ok,xe⟩;refine .c' 40 .func (njoin_any (a:=some ⟨pb3,0,none⟩) (c:=2) (L:=[([(fixedN p 4),l]).flatten,(jfootN s (([(fixedN p 4),l]).flatten))]) (RdL.rows (v:=(some ⟨pb3,0,none⟩,2,2)) (xs:=[(ya2,(([(fixedN p 4),l]).flatten).length,yc2),(ya3,(jfootN s (([(fixedN p 4),l]).flatten)).length,yc3)]) (ls:=[([(fixedN p 4),l]).flatten,(jfootN s (([(fixedN p 4),l]).flatten))]) ok.m0 ⟨⟨_,_,(RdL.ofCapB (v:=(ya2,(([(fixedN p 4),l]).flatten).length,yc2)) (l:=(([(fixedN p 4),l]).flatten)) ok.m2)⟩,⟨_,_,(RdL.ofCapB (v:=(ya3,(jfootN s (([(fixedN p 4),l]).flatten)).length,yc3)) (l:=(jfootN s (([(fixedN p 4),l]).flatten))) ok.m1)⟩,trivial⟩) (by simp [fixedN_len,jfootN]<;>omega)) ?_;rintro _ η7 own;obtain ⟨ya4,yc4,rfl⟩:=own.formB;have ok:=ok.own own;refine .z .asS<|.z .asI<|.nil ?_;refine .ret ⟨.tuple #[.slice ya4 ((([([(fixedN p 4),l]).flatten,(jfootN s (([(fixedN p 4),l]).flatten))]).flatten).length) yc4,.int .i64 0],Res.two rfl rfl rfl,.inr ⟨okE_t (by simpa using C0) (by omega),_,rfl,by have:=ok.toOwn;simpa [jputN,jbodyN,jfootN] using this⟩⟩
theorem okJ_le {n k:Nat} (h:okJ n k=true):n≤4096∧k≤1048576∧n*k≤16777216∧okSz n=true:=by
 simp only [okJ,Bool.and_eq_true,decide_eq_true_eq] at h;have:=h.1;simp only [okSz,Bool.or_eq_true,beq_iff_eq] at this;exact ⟨by omega,h.2.1,h.2.2,h.1⟩
@[reducible] def cacL (c:Nat) (F:Nat→Prop) (room:Int) (L:List AP):Itm:=⟨fun h=>CRep h F c room L,F,fun _ _ _ cg d q=>q.chg cg d⟩
theorem lpage {L:List AP} {no:Int} {x:AP} (h:hit no L=some x):gotL no L=x.b:=by unfold gotL;rw [h];rfl
section
variable {h:Heap} {c:Nat} {F:Nat→Prop} {room:Int} {L:List AP} {no:Int} {l:List UInt8}
theorem lget_any (q:CRep h F c room L) :
  HC Tryz.prog 287 #[.pointer (some ⟨c,0,none⟩),.int .i64 no] h (fun v h'=>∃F',(∃a c' x,v=.tuple #[.slice a x.b.length c',.bool true]∧hit no L=some x∧Hp h F [capI 1 5 (a,x.b.length,c') (x.b.map bv),cacL c F' room (getL no L)] [] h')∨
   (∃a n m,v=.tuple #[.slice a n m,.bool false]∧hit no L=none∧Hp h F [cacL c F' room (getL no L)] [] h')):=by
 refine (get_any q no).mono fun v h' ⟨g,F',hv,hr,hs,hcap,hg⟩=>⟨F',?_⟩;have o1:Hp h F [cacL c F' room (getL no L)] [] h':=Step.hp (x:=cacL c F room L) (it:=cacL c F' room (getL no L)) q q.lt rfl hs hr hr.lt rfl;cases hh:hit no L with
 | none=>obtain ⟨ga,gn,gc⟩:=g;exact .inr ⟨ga,gn,gc,by rw [hv,hh];rfl,rfl,o1⟩
 | some x=>
  rw [lpage hh] at hcap;obtain ⟨a,n,c'⟩:=g;have hn:n=x.b.length:=Cap.lenB hcap;subst hn;refine .inl ⟨a,c',x,by rw [hv,hh];rfl,rfl,⟨o1.chg,fun i hi=>?_,by simp,?_,by simp⟩⟩
  ·rcases List.mem_cons.1 hi with rfl | hi
   ·exact ⟨hcap,fun j hj=>⟨hcap.lt hj,.inr (hg j hj).1⟩⟩
   ·exact o1.m i hi
  ·exact List.pairwise_cons.2 ⟨fun b hb j hj=>by rw [List.mem_singleton.1 hb];exact (hg j hj).2,List.pairwise_singleton _ _⟩
theorem lput_any {a:Option Addr} {n:Nat} {Fb Eb:Nat→Prop} {d:Bool} (q:CRep h F c room L) (hb:RdL h Fb Eb (a,l.length,n) l) (hbl:l.length≤1000000) (hr:1≤room) (hlen:L.length≤100000000) :
  HC Tryz.prog 288 #[.pointer (some ⟨c,0,none⟩),.int .i64 no,.slice a l.length n,.bool d] h (fun v h'=>∃F',Hp h F [cacL c F' room (putL room no l d L)] [] h'∧FrIn h' F' v (putA room no l d L)):=
 (put_anyF q hlen no (bs:=(a,l.length,n)) hb.by hbl d hr).mono fun v h' ⟨F',hr,hst,hf⟩=>⟨F',Step.hp (x:=cacL c F room L) (it:=cacL c F' room (putL room no l d L)) q q.lt rfl hst hr hr.lt rfl,hf⟩
end
structure RK where
 in_:Bool
 now:Nat
 valid:Nat
 begun:Bool
 nonce:Nat
 km:Option Nat
 kept:List Int
 marked:Nat
 d:Nat
 rd:RD
 size:Nat
 c:Nat
 sure:Nat
 bytes:Nat
 broken:Bool
def kepI (km:Option Nat) (kept:List Int):Itm:=match km with
 | none=>anyI none_ (fun _=>True) (fun _ _ _ _ _ _=>trivial)
 | some m=>mapI (Value.int .i64) m (setE kept)
end Go.Proofs.YtndlpekckpdncaaGreat
namespace Go.HL
open Go Go.Proofs.YtndlpekckpdncaaGreat
section
variable {h0 h h':Heap} {D G:Nat→Prop} {M R:List Itm} {p:Nat} {r r':RK} {E E':Nat→Prop}
theorem Hp.kepNil {kept:List Int} (ok:Hp h0 D M R h):Hp h0 D (kepI none kept::M) R h:=ok.newM (Ext.refl _) _ trivial (fun _ f=>f.elim)
theorem Hp.kepSome {m:Nat} {kept:List Int} (ok:Hp h0 D (kepI (some m) kept::M) R h):Hp h0 D (mapI (Value.int .i64) m (setE kept)::M) R h:=ok
end
end Go.HL
namespace Go.Proofs.YtndlpekckpdncaaGreat
open Go Go.HL
section
variable {A:Bk} {s:List (List UInt8)} {cur:Option (List UInt8)}
theorem dirtyS_sub {S:List Int} {L:List AP} : ((dirtyS S L).map (·.page)).Sublist S:=by
 induction S with
 | nil=>exact .slnil
 | cons k S ih=>
  unfold dirtyS at ih⊢;rw [List.flatMap_cons,List.map_append];have h:((dirty1 L k).map (·.page)).Sublist [k]:=by
   unfold dirty1 toldL;cases hh:hit k L with
   | none=>simp
   | some x=>
    have:=(hit_some hh).2;by_cases hd:x.d=true
    ·simp only [hd,if_true,List.map_cons,List.map_nil,this];exact List.Sublist.refl _
    ·simp [hd]
  exact h.append ih
theorem dirtyB_perm {L:List AP} : ((nos L).mergeSort fun a b=>decide (a≤b)).Perm (nos L):=List.mergeSort_perm _ _
end
open Go Go.HL
theorem getD_set {P:List (List UInt8)} {k i:Nat} {b:List UInt8} (hk:k<P.length):(P.set k b).getD i []=if i=k then b else P.getD i []:=by
 rw [List.getD_eq_getElem?_getD,List.getElem?_set,List.getD_eq_getElem?_getD];by_cases h:k=i
 ·subst h;simp [hk]
 ·rw [if_neg h,if_neg fun e=>h e.symm]
theorem set_same {P:List (List UInt8)} {k:Nat} (hk:k<P.length):P.set k (P.getD k [])=P:=by
 have:P.getD k []=P[k]:=by simp [hk]
 rw [this];simp
theorem hit_of {L:List AP} (hn:(nos L).Nodup) {x:AP} (hx:x∈L):hit x.no L=some x:=by
 obtain ⟨y,hy⟩:=hit_mem (List.mem_map.2 ⟨x,hx,rfl⟩:x.no∈nos L);rw [hy,nos_inj hn (hit_some hy).1 hx (hit_some hy).2]
theorem bgetL_mem {L:List AP} (hn:(nos L).Nodup) {no:Int} {y:AP} : y∈getL no L↔y∈L:=by
 unfold getL;cases h:hit no L with
 | none=>exact Iff.rfl
 | some x=>
  have:=touch_mem hn (hit_some h).1 y;rw [(hit_some h).2] at this;exact this
theorem bgetL_nd {L:List AP} (hn:(nos L).Nodup) {no:Int} : (nos (getL no L)).Nodup:=by
 unfold getL;cases h:hit no L with
 | none=>exact hn
 | some x=>have:=nd_touch (x:=x) hn;rw [(hit_some h).2] at this;exact this
theorem put_cases {L:List AP} {room no:Int} {b:List UInt8} {d:Bool} (hno:1≤no) (hr:1≤room):∃ev:Option AP,putL1 no b d L=putL room no b d L++ev.toList∧putA room no b d L=toldL ev∧(∀x,ev=some x→x∈rid no L)∧(((putL1 no b d L).length:Int)≤room+1→((putL room no b d L).length:Int)≤room):=by
 have eL:putL room no b d L=if ((putL1 no b d L).length:Int)≤room then putL1 no b d L else (putL1 no b d L).dropLast:=if_neg (by omega)
 have eA:putA room no b d L=if ((putL1 no b d L).length:Int)≤room then [] else toldL (putL1 no b d L).getLast?:=if_neg (by omega)
 rw [eL,eA];by_cases h:((putL1 no b d L).length:Int)≤room
 ·rw [if_pos h,if_pos h];exact ⟨none,by simp,rfl,fun x h=>(by cases h),fun _=>h⟩
 ·rw [if_neg h,if_neg h];have hl:(putL1 no b d L).length=(rid no L).length+1:=by simp [putL1]
  have hrn:rid no L≠[]:=fun e=>by rw [e] at hl;simp at hl;omega
  obtain ⟨x,hx⟩:∃x,(putL1 no b d L).getLast? = some x:=by
   cases e:(putL1 no b d L).getLast? with
   | some x=>exact ⟨x,rfl⟩
   | none=>rw [List.getLast?_eq_none_iff] at e;simp [putL1] at e
  obtain ⟨M,hM⟩:=List.getLast?_eq_some_iff.1 hx;refine ⟨some x,by rw [hM];simp,by rw [hx],fun y hy=>?_,fun h2=>by rw [List.length_dropLast];omega⟩;cases hy
  cases M with
  | nil=>
   have:=congrArg List.length hM;rw [hl] at this;simp at this;exact absurd this hrn
  | cons m M=>
   have h3:(⟨no,b,d || wasD no L⟩::rid no L:List AP)=m::(M++[x]):=hM;injection h3 with _ h3;rw [h3];simp
section
variable {A:Bk} {s P:List (List UInt8)} {no:Nat} {b:List UInt8} {d:Bool}
theorem wasD_of {L:List AP} (hn:(nos L).Nodup) {no:Int} (h:wasD no L=false):∀x∈L,x.no=no→x.d=false:=fun x hx e=>by
 have:=hit_of hn hx;rw [e] at this;unfold wasD at h;rw [this] at h;exact h
end
open Go Go.HL
theorem srt_uniq:∀ {a b:List Int},a.Perm b→a.Pairwise (·≤·)→b.Pairwise (·≤·)→a=b
 | [],b,p,_,_=>(List.nil_perm.1 p).symm
 | x::a,[],p,_,_=>absurd p.length_eq (by simp)
 | x::a,y::b,p,ha,hb=>by
  have h1:=List.pairwise_cons.1 ha;have h2:=List.pairwise_cons.1 hb;have e:x=y:=by
   rcases List.mem_cons.1 (p.mem_iff.1 List.mem_cons_self) with e | e
   ·exact e
   ·rcases List.mem_cons.1 (p.symm.mem_iff.1 List.mem_cons_self) with f | f
    ·exact f.symm
    ·have:=h2.1 x e;have:=h1.1 y f;omega
  subst e;rw [srt_uniq ((List.perm_cons x).1 p) h1.2 h2.2]
theorem dirty_srt {S:List Int} {L:List AP} (hp:S.Perm (nos L)) (hs:S.Pairwise (·≤·)):dirtyS S L=dirtyB L:=by
 unfold dirtyB;rw [srt_uniq (hp.trans dirtyB_perm.symm) hs ((List.pairwise_mergeSort (le:=fun a b=>decide (a≤b)) (fun a b c h1 h2=>by simp only [decide_eq_true_eq] at *;omega) (fun a b=>by simp only [Bool.or_eq_true,decide_eq_true_eq];omega) (nos L)).imp fun h=>of_decide_eq_true h)]
theorem dirtyB_len {L:List AP} : (dirtyB L).length≤L.length:=by
 have:=dirtyS_sub (S:=(nos L).mergeSort fun a b=>decide (a≤b)) (L:=L);have h1:=this.length_le;rw [List.length_map,List.length_mergeSort] at h1;simpa [nos,dirtyB] using h1
def unG (l:List AFr) (O:List Nat):List AFr:=O.map fun i=>l.getD i ⟨0,0,[]⟩
theorem unG_fr {l:List AFr} {O:List Nat} (h:∀i∈O,i<l.length):O.map (frN (l.map AFr.fr))=(unG l O).map AFr.fr:=by
 unfold unG;rw [List.map_map];exact List.map_congr_left fun i hi=>by have:=h i hi;simp [frN,this]
theorem _root_.Go.HL.Hp.idxR {h0 h:Heap} {D F E:Nat→Prop} {M R:List Itm} {x y:SV} {l:List Fr} {xa:Nat→Option Addr} {xc:Nat→Nat} {O:List Nat} (ok:Hp h0 D (capI 3 277 y (O.flatMap (vfN l xa xc))::M) (frsI F E x l xa xc::R) h) (hO:∀i∈O,i<l.length) :
  Hp h0 D M (rdI (fun j=>blkC (sv y) j∨E j) (fun j=>blkC (sv y) j∨E j) y (O.map (frN l))::frsI F E x l xa xc::R) h:=by
 have hc:=ok.m0;have hf:=ok.r0;have hrd:RdL h (blkC (sv y)) E y (O.map (frN l)):=RdL.of_cap (α:=Fr) (E:=E) (css:=O.map (vfN l xa xc)) (by rw [←List.flatMap_def];exact hc) ⟨by simp,fun i h1 h2=>by
  simp only [List.length_map] at h1;simp only [List.getElem_map];exact ⟨(xa O[i],_,xc O[i]),rfl,hf.b _ (hO _ (List.getElem_mem h1))⟩⟩
 have ok2:=(ok.frz).or (r:=capI 3 277 y (O.flatMap (vfN l xa xc))) (r':=frsI F E x l xa xc) List.mem_cons_self (List.mem_cons_of_mem _ List.mem_cons_self) (rdI (fun j=>blkC (sv y) j∨E j) (fun j=>blkC (sv y) j∨E j) y (O.map (frN l))) (hrd.mono (fun _ h=>.inl h) (fun _ h=>.inr h)) (fun j hj=>(hj.elim id id).elim .inl fun h=>.inr (.inr h));exact ok2.sub fun i hi=>by
  rcases List.mem_cons.1 hi with rfl | hi
  ·exact List.mem_cons_self
  ·exact List.mem_cons_of_mem _ (List.mem_cons_of_mem _ hi)
section
variable {A:Bk} {s P:List (List UInt8)} {no:Nat} {b:List UInt8}
def rszP (P:List (List UInt8)) (n z:Nat):List (List UInt8):=P.take n++List.replicate (n-P.length) (List.replicate z 0)
theorem rszP_len {n z:Nat} : (rszP P n z).length=n:=by unfold rszP;simp;omega
theorem rszP_get {n z i:Nat} (h:i<n):(rszP P n z).getD i []=if i<P.length then P.getD i [] else List.replicate z 0:=by
 unfold rszP;rw [List.getD_eq_getElem?_getD,List.getD_eq_getElem?_getD];by_cases g:i<P.length
 ·rw [if_pos g,List.getElem?_append_left (by rw [List.length_take];omega),List.getElem?_take_of_lt h]
 ·rw [if_neg g,List.getElem?_append_right (by rw [List.length_take];omega),List.length_take,List.getElem?_replicate_of_lt (by omega)];rfl
end
open Go Go.HL
section
variable {h:Heap} {d:Nat} {F:Nat→Prop} {n:List UInt8} (ok:Hp h F [dgI d F newN] [] h)
include ok
theorem nsize_any:HC Tryz.prog 136 #[.pointer (some ⟨d,0,none⟩),.string (BA n)] h (fun v h'=>v=.tuple #[.int .i64 0,.bool false]∧h'=h):=dgsize_any ok
theorem ndark_any:HC Tryz.prog 135 #[.pointer (some ⟨d,0,none⟩)] h (fun v h'=>v=.bool false∧h'=h):=dgdark_any ok
end
theorem ngone_any {h:Heap} {d:Nat} {n:List UInt8} {F:Nat→Prop} (ok:Hp h F [dgI d F newN] [] h) :
  HC Tryz.prog 215 #[.pointer (some ⟨d,0,none⟩),.string (BA n)] h (fun v h'=>v=.int .i64 0∧h'=h):=by
 refine HC.go Tryz.func215 27 ?_;refine .seq<|.r<|.z .asI<|.nil ?_;refine .seq<|.seq<|.r<|.z .mvP<|.z .mvT<|.k 11 .func (nsize_any (n:=n) (ok).loc0)<|.z .mvU<|.z .ex<|.z .ex<|.z .asI<|.z .asB<|.nil ?_;refine .seq<|.r<|.z .mvB<|.z .not<|.nil ?_;refine .ct<|.seq<|.seq<|.r<|.z .mvP<|.k 17 .func (ndark_any (ok).loc0)<|.nil ?_;refine .cf<|.skip<|.seq<|.r<|.z .asI<|.nil ?_;refine .ret ⟨.int .i64 0,Res.one rfl rfl,⟨rfl,rfl⟩⟩
theorem nover_any {h:Heap} {d:Nat} {F:Nat→Prop} (ok:Hp h F [dgI d F newN] [] h) :
  HC Tryz.prog 183 #[.pointer (some ⟨d,0,none⟩)] h (fun v h'=>v=.int .i64 0∧h'=h):=by
 refine HC.go Tryz.func183 11 ?_;refine .seq<|.r<|.z .asI<|.nil ?_;refine .seq<|.seq<|.r<|.z .mvP<|.k 5 .func (ngone_any (n:=nM) (ok).loc0)<|.z .asI<|.nil ?_;refine .seq<|.r<|.z .mvI<|.z .neq<|.nil ?_;refine .cf<|.skip<|.seq<|.r<|.z .mvP<|.k 10 .func (ngone_any (n:=nJ) (ok).loc0)<|.z .asI<|.nil ?_;refine .ret ⟨.int .i64 0,Res.one rfl rfl,⟨rfl,rfl⟩⟩
theorem nheal_any {h:Heap} {d:Nat} {F:Nat→Prop} (ok:Hp h F [dgI d F newN] [] h) :
  HC Tryz.prog 140 #[.pointer (some ⟨d,0,none⟩)] h (fun v h'=>v=.int .i64 0∧h'=h):=by
 refine HC.go Tryz.func140 65 ?_;refine .seq<|.r<|.z .asI<|.nil ?_;refine .seq<|.seq<|.r<|.z .mvP<|.k 14 .func (nsize_any (n:=nM) (ok).loc0)<|.z .mvU<|.z .ex<|.z .ex<|.z .asI<|.z .asB<|.nil ?_;refine .seq<|.r<|.z .mvB<|.z .mvB<|.y<|.y<|.z .pkf<|.nil ?_;refine .cf<|.skip<|.seq<|.seq<|.r<|.z .mvP<|.k 62 .func (ndark_any (ok).loc0)<|.nil ?_;refine .cf<|.skip<|.seq<|.r<|.z .mvP<|.k 64 .func (nover_any (ok).loc0)<|.z .asI<|.nil ?_;refine .ret ⟨.int .i64 0,Res.one rfl rfl,⟨rfl,rfl⟩⟩
theorem nlook_any {h:Heap} {d:Nat} {z:Int} {F:Nat→Prop} (ok:Hp h F [dgI d F newN] [] h) :
  HC Tryz.prog 141 #[.pointer (some ⟨d,0,none⟩),.int .i64 z] h (fun v h'=>v=.tuple #[.int .i64 0,.int .i64 0]∧h'=h):=by
 refine HC.go Tryz.func141 58 ?_;refine .seq<|.r<|.z .asI<|.z .asI<|.nil ?_;refine .seq<|.r<|.z .mvP<|.k 13 .func (nsize_any (n:=nT) (ok).loc0)<|.z .mvU<|.z .ex<|.z .ex<|.z .asI<|.z .asB<|.nil ?_;refine .seq<|.seq<|.r<|.z .mvB<|.z .not<|.z .mvB<|.y<|.y<|.z .pkt<|.nil ?_;refine .ct<|.seq<|.r<|.z .asI<|.z .asI<|.nil ?_;refine .ret ⟨.tuple #[.int .i64 0,.int .i64 0],Res.two rfl rfl rfl,⟨rfl,rfl⟩⟩
open Go Go.HL
def newS (z:Nat):St:=⟨z,[],false,[],[]⟩
theorem newS_ok {z:Nat} (hz:okSz z=true):StOk (newS z):=⟨hz,.nil,.nil,by simp [newS],by simp [newS],fun _=>⟨rfl,rfl⟩⟩
theorem ds_new {G:Pgr} {h h':Heap} {F pF:Nat→Prop} {s p z:Nat} {lg:Option Addr} {a:G.α} (ha:G.sure a=[]) (hz:okSz z=true) (ok:Hp h F [boxI s 123 [.iface G.tid (pv p),.pointer lg,.int .i64 (z:Int),.bool false,.int .i64 0,.map none,.slice none 0 0,.bool false],G.it p pF a] [] h'):∃F',Hp h F [dsI G s F' (newS z)] [] h':=by
 have o:=(((ok.nowNil (bs:=[])).nilC (k:=2) (e:=120)).dE (svsI none_ []) (fun x h=>by cases h) (fun _ f=>f)).dE (pbsI none_ []) Pbs.nil (fun _ f=>f);have V:SVw G (⟨p,lg,z,false,0,none,[],none,0,[],pF,a⟩:RS G.α) (newS z):=⟨rfl,rfl,ha,fun h=>(by cases h),fun _=>⟨rfl,rfl,rfl,rfl⟩,All2.nil,newS_ok hz⟩;exact ⟨_,ds_close (F:=F) (D:=F) (h:=h) (r':=(⟨p,lg,z,false,0,none,[],none,0,[],pF,a⟩:RS G.α)) (E':=none_) (M:=[]) (R:=[]) (o.n2.n2.n1) (fun _ h=>h) (fun _ f=>f.elim) V⟩
def hdd (w:St) (free many:Int):St × Nat:=w.setHead { w.head with free:=free,many:=many }
def lcg (x:Nat):Nat:=(x*1664525+1013904223)%4294967296
def lcgs (x:Nat):Nat→Nat
 | 0=>x
 | i+1=>lcg (lcgs x i)
def byteG (x:Nat):UInt8:=UInt8.ofNat (x / 16777216)
def pageG (z seed:Nat):List UInt8:=(List.range z).map fun i=>byteG (lcgs (seed+1) (i+1))
theorem pageG_len {z seed:Nat} : (pageG z seed).length=z:=by simp [pageG]
theorem lcg_lt {x:Nat} : lcg x<4294967296:=Nat.mod_lt _ (by decide)
theorem lcgs_lt {x i:Nat} (h:x<4294967296):lcgs x i<4294967296:=by cases i with | zero=>exact h | succ i=>exact lcg_lt
theorem byteG_nat {x:Nat} (h:x<4294967296):(byteG x).toNat=x / 16777216:=by
 unfold byteG;rw [UInt8.toNat_ofNat'];exact Nat.mod_eq_of_lt (by omega)
theorem set_bvG {bs:List UInt8} {i:Nat} {x:UInt8} : (bs.map bv).set i (.int .u8 ((x.toNat:Nat):Int))=(bs.set i x).map bv:=by rw [List.map_set];rfl
theorem take_setS {bs:List UInt8} {i:Nat} {x:UInt8} (h:i<bs.length):(bs.set i x).take (i+1)=bs.take i++[x]:=by
 rw [List.take_succ_eq_append_getElem (by simpa using h),List.take_set_of_le (Nat.le_refl i),List.getElem_set_self]
theorem page15_any {h:Heap} {z seed:Nat} (hz:z≤1000000) (hs1:seed<256) :
  HC Tryz.prog 65 #[.int .i64 (z:Int),.int .u8 (seed:Int)] h (fun v h'=>Own h h' 1 5 v ((pageG z seed).map bv)):=by
 have ok:=Hp.nil h none_;refine HC.go Tryz.func65 29 ?_;refine .seq<|.r<|.z .asS<|.nil ?_;refine .seq<|.r<|.z .mvI<|.a' 9 (.mks z z T.el44 T.sz5 T.by5 T.zr5 ok) ?_;rintro _ η1 ⟨pb1,rfl,ok,xe⟩;have ok:=ok.cx (ys:=(List.replicate z (0:UInt8)).map bv) (zeros8 _);refine .z .asS<|.nil ?_;refine .seq<|.r<|.z .mvI<|.z (.cvs T.in89 T.in5 (M:=4294967296) rfl rfl)<|.z (.addn (M:=4294967296) rfl rfl (b:=1))<|?_;rw [show ((seed+1)%4294967296)=(lcgs (seed+1) 0) from by show _=seed+1;omega];refine .z .asI<|.nil ?_;refine .seq<|.seq<|.r<|.z .mvS<|.z (.len T.el44)<|.z .mvI<|.nil ?_;refine .block fun K0 hK0=>.loop (fun m s hh=>∃(i:Nat) (bs:List UInt8),Has s [(5,.slice (some ⟨pb1,0,none⟩) z z),(6,.int .u32 ((lcgs (seed+1) i:Nat):Int)),(14,.int .i64 (z:Int)),(15,.int .i64 (i:Int))]∧Hp h none_ [capI 1 5 (some ⟨pb1,0,none⟩,z,z) (bs.map bv)] [] hh∧i≤z∧bs.length=z∧bs.take i=((List.range i).map fun j=>byteG (lcgs (seed+1) (j+1)))∧m=z-i) ?_ ?_
 ·exact ⟨_,0,List.replicate z 0,⟨rfl,rfl,rfl,rfl,trivial⟩,(ok).k1,Nat.zero_le _,List.length_replicate,rfl,rfl⟩
 rintro _ _ η2 ⟨i,bs,hs,ok,hi,hbl,hbs,rfl⟩ J0 hJ0;refine .frame hs fun τ=>?_;refine .seq<|.r<|.z .lss<|.nil ?_;refine .seq<|.cdr (fun C0=>?_) (fun C0=>?_)
 ·
  refine .exit<|hK0 _ _<|.seq<|.r<|.z .mvS<|.z .asS<|.nil ?_;refine .ret ⟨.slice (some ⟨pb1,0,none⟩) z z,Res.one rfl rfl,(by rw [show pageG z seed=bs from by unfold pageG;rw [show z=i by omega,←hbs,List.take_of_length_le (by omega)]];exact (ok).toOwn)⟩
 have hlt:=lcgs_lt (x:=seed+1) (i:=i) (by omega);have hlt2:=lcgs_lt (x:=seed+1) (i:=i+1) (by omega);refine .skip<|.seq<|.block fun K1 hK1=>.seq<|.r<|.z .mvI<|.z .asI<|.nil ?_;refine .seq<|.r<|.z .mvI<|.z (.muln (M:=4294967296) rfl rfl (b:=1664525))<|.z (.addn (M:=4294967296) rfl rfl (b:=1013904223))<|?_;rw [show (((((lcgs (seed+1) i)*1664525)%4294967296)+1013904223)%4294967296)=(lcgs (seed+1) (i+1)) from by show _=lcg _;unfold lcg;omega];refine .z .asI<|.nil ?_;refine .r<|.z .mvS<|.z .mvI<|.z .mvI<|.z (.shrn (M:=4294967296) rfl (b:=24))<|.z (.cvm T.in5 T.in89 (M:=256) rfl rfl)<|?_;rw [show (((lcgs (seed+1) (i+1)) / 2 ^ 24)%256)=(byteG (lcgs (seed+1) (i+1))).toNat from by rw [byteG_nat (lcgs_lt (by omega))];have:=lcgs_lt (x:=seed+1) (i:=i+1) (by omega);omega];refine .z (.ix1 i T.el44 T.sz5)<|.ur' (.sxI (q:=i) T.sz5 ok) ?_;rintro η3 ⟨ok,cg⟩;refine .nil ?_;refine .end<|hK1 _ _<|?_;have ok:=ok.cx (ys:=(bs.set i (byteG (lcgs (seed+1) (i+1)))).map bv) set_bvG;refine .r<|.z (.addI (b:=1))<|.z .mvI<|.nil ?_;refine .end<|hJ0 _ _ _ ⟨i+1,(bs.set i (byteG (lcgs (seed+1) (i+1)))),⟨rfl,rfl,rfl,rfl,trivial⟩,(ok).k1,by omega,by simp [hbl],by rw [List.range_succ,List.map_append,←hbs];exact take_setS (by omega),rfl⟩ (by omega)
end Go.Proofs.YtndlpekckpdncaaGreat
namespace Go.HL
open Go Go.Proofs.YtndlpekckpdncaaGreat
theorem Hp.addM15 {h0 h h':Heap} {D:Nat→Prop} {M R:List Itm} {a:Itm} (ok:Hp h0 D M R h) (q:Hp h none_ [a] [] h'):Hp h0 D (a::M) R h':=
 ok.newM q.chg a q.m0 fun j hj=>by
  have h1:=(q.m a List.mem_cons_self).2 j hj;exact ⟨h1.2.elim (fun f=>f.elim) id,h1.1⟩
end Go.HL
namespace Go.Proofs.YtndlpekckpdncaaGreat
open Go Go.HL
section
variable {f:FuncId} {args:Array Value} {h:Heap} {F:Nat→Prop} {G:Pgr} {so c:Nat} {w':St} {ci n:Int}
theorem ansE {x:St × Nat} (q:HC Tryz.prog f args h (fun v h'=>∃F',v=.int .i64 ((x.2:Nat):Int)∧Hp h F [dsI G so F' x.1] [] h')) (e:x=(w',c)) (hc:((c:Nat):Int)=ci):HC Tryz.prog f args h (fun v h'=>∃F',v=.int .i64 ci∧Hp h F [dsI G so F' w'] [] h'):=by subst e hc;exact q
end
def opB (z:Nat):St:=⟨z,[],true,[],[]⟩
def hd1 (z:Nat):Hd:=⟨(z:Int),1,0,0,0,0⟩
def opL (z j:Nat):List (List UInt8):=pg1 z (hd1 z)::(List.range j).map fun i=>pageG z (i+2)
def opV (z j:Nat):St:=⟨z,[],true,opL z j,[]⟩
theorem chk_hd1 {z:Nat} (hz:okSz z=true):ChkP (hd1 z):=by
 have:=okSz_c hz;refine ⟨decide_eq_true (by show (z:Int)=256∨(z:Int)=512∨(z:Int)=1024∨(z:Int)=2048∨(z:Int)=4096;omega),⟨by show (1:Int)≤1;omega,by show (1:Int)≤1048576;omega,by show (z:Int)*1≤16777216;omega⟩,⟨by show (0:Int)≤0;omega,by show (0:Int)<1;omega,fun _=>rfl,fun h=>absurd h (by show ¬(0:Int)<0;omega)⟩,⟨by show (0:Int)≤0;omega,by show (0:Int)≤2147483647;omega⟩,by show (0:Int)≤0;omega,by show (0:Int)≤2147483647;omega⟩
theorem hd1_in {z:Nat} (hz:okSz z=true):HdIn (⟨(z:Int),1,0,0,0,0⟩:Hd):=by
 have:=okSz_c hz;refine ⟨?_,?_,?_,?_,?_,?_⟩<;>(unfold i64N;dsimp only;omega)
theorem op_begin {z:Nat} : St.begin_ (newS z)=(opB z,0):=rfl
theorem op_head {z:Nat} (hz:okSz z=true):St.setHead (opB z) (⟨(z:Int),1,0,0,0,0⟩:Hd)=(opV z 0,0):=
 St.setHead_0 (w:=opB z) (n:=1) rfl (by rintro (h | h | h);exact h (chk_hd1 hz);exact h rfl;exact absurd h (by show ¬(max 1 ((0:Nat):Int)<1);decide)) rfl
end Go.Proofs.YtndlpekckpdncaaGreat
namespace Go.Proofs
open Go.Shelf
def Tryz.cloneE_ren:Go.Shelf.Ren:=⟨fun | 5=>147 | 7=>191 | n=>n,fun | 23=>118 | 25=>3 | 3=>44 | 4=>4 | 20=>20 | n=>n,fun | n=>n⟩
theorem Tryz.cloneE:Go.Proofs.SlLaysW.n5 Tryz.prog Tryz.cloneE_ren:={
 mixed:=by kernel_rfl
 f5:=⟨Tryz.f147.name,by decide,Tryz.func147.trans (congrArg some (by kernel_rfl))⟩
 f7:=Tryz.func191.trans (congrArg some (by kernel_rfl))
 t4:=Tryz.underlying4
 a4:=Tryz.isAgg4
 z4:=Tryz.sizeOf4
 v4:=Tryz.zeroValue4
 t20:=Tryz.underlying20
 a20:=Tryz.isAgg20
 z20:=Tryz.sizeOf20
 v20:=Tryz.zeroValue20
 t23:=Tryz.underlying118
 a23:=Tryz.isAgg118
 z23:=Tryz.sizeOf118
 v23:=Tryz.zeroValue118 }
end Go.Proofs
