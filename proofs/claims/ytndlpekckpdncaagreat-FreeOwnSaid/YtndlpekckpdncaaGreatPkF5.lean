/- The pager that keeps a journal: a transaction begins; what it tells of itself. Conditions: the pager is in order. Pagers of either make, opened on a new disk: nothing is in them. Conditions: the size and the room may be. A store is opened on a new disk, with either pager. Conditions: the size and the room may be. Free pages in plain terms: the chain of trunks, a page taken, a page given. Conditions: those that each fact names. The free list's inner functions: numbers of a page, the walk over the chain. Conditions: the store is in order. The walk over the chain of free pages. Conditions: the store is in order. slices.Sort on ints that the caller owns. Conditions: not too many. All free pages; the head laid anew; the file grows. Conditions: the store is in order. A page is taken; a page is given. Conditions: the store is in order. A page's bytes of a number; numbers among others; rows of numbers that are the same. Conditions: few. Chains of trunks, told by their numbers: what Give and Take do to them. Conditions: those that each fact names. A store with so many pages, in a transaction, and the document's beside it. Conditions: the size and the room may be. -/
import Derived.Test.YtndlpekckpdncaaGreatPkF4
set_option maxRecDepth 100000
set_option maxHeartbeats 2000000
set_option linter.all false
namespace Go.Proofs.YtndlpekckpdncaaGreat
open Go Go.HL
theorem bPages_any {h:Heap} {p:Nat} {r:RK} (hb:(bboxI p r).p h) :
  HC Tryz.prog 297 #[.pointer (some ⟨p,0,none⟩)] h (fun v h'=>v=.int .i64 ((if r.broken=true then 0 else presK r:Nat):Int)∧h'=h):=by
 refine HC.go Tryz.func297 13 ?_;refine .seq<|.r<|.z .asI<|.nil ?_;refine .seq<|.seq<|.r<|.z .mvP<|.z (.pEqS T.pt140)<|.z .mvB<|.z .mvP<|.z .nil<|.z (.fa T.fd212_6)<|.z (.ldx T.ag4 hb)<|.z .pkf<|.nil ?_;refine .cond (fun C0=>?_) (fun C0=>?_)
 ·
  refine .seq<|.r<|.z .asI<|.nil ?_;refine .ret ⟨.int .i64 0,Res.one rfl rfl,⟨by rw [if_pos (show r.broken=true by first | exact C0 | simpa using C0)];rfl,rfl⟩⟩
 refine .skip<|.seq<|.r<|.z .mvP<|.k 12 .func (pres_any (r:=r) hb)<|.z .asI<|.nil ?_;refine .ret ⟨.int .i64 ((presK r:Nat):Int),Res.one rfl rfl,⟨by rw [if_neg (show ¬r.broken=true by simpa using C0)],rfl⟩⟩
section
variable {h:Heap} {d:Nat} {F:Nat→Prop} {n:List UInt8} (ok:Hp h F [dgI d F newN] [] h)
include ok
theorem nsize_any:HC Tryz.prog 136 #[.pointer (some ⟨d,0,none⟩),.string (BA n)] h (fun v h'=>v=.tuple #[.int .i64 0,.bool false]∧h'=h):=dgsize_any ok
theorem ndark_any:HC Tryz.prog 135 #[.pointer (some ⟨d,0,none⟩)] h (fun v h'=>v=.bool false∧h'=h):=dgdark_any ok
theorem nremove_any (hn:nOk n):HC Tryz.prog 210 #[.pointer (some ⟨d,0,none⟩),.string (BA n)] h (fun v h'=>v=.int .i64 4∧∃F',Hp h F [dgI d F' newN] [] h'):=by
 obtain ⟨r,E,ha,o,hf,he⟩:=dg_open ok;have hr:removeN newN n=(newN,4):=by
  unfold removeN;rw [if_neg (by rw [show wrongN newN n []=0 from wrong_0 rfl hn (fun z h=>by cases h)];decide),if_pos (show thereN newN n=false from rfl)]
 refine (remove_any o (by rw [ha];exact newN_ok) (by rw [show r.chg=0 from congrArg Dk.chg ha];decide)).mono fun v h' ⟨r',E',hv,ha',up⟩=>?_;rw [ha,hr] at hv ha';obtain ⟨F',q⟩:=dg_up up hf he;rw [ha'] at q;exact ⟨hv,F',q⟩
end
theorem ngone_any {h:Heap} {d:Nat} {n:List UInt8} {F:Nat→Prop} (ok:Hp h F [dgI d F newN] [] h) :
  HC Tryz.prog 215 #[.pointer (some ⟨d,0,none⟩),.string (BA n)] h (fun v h'=>v=.int .i64 0∧h'=h):=by
 refine HC.go Tryz.func215 27 ?_;refine .seq<|.r<|.z .asI<|.nil ?_;refine .seq<|.seq<|.r<|.z .mvP<|.z .mvT<|.k 11 .func (nsize_any (n:=n) (ok).loc0)<|.z .mvU<|.z .ex<|.z .ex<|.z .asI<|.z .asB<|.nil ?_;refine .seq<|.r<|.z .mvB<|.z .not<|.nil ?_;refine .ct<|.seq<|.seq<|.r<|.z .mvP<|.k 17 .func (ndark_any (ok).loc0)<|.nil ?_;refine .cf<|.skip<|.seq<|.r<|.z .asI<|.nil ?_;refine .ret ⟨.int .i64 0,Res.one rfl rfl,⟨rfl,rfl⟩⟩
theorem nover_any {h:Heap} {d:Nat} {F:Nat→Prop} (ok:Hp h F [dgI d F newN] [] h) :
  HC Tryz.prog 183 #[.pointer (some ⟨d,0,none⟩)] h (fun v h'=>v=.int .i64 0∧h'=h):=by
 refine HC.go Tryz.func183 11 ?_;refine .seq<|.r<|.z .asI<|.nil ?_;refine .seq<|.seq<|.r<|.z .mvP<|.k 5 .func (ngone_any (n:=nM) (ok).loc0)<|.z .asI<|.nil ?_;refine .seq<|.r<|.z .mvI<|.z .neq<|.nil ?_;refine .cf<|.skip<|.seq<|.r<|.z .mvP<|.k 10 .func (ngone_any (n:=nJ) (ok).loc0)<|.z .asI<|.nil ?_;refine .ret ⟨.int .i64 0,Res.one rfl rfl,⟨rfl,rfl⟩⟩
theorem nheal_any {h:Heap} {d:Nat} {F:Nat→Prop} (ok:Hp h F [dgI d F newN] [] h) :
  HC Tryz.prog 140 #[.pointer (some ⟨d,0,none⟩)] h (fun v h'=>v=.int .i64 0∧h'=h):=by
 refine HC.go Tryz.func140 65 ?_;refine .seq<|.r<|.z .asI<|.nil ?_;refine .seq<|.seq<|.r<|.z .mvP<|.k 14 .func (nsize_any (n:=nM) (ok).loc0)<|.z .mvU<|.z .ex<|.z .ex<|.z .asI<|.z .asB<|.nil ?_;refine .seq<|.r<|.z .mvB<|.z .mvB<|.y<|.y<|.z .pkf<|.nil ?_;refine .cf<|.skip<|.seq<|.seq<|.r<|.z .mvP<|.k 62 .func (ndark_any (ok).loc0)<|.nil ?_;refine .cf<|.skip<|.seq<|.r<|.z .mvP<|.k 64 .func (nover_any (ok).loc0)<|.z .asI<|.nil ?_;refine .ret ⟨.int .i64 0,Res.one rfl rfl,⟨rfl,rfl⟩⟩
theorem nlook_any {h:Heap} {d:Nat} {z:Int} {F:Nat→Prop} (ok:Hp h F [dgI d F newN] [] h) :
  HC Tryz.prog 141 #[.pointer (some ⟨d,0,none⟩),.int .i64 z] h (fun v h'=>v=.tuple #[.int .i64 0,.int .i64 0]∧h'=h):=by
 refine HC.go Tryz.func141 58 ?_;refine .seq<|.r<|.z .asI<|.z .asI<|.nil ?_;refine .seq<|.r<|.z .mvP<|.k 13 .func (nsize_any (n:=nT) (ok).loc0)<|.z .mvU<|.z .ex<|.z .ex<|.z .asI<|.z .asB<|.nil ?_;refine .seq<|.seq<|.r<|.z .mvB<|.z .not<|.z .mvB<|.y<|.y<|.z .pkt<|.nil ?_;refine .ct<|.seq<|.r<|.z .asI<|.z .asI<|.nil ?_;refine .ret ⟨.tuple #[.int .i64 0,.int .i64 0],Res.two rfl rfl rfl,⟨rfl,rfl⟩⟩
@[reducible] def nbI (p:Nat):Itm:=⟨fun h=>∃(d c z:Nat),(boxI p 212 [.bool false,.int .i64 0,.int .i64 0,.bool false,.int .u64 0,.map none,.int .i64 0,.pointer (some ⟨d,0,none⟩),.int .i64 (z:Int),.pointer (some ⟨c,0,none⟩),.int .i64 0,.int .i64 0,.bool false]).p h,fun j=>j=p,fun _ _ _ c d ⟨x,y,z,hp⟩=>⟨x,y,z,c.block hp (d p rfl)⟩⟩
@[reducible] def naI (p:Nat):Itm:=⟨fun h=>∃(am d c z:Nat),(boxI p 202 [.int .i64 0,.int .i64 0,.int .u64 0,.map (some am),.bool false,.int .i64 0,.map none,.pointer (some ⟨d,0,none⟩),.int .i64 (z:Int),.int .i64 0,.pointer (some ⟨c,0,none⟩),.bool false]).p h,fun j=>j=p,fun _ _ _ c d ⟨m,x,y,z,hp⟩=>⟨m,x,y,z,c.block hp (d p rfl)⟩⟩
theorem nbopen_any {h:Heap} {d z:Nat} {room:Int} {F:Nat→Prop} (ok:Hp h F [dgI d F newN] [] h) (hz:okSz z=true) (hr:1≤room∧room≤1024) :
  HC Tryz.prog 88 #[.pointer (some ⟨d,0,none⟩),.int .i64 (z:Int),.int .i64 room] h (fun v h'=>∃p,v=.tuple #[.pointer (some ⟨p,0,none⟩),.int .i64 0]∧Hp h F [nbI p] [] h'):=by
 have hzc:=okSz_c hz;have hpw:=(and_pow z (by omega) (by omega)).2 (by omega);refine HC.go Tryz.func88 62 ?_;refine .seq<|.r<|.z .asP<|.z .asI<|.nil ?_;refine .seq<|.block fun K0 hK0=>.seq<|.r<|.z .mvP<|.z (.pEqS T.pt63)<|.z .asB<|.nil ?_;refine .cf<|.seq<|.r<|.z .mvI<|.z .lss<|.z .mvB<|.sd (fun G18=>?_) (fun G18=>?_)
 ·
  omega
 refine .z .mvI<|.z .gtr<|.z .pkf<|.z .mvB<|.sd (fun G22=>?_) (fun G22=>?_)
 ·
  omega
 refine .z .mvI<|.z .mvI<|.z .sub<|.z (.bandI z (z-1))<|.z .neq<|.z .pkf<|.z .asB<|.nil ?_;refine .cd (fun C1=>?_) (fun C1=>?_)
 ·
  omega
 refine .skip<|.end<|hK0 _ _<|.seq<|.r<|.z .mvI<|.c' 31 .func (cnewA_any (room:=room) (fun _=>none)) ?_;rintro _ η1 (⟨hrm,rfl,hx⟩ | ⟨hrm,cc,cF,rfl,hx,hcac,hnw⟩)
 ·
  exact absurd hrm (by omega)
 have ok:=ok.ext hx;refine .z .mvU<|.z .ex<|.z .ex<|.z .asP<|.z .asI<|.nil ?_;refine .seq<|.seq<|.r<|.z .mvI<|.z .neq<|.nil ?_;refine .cf<|.skip<|.seq<|.seq<|.r<|.z .mvP<|.k 38 .func (ndark_any (ok).loc0)<|.nil ?_;refine .cf<|.skip<|.seq<|.seq<|.r<|.z .mvP<|.k 40 .func (nheal_any (ok).loc0)<|.z .asI<|.nil ?_;refine .seq<|.r<|.z .mvI<|.z .neq<|.nil ?_;refine .cf<|.skip<|.seq<|.r<|.z .mvP<|.z .mvI<|.k 47 .func (nlook_any (z:=(z:Int)) (ok).loc0)<|.z .mvU<|.z .ex<|.z .ex<|.z .asI<|.z .asI<|.nil ?_;refine .seq<|.seq<|.r<|.z .mvI<|.z .neq<|.nil ?_;refine .cf<|.skip<|.seq<|.r<|.z .mvP<|.z .mvI<|.z .mvP<|.z .mvI<|.z .mvI<|.z .quo<|.z .mvI<|.z (.bd #[.bool false,.int .i64 0,.int .i64 0,.bool false,.int .u64 0,.map none,.int .i64 0,.pointer (some ⟨d,0,none⟩),.int .i64 (z:Int),.pointer (some ⟨cc,0,none⟩),.int .i64 (0 / (z:Int)),.int .i64 0,.bool false] T.zr212 T.pl212 (by kernel_rfl))<|.a' 61 (.bxA (cs:=[.bool false,.int .i64 0,.int .i64 0,.bool false,.int .u64 0,.map none,.int .i64 0,.pointer (some ⟨d,0,none⟩),.int .i64 (z:Int),.pointer (some ⟨cc,0,none⟩),.int .i64 (0 / (z:Int)),.int .i64 0,.bool false]) ok) ?_;rintro _ η2 ⟨pb1,rfl,ok,xe⟩;refine .z .asP<|.z .asI<|.nil ?_;refine .ret ⟨.tuple #[.pointer (some ⟨pb1,0,none⟩),.int .i64 0],Res.two rfl rfl rfl,⟨_,rfl,(ok).k1.re (nbI pb1) ⟨d,cc,z,by have h1:=(ok).m0;rwa [Int.zero_ediv] at h1⟩ fun _ x=>x⟩⟩
theorem nagone_any {h:Heap} {d:Nat} {n:List UInt8} {F:Nat→Prop} (ok:Hp h F [dgI d F newN] [] h) (hn:nOk n) :
  HC Tryz.prog 179 #[.pointer (some ⟨d,0,none⟩),.string (BA n)] h (fun v h'=>v=.int .i64 0∧∃F',Hp h F [dgI d F' newN] [] h'):=by
 refine HC.go Tryz.func179 17 ?_;refine .seq<|.r<|.z .asI<|.nil ?_;refine .seq<|.seq<|.r<|.z .mvP<|.z .mvT<|.c' 8 .func (nremove_any (n:=n) (ok).loc0 hn) ?_;rintro _ η1 ⟨rfl,Fr1,q⟩;have ok:=(ok).lift1 q;refine .z .asI<|.nil ?_;refine .seq<|.r<|.z .mvI<|.z .neq<|.nil ?_;refine .ct<|.seq<|.seq<|.r<|.z .mvI<|.z .eql<|.nil ?_;refine .ct<|.seq<|.r<|.z .asI<|.nil ?_;refine .ret ⟨.int .i64 0,Res.one rfl rfl,⟨rfl,_,ok⟩⟩
theorem naclear_any {h:Heap} {p am d z c:Nat} {F:Nat→Prop} (ok:Hp h (starI [boxI p 202 [.int .i64 0,.int .i64 0,.int .u64 0,.map (some am),.bool false,.int .i64 0,.map none,.pointer (some ⟨d,0,none⟩),.int .i64 (z:Int),.int .i64 0,.pointer (some ⟨c,0,none⟩),.bool false],dgI d F newN]).F [boxI p 202 [.int .i64 0,.int .i64 0,.int .u64 0,.map (some am),.bool false,.int .i64 0,.map none,.pointer (some ⟨d,0,none⟩),.int .i64 (z:Int),.int .i64 0,.pointer (some ⟨c,0,none⟩),.bool false],dgI d F newN] [] h) :
  HC Tryz.prog 138 #[.pointer (some ⟨p,0,none⟩)] h (fun v h'=>∃am2 F',v=.int .i64 0∧Hp h (starI [boxI p 202 [.int .i64 0,.int .i64 0,.int .u64 0,.map (some am),.bool false,.int .i64 0,.map none,.pointer (some ⟨d,0,none⟩),.int .i64 (z:Int),.int .i64 0,.pointer (some ⟨c,0,none⟩),.bool false],dgI d F newN]).F [boxI p 202 [.int .i64 0,.int .i64 0,.int .u64 0,.map (some am2),.bool false,.int .i64 0,.map none,.pointer (some ⟨d,0,none⟩),.int .i64 (z:Int),.int .i64 0,.pointer (some ⟨c,0,none⟩),.bool false],dgI d F' newN] [] h'):=by
 refine HC.go Tryz.func138 23 ?_;refine .seq<|.r<|.z .asI<|.nil ?_;refine .seq<|.seq<|.r<|.z .mvP<|.z .nil<|.z (.fa T.fd202_2)<|.z (.ldx T.ag63 ok.m0)<|.c' 9 .func (nagone_any (n:=nM) (ok.n1).loc0 nM_ok) ?_;rintro _ η1 ⟨rfl,Fr1,q⟩;have ok:=(ok.n1).lift1 q;refine .z .asI<|.nil ?_;refine .seq<|.r<|.z .mvI<|.z .neq<|.nil ?_;refine .cf<|.skip<|.seq<|.seq<|.r<|.z .mvP<|.z .nil<|.z (.fa T.fd202_2)<|.z (.ldx T.ag63 ok.m1)<|.c' 17 .func (nagone_any (n:=nL) (ok).loc0 nL_ok) ?_;rintro _ η2 ⟨rfl,Fr2,q⟩;have ok:=(ok).lift1 q;refine .z .asI<|.nil ?_;refine .seq<|.r<|.z .mvI<|.z .neq<|.nil ?_;refine .cf<|.skip<|.seq<|.r<|.z .mvP<|.c' 22 .func (fresh_any (ok.n1).loc0) ?_;rintro _ η3 ⟨mf1,rfl,q⟩;have ok:=(ok.n1).lift2 q;refine .nil ?_;refine .seq<|.r<|.z .asI<|.nil ?_;refine .ret ⟨.int .i64 0,Res.one rfl rfl,⟨mf1,_,rfl,(ok.n2.n1).k2⟩⟩
theorem naopened_any {h:Heap} {p am d z c:Nat} {F:Nat→Prop} (ok:Hp h (starI [boxI p 202 [.int .i64 0,.int .i64 0,.int .u64 0,.map (some am),.bool false,.int .i64 0,.map none,.pointer (some ⟨d,0,none⟩),.int .i64 (z:Int),.int .i64 0,.pointer (some ⟨c,0,none⟩),.bool false],dgI d F newN]).F [boxI p 202 [.int .i64 0,.int .i64 0,.int .u64 0,.map (some am),.bool false,.int .i64 0,.map none,.pointer (some ⟨d,0,none⟩),.int .i64 (z:Int),.int .i64 0,.pointer (some ⟨c,0,none⟩),.bool false],dgI d F newN] [] h) :
  HC Tryz.prog 139 #[.pointer (some ⟨p,0,none⟩)] h (fun v h'=>v=.tuple #[.pointer (some ⟨p,0,none⟩),.int .i64 0]∧h'=h):=by
 refine HC.go Tryz.func139 71 ?_;refine .seq<|.r<|.z .asP<|.z .asI<|.nil ?_;refine .seq<|.r<|.z .mvP<|.z .nil<|.z (.fa T.fd202_2)<|.z (.ldx T.ag63 ok.m0)<|.k 14 .func (nsize_any (n:=nT) (ok.n1).loc0)<|.z .mvU<|.z .ex<|.z .ex<|.z .asI<|.z .asB<|.nil ?_;refine .seq<|.seq<|.r<|.z .mvB<|.z .not<|.z .mvB<|.y<|.y<|.z .pkt<|.nil ?_;refine .ct<|.seq<|.seq<|.r<|.z .mvP<|.z .nil<|.z (.fa T.fd202_2)<|.z (.ldx T.ag63 ok.m0)<|.k 27 .func (ndark_any (ok.n1).loc0)<|.nil ?_;refine .cf<|.skip<|.seq<|.r<|.z .mvP<|.z .asP<|.z .asI<|.nil ?_;refine .ret ⟨.tuple #[.pointer (some ⟨p,0,none⟩),.int .i64 0],Res.two rfl rfl rfl,⟨rfl,rfl⟩⟩
theorem nright_any {h:Heap} {z:Nat} (hz:okSz z=true):HC Tryz.prog 132 #[.int .i64 (z:Int)] h (fun v h'=>v=.bool true∧h'=h):=by
 have hzc:=okSz_c hz;refine (aright_any (z:=(z:Int)) (by omega)).mono fun v h' q=>?_;rw [show okZ (z:Int)=true from decide_eq_true (by omega)] at q;exact q
theorem naopen_any {h:Heap} {d z:Nat} {room:Int} {F:Nat→Prop} (ok:Hp h F [dgI d F newN] [] h) (hz:okSz z=true) (hr:1≤room∧room≤1024) :
  HC Tryz.prog 87 #[.pointer (some ⟨d,0,none⟩),.int .i64 (z:Int),.int .i64 room] h (fun v h'=>∃p,v=.tuple #[.pointer (some ⟨p,0,none⟩),.int .i64 0]∧Hp h F [naI p] [] h'):=by
 have hzc:=okSz_c hz;have hpw:=(and_pow z (by omega) (by omega)).2 (by omega);refine HC.go Tryz.func87 57 ?_;refine .seq<|.r<|.z .asP<|.z .asI<|.nil ?_;refine .seq<|.seq<|.r<|.z .mvP<|.z (.pEqS T.pt63)<|.nil ?_;refine .cf<|.skip<|.seq<|.seq<|.r<|.z .mvI<|.k 16 .func (nright_any hz)<|.z .not<|.nil ?_;refine .cf<|.skip<|.seq<|.r<|.z .mvI<|.c' 20 .func (cnewA_any (room:=room) (fun _=>none)) ?_;rintro _ η1 (⟨hrm,rfl,hx⟩ | ⟨hrm,cc,cF,rfl,hx,hcac,hnw⟩)
 ·
  exact absurd hrm (by omega)
 have ok:=ok.ext hx;refine .z .mvU<|.z .ex<|.z .ex<|.z .asP<|.z .asI<|.nil ?_;refine .seq<|.seq<|.r<|.z .mvI<|.z .neq<|.nil ?_;refine .cf<|.skip<|.seq<|.r<|.z .mvP<|.z .mvI<|.z .mvP<|.z (.bd #[.int .i64 0,.int .i64 0,.int .u64 0,.map none,.bool false,.int .i64 0,.map none,.pointer (some ⟨d,0,none⟩),.int .i64 (z:Int),.int .i64 0,.pointer (some ⟨cc,0,none⟩),.bool false] T.zr202 T.pl202 rfl)<|.a' 30 (.bxA (cs:=[.int .i64 0,.int .i64 0,.int .u64 0,.map none,.bool false,.int .i64 0,.map none,.pointer (some ⟨d,0,none⟩),.int .i64 (z:Int),.int .i64 0,.pointer (some ⟨cc,0,none⟩),.bool false]) ok) ?_;rintro _ η2 ⟨pb1,rfl,ok,xe⟩;refine .z .asP<|.nil ?_;refine .seq<|.r<|.z .mvP<|.c' 32 .func (fresh_any (ok).loc0) ?_;rintro _ η3 ⟨mf1,rfl,q⟩;have ok:=(ok).lift2 q;refine .nil ?_;refine .seq<|.seq<|.r<|.z .mvP<|.k 34 .func (ndark_any (ok.n2).loc0)<|.nil ?_;refine .cf<|.skip<|.seq<|.seq<|.r<|.z .mvP<|.k 37 .func (nsize_any (n:=nM) (ok.n2).loc0)<|.z .mvU<|.z .ex<|.z .ex<|.z .asI<|.z .asB<|.nil ?_;refine .seq<|.r<|.z .mvB<|.z .mvB<|.y<|.y<|.z .pkf<|.nil ?_;refine .cf<|.r<|.z .mvP<|.c' 49 .func (naclear_any (c:=cc) (Hp.locL [boxI pb1 202 [.int .i64 0,.int .i64 0,.int .u64 0,.map (some mf1),.bool false,.int .i64 0,.map none,.pointer (some ⟨d,0,none⟩),.int .i64 (z:Int),.int .i64 0,.pointer (some ⟨cc,0,none⟩),.bool false],dgI d F newN] (ok.n2.n1))) ?_;rintro _ η4 ⟨amc1,Fc1,rfl,q⟩;have ok:=Hp.liftL [boxI pb1 202 [.int .i64 0,.int .i64 0,.int .u64 0,.map (some mf1),.bool false,.int .i64 0,.map none,.pointer (some ⟨d,0,none⟩),.int .i64 (z:Int),.int .i64 0,.pointer (some ⟨cc,0,none⟩),.bool false],dgI d F newN] (ok.n2.n1) q;refine .z .asI<|.nil ?_;refine .seq<|.seq<|.r<|.z .mvI<|.z .neq<|.nil ?_;refine .cf<|.skip<|.seq<|.r<|.z .mvP<|.k 54 .func (naopened_any (c:=cc) (Hp.locL [boxI pb1 202 [.int .i64 0,.int .i64 0,.int .u64 0,.map (some amc1),.bool false,.int .i64 0,.map none,.pointer (some ⟨d,0,none⟩),.int .i64 (z:Int),.int .i64 0,.pointer (some ⟨cc,0,none⟩),.bool false],dgI d Fc1 newN] (ok)))<|.z .ex<|.z .ex<|.z .asP<|.z .asI<|.nil ?_;refine .ret ⟨.tuple #[.pointer (some ⟨pb1,0,none⟩),.int .i64 0],Res.two rfl rfl rfl,⟨_,rfl,(ok).k1.re (naI pb1) ⟨_,d,cc,z,(ok).m0⟩ fun _ x=>x⟩⟩
theorem nbPages_any {h:Heap} {p:Nat} (hp:(nbI p).p h):HC Tryz.prog 297 #[pv p] h (fun v h'=>v=.int .i64 0∧h'=h):=by
 obtain ⟨d,c,z,hb⟩:=hp;exact bPages_any (r:=⟨false,0,0,false,0,none,[],0,d,⟨0,[],false,0,0⟩,z,c,0,0,false⟩) hb
theorem naPages_any {h:Heap} {p:Nat} (hp:(naI p).p h):HC Tryz.prog 271 #[pv p] h (fun v h'=>v=.int .i64 0∧h'=h):=by
 obtain ⟨am,d,c,z,hb⟩:=hp;exact aPages_any (r:=⟨0,0,0,am,[],false,0,none,[],d,⟨0,[],false,0,0⟩,z,0,c,none_,fun _=>none,false⟩) hb
def nbG:Pgr where
 α:=Unit
 it p _ _:=nbI p
 sure _:=[]
 tid:=140
 fPages:=297
 fRead:=298
 mPages p w:=by kernel_rfl
 mRead p w:=by kernel_rfl
 cPages:=nbPages_any
 cRead _ _ h:=by cases h
def naG:Pgr where
 α:=Unit
 it p _ _:=naI p
 sure _:=[]
 tid:=117
 fPages:=271
 fRead:=272
 mPages p w:=by kernel_rfl
 mRead p w:=by kernel_rfl
 cPages:=naPages_any
 cRead _ _ h:=by cases h
open Go Go.HL
def nG:Bool→Pgr
 | true=>naG
 | false=>nbG
def newS (z:Nat):St:=⟨z,[],false,[],[]⟩
theorem newS_ok {z:Nat} (hz:okSz z=true):StOk (newS z):=⟨hz,.nil,.nil,by simp [newS],by simp [newS],fun _=>⟨rfl,rfl⟩⟩
theorem ds_new {G:Pgr} {h h':Heap} {F pF:Nat→Prop} {s p z:Nat} {lg:Option Addr} {a:G.α} (ha:G.sure a=[]) (hz:okSz z=true) (ok:Hp h F [boxI s 123 [.iface G.tid (pv p),.pointer lg,.int .i64 (z:Int),.bool false,.int .i64 0,.map none,.slice none 0 0,.bool false],G.it p pF a] [] h'):∃F',Hp h F [dsI G s F' (newS z)] [] h':=by
 have o:=(((ok.nowNil (bs:=[])).nilC (k:=2) (e:=120)).dE (svsI none_ []) (fun x h=>by cases h) (fun _ f=>f)).dE (pbsI none_ []) Pbs.nil (fun _ f=>f);have V:SVw G (⟨p,lg,z,false,0,none,[],none,0,[],pF,a⟩:RS G.α) (newS z):=⟨rfl,rfl,ha,fun h=>(by cases h),fun _=>⟨rfl,rfl,rfl,rfl⟩,All2.nil,newS_ok hz⟩;exact ⟨_,ds_close (F:=F) (D:=F) (h:=h) (r':=(⟨p,lg,z,false,0,none,[],none,0,[],pF,a⟩:RS G.α)) (E':=none_) (M:=[]) (R:=[]) (o.n2.n2.n1) (fun _ h=>h) (fun _ f=>f.elim) V⟩
theorem sopnB_any {h:Heap} {d z:Nat} {room:Int} {F:Nat→Prop} (ok:Hp h F [dgI d F newN] [] h) (hz:okSz z=true) (hr:1≤room∧room≤1024) :
  HC Tryz.prog 36 #[.pointer (some ⟨d,0,none⟩),.agg #[.int .i64 (z:Int),.bool false,.int .i64 room]] h (fun v h'=>∃s,v=.tuple #[.pointer (some ⟨s,0,none⟩),.int .i64 0]∧∃F',Hp h F [dsI nbG s F' (newS z)] [] h'):=by
 have hzc:=okSz_c hz;have hpw:=(and_pow z (by omega) (by omega)).2 (by omega);refine HC.go Tryz.func36 80 ?_;refine .seq<|.r<|.a' 3 (.bxA (cs:=[.int .i64 (z:Int),.bool false,.int .i64 room]) ok) ?_;rintro _ η1 ⟨pb1,rfl,ok,xe⟩;refine .z .asP<|.z .asI<|.nil ?_;refine .seq<|.block fun K0 hK0=>.seq<|.r<|.z .mvP<|.z (.pEqS T.pt63)<|.z .asB<|.nil ?_;refine .cf<|.seq<|.r<|.z (.fa T.fd23_0)<|.z (.ldx T.ag3 ok.m0)<|.z .lss<|.z .mvB<|.sd (fun G17=>?_) (fun G17=>?_)
 ·
  omega
 refine .z (.fa T.fd23_0)<|.z (.ldx T.ag3 ok.m0)<|.z .gtr<|.z .pkf<|.z .mvB<|.sd (fun G22=>?_) (fun G22=>?_)
 ·
  omega
 refine .z (.fa T.fd23_0)<|.z (.ldx T.ag3 ok.m0)<|.z (.fa T.fd23_0)<|.z (.ldx T.ag3 ok.m0)<|.z .sub<|.z (.bandI z (z-1))<|.z .neq<|.z .pkf<|.z .mvB<|.sd (fun G31=>?_) (fun G31=>?_)
 ·
  omega
 refine .z (.fa T.fd23_2)<|.z (.ldx T.ag3 ok.m0)<|.z .lss<|.z .pkf<|.z .mvB<|.sd (fun G36=>?_) (fun G36=>?_)
 ·
  omega
 refine .z (.fa T.fd23_2)<|.z (.ldx T.ag3 ok.m0)<|.z .gtr<|.z .pkf<|.z .asB<|.nil ?_;refine .cd (fun C1=>?_) (fun C1=>?_)
 ·
  omega
 refine .skip<|.end<|hK0 _ _<|.seq<|.seq<|.r<|.z (.fa T.fd23_1)<|.z (.ldx T.ag4 ok.m0)<|.nil ?_;refine .cf<|.skip<|.seq<|.r<|.z .mvP<|.z (.fa T.fd23_0)<|.z (.ldx T.ag3 ok.m0)<|.z (.fa T.fd23_2)<|.z (.ldx T.ag3 ok.m0)<|.c' 68 .func (nbopen_any (ok.n1).loc0 hz hr) ?_;rintro _ η2 ⟨pp,rfl,q⟩;have ok:=(ok.n1).lift1 q;refine .z .mvU<|.z .ex<|.z .ex<|.z .asP<|.z .asI<|.nil ?_;refine .seq<|.seq<|.r<|.z .mvI<|.z .neq<|.nil ?_;refine .cf<|.skip<|.seq<|.r<|.z .mvP<|.z (.mkI (by kernel_rfl))<|.z (.fa T.fd23_0)<|.z (.ldx T.ag3 ok.m1)<|.z (.bd #[.iface (140) (.pointer (some ⟨pp,0,none⟩)),.pointer none,.int .i64 (z:Int),.bool false,.int .i64 0,.map none,.slice none 0 0,.bool false] T.zr123 T.pl123 rfl)<|.a' 79 (.bxA (cs:=[.iface (140) (.pointer (some ⟨pp,0,none⟩)),.pointer none,.int .i64 (z:Int),.bool false,.int .i64 0,.map none,.slice none 0 0,.bool false]) ok) ?_;rintro _ η3 ⟨pb2,rfl,ok,xe⟩;refine .z .asP<|.z .asI<|.nil ?_;refine .ret ⟨.tuple #[.pointer (some ⟨pb2,0,none⟩),.int .i64 0],Res.two rfl rfl rfl,⟨pb2,rfl,ds_new (G:=nbG) (a:=()) (pF:=none_) rfl hz (ok).k2⟩⟩
theorem sopnA_any {h:Heap} {d z:Nat} {room:Int} {F:Nat→Prop} (ok:Hp h F [dgI d F newN] [] h) (hz:okSz z=true) (hr:1≤room∧room≤1024) :
  HC Tryz.prog 36 #[.pointer (some ⟨d,0,none⟩),.agg #[.int .i64 (z:Int),.bool true,.int .i64 room]] h (fun v h'=>∃s,v=.tuple #[.pointer (some ⟨s,0,none⟩),.int .i64 0]∧∃F',Hp h F [dsI naG s F' (newS z)] [] h'):=by
 have hzc:=okSz_c hz;have hpw:=(and_pow z (by omega) (by omega)).2 (by omega);refine HC.go Tryz.func36 80 ?_;refine .seq<|.r<|.a' 3 (.bxA (cs:=[.int .i64 (z:Int),.bool true,.int .i64 room]) ok) ?_;rintro _ η1 ⟨pb1,rfl,ok,xe⟩;refine .z .asP<|.z .asI<|.nil ?_;refine .seq<|.block fun K0 hK0=>.seq<|.r<|.z .mvP<|.z (.pEqS T.pt63)<|.z .asB<|.nil ?_;refine .cf<|.seq<|.r<|.z (.fa T.fd23_0)<|.z (.ldx T.ag3 ok.m0)<|.z .lss<|.z .mvB<|.sd (fun G17=>?_) (fun G17=>?_)
 ·
  omega
 refine .z (.fa T.fd23_0)<|.z (.ldx T.ag3 ok.m0)<|.z .gtr<|.z .pkf<|.z .mvB<|.sd (fun G22=>?_) (fun G22=>?_)
 ·
  omega
 refine .z (.fa T.fd23_0)<|.z (.ldx T.ag3 ok.m0)<|.z (.fa T.fd23_0)<|.z (.ldx T.ag3 ok.m0)<|.z .sub<|.z (.bandI z (z-1))<|.z .neq<|.z .pkf<|.z .mvB<|.sd (fun G31=>?_) (fun G31=>?_)
 ·
  omega
 refine .z (.fa T.fd23_2)<|.z (.ldx T.ag3 ok.m0)<|.z .lss<|.z .pkf<|.z .mvB<|.sd (fun G36=>?_) (fun G36=>?_)
 ·
  omega
 refine .z (.fa T.fd23_2)<|.z (.ldx T.ag3 ok.m0)<|.z .gtr<|.z .pkf<|.z .asB<|.nil ?_;refine .cd (fun C1=>?_) (fun C1=>?_)
 ·
  omega
 refine .skip<|.end<|hK0 _ _<|.seq<|.seq<|.r<|.z (.fa T.fd23_1)<|.z (.ldx T.ag4 ok.m0)<|.nil ?_;refine .ct<|.seq<|.r<|.z .mvP<|.z (.fa T.fd23_0)<|.z (.ldx T.ag3 ok.m0)<|.z (.fa T.fd23_2)<|.z (.ldx T.ag3 ok.m0)<|.c' 49 .func (naopen_any (ok.n1).loc0 hz hr) ?_;rintro _ η2 ⟨pp,rfl,q⟩;have ok:=(ok.n1).lift1 q;refine .z .mvU<|.z .ex<|.z .ex<|.z .asP<|.z .asI<|.nil ?_;refine .seq<|.seq<|.r<|.z .mvI<|.z .neq<|.nil ?_;refine .cf<|.skip<|.seq<|.r<|.z .mvP<|.z (.mkI (by kernel_rfl))<|.z .mvP<|.z (.fa T.fd23_0)<|.z (.ldx T.ag3 ok.m1)<|.z (.bd #[.iface (117) (.pointer (some ⟨pp,0,none⟩)),.pointer (some ⟨pp,0,none⟩),.int .i64 (z:Int),.bool false,.int .i64 0,.map none,.slice none 0 0,.bool false] T.zr123 T.pl123 rfl)<|.a' 61 (.bxA (cs:=[.iface (117) (.pointer (some ⟨pp,0,none⟩)),.pointer (some ⟨pp,0,none⟩),.int .i64 (z:Int),.bool false,.int .i64 0,.map none,.slice none 0 0,.bool false]) ok) ?_;rintro _ η3 ⟨pb2,rfl,ok,xe⟩;refine .z .asP<|.z .asI<|.nil ?_;refine .ret ⟨.tuple #[.pointer (some ⟨pb2,0,none⟩),.int .i64 0],Res.two rfl rfl rfl,⟨pb2,rfl,ds_new (G:=naG) (a:=()) (pF:=none_) rfl hz (ok).k2⟩⟩
theorem sopn_any {h:Heap} {d z:Nat} {ah:Bool} {room:Int} {F:Nat→Prop} (ok:Hp h F [dgI d F newN] [] h) (hz:okSz z=true) (hr:1≤room∧room≤1024) :
  HC Tryz.prog 36 #[.pointer (some ⟨d,0,none⟩),.agg #[.int .i64 (z:Int),.bool ah,.int .i64 room]] h (fun v h'=>∃s,v=.tuple #[.pointer (some ⟨s,0,none⟩),.int .i64 0]∧∃F',Hp h F [dsI (nG ah) s F' (newS z)] [] h'):=by
 cases ah
 ·exact sopnB_any ok hz hr
 ·exact sopnA_any ok hz hr
def frOk (N:Nat) (out:List Int) (no:Int):Bool:=decide (2≤no∧no≤(N:Int)∧no∉out)
def frIn (N:Nat):List Int→List Int→Option (List Int)
 | [],out=>some out
 | no::l,out=>if frOk N out no=true then frIn N l (out++[no]) else none
def frNums (b:List UInt8):List Int:=(List.range (rdN b 4 4)).map fun i=>((rdN b (8+4*i) 4:Nat):Int)
def frGo (P:List (List UInt8)) (rm:Nat):Nat→Int→List Int→Option (List Int)
 | 0,_,_=>none
 | f+1,at_,out=>if at_=0 then some out else if frOk P.length out at_=false then none else
  if rm<rdN (P.getD (at_-1).toNat []) 4 4 then none else
  (frIn P.length (frNums (P.getD (at_-1).toNat [])) (out++[at_])).bind (frGo P rm f ((rdN (P.getD (at_-1).toNat []) 0 4:Nat):Int))
def frAll (w:St):Option (List Int):=(frGo w.pgs ((w.z-8) / 4) (w.pgs.length+1) w.head.free []).bind fun l=>if (l.length:Int)=w.head.many then some l else none
def frL (w:St):List Int:=(frAll w).getD []
def frC (w:St):Nat:=if (frAll w).isSome=true then 0 else 14
def frOp (w:St):List Int × Nat:=if w.in_=false then ([],10) else if w.pgs.length=0 then ([],4) else (frL w,frC w)
def put4 (l:List UInt8) (p n:Nat):List UInt8:=l.take p++fixedN n 4++l.drop (p+4)
def hdd (w:St) (free many:Int):St × Nat:=w.setHead { w.head with free:=free,many:=many }
def zer (z:Nat):List UInt8:=List.replicate z 0
def frGrow (w:St):St × Int × Nat:=
 if 16777216 / (w.z:Int)<(w.pgs.length:Int)+1 then (w,0,5) else
 if (w.write ((w.pgs.length:Int)+1) (zer w.z)).2≠0 then ((w.write ((w.pgs.length:Int)+1) (zer w.z)).1,0,(w.write ((w.pgs.length:Int)+1) (zer w.z)).2) else
 ((hdd (w.write ((w.pgs.length:Int)+1) (zer w.z)).1 0 0).1,(w.pgs.length:Int)+1,(hdd (w.write ((w.pgs.length:Int)+1) (zer w.z)).1 0 0).2)
def tkA (w:St):List UInt8:=w.pgs.getD (w.head.free-1).toNat []
def tkN (w:St):Nat:=rdN (tkA w) 4 4
def tkNo (w:St):Int:=if 0<tkN w then ((rdN (tkA w) (8+4*(tkN w-1)) 4:Nat):Int) else w.head.free
def tkFr (w:St):Int:=if 0<tkN w then w.head.free else ((rdN (tkA w) 0 4:Nat):Int)
def tkW (w:St):St × Nat:=if 0<tkN w then w.write w.head.free (put4 (put4 (tkA w) (8+4*(tkN w-1)) 0) 4 (tkN w-1)) else (w,0)
def toldF (x:St × Int × Nat):St × Int × Nat:=(x.1,if x.2.2=0 then x.2.1 else 0,x.2.2)
def tkZ (w:St):St × Nat:=(tkW w).1.write (tkNo w) (zer w.z)
def tkH (w:St):St × Nat:=hdd (tkZ w).1 (tkFr w) (w.head.many-1)
def takeF (w:St):St × Int × Nat:=if (frOp w).2≠0 then (w,0,(frOp w).2) else if (frOp w).1=[] then toldF (frGrow w) else
 if (tkW w).2≠0 then ((tkW w).1,0,(tkW w).2) else if (tkZ w).2≠0 then ((tkZ w).1,0,(tkZ w).2) else toldF ((tkH w).1,tkNo w,(tkH w).2)
def gvA (w:St) (no:Int):St × Nat:=w.write w.head.free (put4 (put4 (tkA w) (8+4*tkN w) no.toNat) 4 (tkN w+1))
def gvB (w:St) (no:Int):St × Nat:=w.write no (put4 (zer w.z) 0 w.head.free.toNat)
def thenH (x:St × Nat) (free many:Int):St × Nat:=if x.2≠0 then x else hdd x.1 free many
def giveF (w:St) (no:Int):St × Nat:=if w.in_=true∧0<w.pgs.length∧(no<2∨(w.pgs.length:Int)<no) then (w,1) else if (frOp w).2≠0 then (w,(frOp w).2) else if no∈(frOp w).1 then (w,7) else
 if w.head.free≠0∧tkN w<(w.z-8) / 4 then thenH (gvA w no) w.head.free (w.head.many+1) else thenH (gvB w no) no (w.head.many+1)
section
variable {N:Nat} {out:List Int} {no:Int} {l:List UInt8}
theorem frIn_nil:frIn N [] out=some out:=rfl
theorem frIn_ok {r:List Int} (h:frOk N out no=true):frIn N (no::r) out=frIn N r (out++[no]):=if_pos h
theorem frIn_no {r:List Int} (h:frOk N out no=false):frIn N (no::r) out=none:=if_neg (by rw [h];decide)
theorem rdN_lt {l:List UInt8} {p:Nat} : rdN l p 4<4294967296:=rdN_lt4 l p
theorem frNums_len:(frNums l).length=rdN l 4 4:=by simp [frNums]
theorem frNums_drop {i:Nat} (h:i<rdN l 4 4):(frNums l).drop i=((rdN l (8+4*i) 4:Nat):Int)::(frNums l).drop (i+1):=by
 rw [List.drop_eq_getElem_cons (by rw [frNums_len];exact h)];simp [frNums]
theorem put4_len {p n:Nat} (h:p+4≤l.length):(put4 l p n).length=l.length:=by
 unfold put4;simp [fixedN_len];omega
end
section
variable {P:List (List UInt8)} {rm f:Nat} {a:Int} {out:List Int}
theorem frGo_0:frGo P rm (f+1) 0 out=some out:=by unfold frGo;rfl
theorem frGo_bad (h0:a≠0) (h:frOk P.length out a=false):frGo P rm (f+1) a out=none:=by unfold frGo;rw [if_neg h0,if_pos h]
theorem frGo_many (h0:a≠0) (h:frOk P.length out a=true) (h2:rm<rdN (P.getD (a-1).toNat []) 4 4):frGo P rm (f+1) a out=none:=by unfold frGo;rw [if_neg h0,if_neg (by rw [h];decide),if_pos h2]
theorem frGo_in (h0:a≠0) (h:frOk P.length out a=true) (h2:¬rm<rdN (P.getD (a-1).toNat []) 4 4):frGo P rm (f+1) a out=(frIn P.length (frNums (P.getD (a-1).toNat [])) (out++[a])).bind (frGo P rm f ((rdN (P.getD (a-1).toNat []) 0 4:Nat):Int)):=by
 conv=>lhs;unfold frGo
 rw [if_neg h0,if_neg (by rw [h];decide),if_neg h2]
end
theorem frGo_1 {P:List (List UInt8)} {rm f:Nat} {a:Int} {out l:List Int} (h:frGo P rm (f+1) a out=some l) (hl:l≠out):a≠0∧frOk P.length out a=true∧¬rm<rdN (P.getD (a-1).toNat []) 4 4:=by
 by_cases h0:a=0
 ·subst h0;rw [frGo_0] at h;injection h with h;exact absurd h.symm hl
 cases hk:frOk P.length out a with
 | false=>rw [frGo_bad h0 hk] at h;cases h
 | true=>
  refine ⟨h0,rfl,fun h2=>?_⟩;rw [frGo_many h0 hk h2] at h;cases h
theorem frAll_1 {w:St} {l:List Int} (h:frAll w=some l) (hl:l≠[]):2≤w.head.free∧w.head.free≤(w.pgs.length:Int)∧tkN w≤(w.z-8) / 4:=by
 unfold frAll at h;cases hg:frGo w.pgs ((w.z-8) / 4) (w.pgs.length+1) w.head.free [] with
 | none=>rw [hg] at h;cases h
 | some l'=>
  rw [hg] at h;have h2:(if (l'.length:Int)=w.head.many then some l' else none)=some l:=h;split at h2
  ·injection h2 with h2;subst h2;obtain ⟨_,h4,h5⟩:=frGo_1 hg hl;have h6:2≤w.head.free∧w.head.free≤(w.pgs.length:Int)∧w.head.free∉[]:=of_decide_eq_true h4;exact ⟨h6.1,h6.2.1,Nat.le_of_not_lt h5⟩
  ·cases h2
theorem frOp_0 {w:St} (h:(frOp w).2=0):w.in_=true∧w.pgs.length≠0∧frAll w=some (frOp w).1:=by
 unfold frOp at h⊢;split at h
 ·cases h
 split at h
 ·cases h
 rename_i h1 h2;rw [if_neg h1,if_neg h2];refine ⟨by simpa using h1,h2,?_⟩;have h3:frC w=0:=h;unfold frC at h3;cases ha:frAll w with
 | none=>rw [ha] at h3;cases h3
 | some l=>show some l=some (frL w);unfold frL;rw [ha];rfl
structure Met (N:Nat) (out:List Int):Prop where
 nd:out.Nodup
 rg:∀k∈out,2≤k∧k≤(N:Int)
section
variable {N:Nat} {out:List Int} {no:Int}
theorem Met.nil:Met N []:=⟨.nil,by simp⟩
theorem Met.snoc (m:Met N out) (h:frOk N out no=true):Met N (out++[no]):=by
 have h1:2≤no∧no≤(N:Int)∧no∉out:=of_decide_eq_true h;refine ⟨List.nodup_append.2 ⟨m.nd,by simp,fun a ha b hb e=>h1.2.2 (by rw [List.mem_singleton.1 hb] at e;exact e▸ha)⟩,fun k hk=>?_⟩;rcases List.mem_append.1 hk with hk | hk
 ·exact m.rg k hk
 ·rw [List.mem_singleton.1 hk];exact ⟨h1.1,h1.2.1⟩
theorem Met.len (m:Met N out):out.length<N+1:=by
 have h3:(0::out.map Int.toNat).length≤(List.range (N+1)).length:=by
  refine List.Nodup.length_le_of_subset (List.nodup_cons.2 ⟨fun hk=>?_,?_⟩) fun k hk=>?_
  ·obtain ⟨x,hx,e⟩:=List.mem_map.1 hk;have:=m.rg x hx;omega
  ·unfold List.Nodup;rw [List.pairwise_map];exact List.Pairwise.imp_of_mem (fun ha hb h e=>h (by have:=m.rg _ ha;have:=m.rg _ hb;omega)) m.nd
  ·rcases List.mem_cons.1 hk with rfl | hk
   ·rw [List.mem_range];omega
   ·obtain ⟨x,hx,rfl⟩:=List.mem_map.1 hk;have:=m.rg x hx;rw [List.mem_range];omega
 rw [List.length_cons,List.length_map,List.length_range] at h3;omega
end
theorem frIn_met {N:Nat} : ∀ {r out o:List Int},Met N out→frIn N r out=some o→Met N o
 | [],out,o,m,h=>by rw [frIn_nil] at h;injection h with h;exact h▸m
 | no::r,out,o,m,h=>by
  cases hk:frOk N out no with
  | false=>rw [frIn_no hk] at h;cases h
  | true=>rw [frIn_ok hk] at h;exact frIn_met (m.snoc hk) h
theorem frGo_met {P:List (List UInt8)} {rm:Nat} : ∀(f:Nat) (a:Int) (out:List Int) {l:List Int},Met P.length out→frGo P rm f a out=some l→Met P.length l
 | 0,_,_,_,_,h=>by unfold frGo at h;cases h
 | f+1,a,out,l,m,h=>by
  by_cases h0:a=0
  ·subst h0;rw [frGo_0] at h;injection h with h;exact h▸m
  cases hk:frOk P.length out a with
  | false=>rw [frGo_bad h0 hk] at h;cases h
  | true=>
   by_cases h2:rm<rdN (P.getD (a-1).toNat []) 4 4
   ·rw [frGo_many h0 hk h2] at h;cases h
   ·rw [frGo_in h0 hk h2] at h;cases hi:frIn P.length (frNums (P.getD (a-1).toNat [])) (out++[a]) with
    | none=>rw [hi] at h;cases h
    | some o=>rw [hi] at h;exact frGo_met f _ _ (frIn_met (m.snoc hk) hi) h
open Go Go.HL
def cntM (l:List (Int × Nat)) (out:List Int):Prop:=∀k,(mget l k).getD 0=out.count k
theorem cntM_nil:cntM [] []:=fun k=>rfl
theorem cntM_put {l:List (Int × Nat)} {out:List Int} {no:Int} (c:cntM l out):cntM (mput l no (out.count no+1)) (out++[no]):=fun k=>by
 rw [mget_mput,List.count_append,List.count_singleton];by_cases h:k=no
 ·subst h;simp
 ·rw [if_neg h,c k];have:(no == k)=false:=by simpa using fun e=>h e.symm
  rw [this];simp
theorem atE_put {l:List (Int × Nat)} {k:Int} {n:Nat} : aput (atE l) k (iv' n)=atE (mput l k n):=aput_mp
def eachL (mb ob hb:Nat) (H:Hd) (mm:Nat) (l:List (Int × Nat)) (a:Option Addr) (c:Nat) (out:List Int):List Itm:=[boxI mb 180 [.map (some mm)],mapI (Value.int .i64) mm (atE l),boxI ob 24 [.slice a out.length c],capI 1 3 (a,out.length,c) (out.map iv),boxI hb 38 [.int .i64 H.size,.int .i64 H.pages,.int .i64 H.free,.int .i64 H.many,.int .i64 H.cookie,.int .i64 H.version]]
@[reducible] def eachI (mb ob hb:Nat) (H:Hd) (F:Nat→Prop) (out:List Int):Itm:=⟨fun h=>∃mm l a c,(starI (eachL mb ob hb H mm l a c out)).p h∧(∀j,(starI (eachL mb ob hb H mm l a c out)).F j→F j)∧cntM l out,F,fun _ _ _ c g ⟨mm,l,a,c',q,f,n⟩=>⟨mm,l,a,c',(starI (eachL mb ob hb H mm l a c' out)).st _ _ _ c (fun j hj=>g j (f j hj)) q,f,n⟩⟩
section
variable {h h':Heap} {mb ob hb:Nat} {H:Hd} {F D:Nat→Prop} {out:List Int} {M R:List Itm}
theorem each_open (ok:Hp h F [eachI mb ob hb H F out] [] h):∃mm l a c,cntM l out∧Hp h (starI (eachL mb ob hb H mm l a c out)).F (eachL mb ob hb H mm l a c out) [] h∧∀j,(starI (eachL mb ob hb H mm l a c out)).F j→F j:=by
 obtain ⟨mm,l,a,c,q,f,n⟩:=ok.m0;have hl:=(ok.m _ List.mem_cons_self).2;refine ⟨mm,l,a,c,n,?_,f⟩;have o:Hp h (starI (eachL mb ob hb H mm l a c out)).F [starI (eachL mb ob hb H mm l a c out)] [] h:=⟨Chg.refl _ _,fun i hi=>by rw [List.mem_singleton.1 hi];exact ⟨q,fun j hj=>⟨(hl j (f j hj)).1,.inl hj⟩⟩,by simp,List.pairwise_singleton _ _,by simp⟩;simpa using Hp.unstar o
theorem each_close {mm:Nat} {l:List (Int × Nat)} {a:Option Addr} {c:Nat} (q:Hp h D (eachL mb ob hb H mm l a c out++M) R h') (hD:∀j,D j→F j) (n:cntM l out):Hp h F (eachI mb ob hb H (starI (eachL mb ob hb H mm l a c out)).F out::M) R h':=by
 have q:=Hp.star q;exact ⟨q.chg.mono fun j _=>hD j,fun i hi=>by
  rcases List.mem_cons.1 hi with rfl | hi
  ·have:=q.m _ List.mem_cons_self;exact ⟨⟨mm,l,a,c,this.1,fun _ h=>h,n⟩,fun j hj=>⟨(this.2 j hj).1,(this.2 j hj).2.imp (hD j) id⟩⟩
  ·have:=q.m i (List.mem_cons_of_mem _ hi);exact ⟨this.1,fun j hj=>⟨(this.2 j hj).1,(this.2 j hj).2.imp (hD j) id⟩⟩,q.r,List.pairwise_cons.2 (List.pairwise_cons.1 q.mm),fun a ha b hb=>by
  rcases List.mem_cons.1 ha with rfl | ha
  ·exact q.mr _ List.mem_cons_self b hb
  ·exact q.mr a (List.mem_cons_of_mem _ ha) b hb⟩
end
theorem put4_spl {l:List UInt8} {p n:Nat} : spl (l.map bv) (p*1) ((fixedN n 4).map bv)=(put4 l p n).map bv:=by
 unfold spl put4;rw [Nat.mul_one,List.map_append,List.map_append,List.map_take,List.map_drop,List.length_map,fixedN_len]
theorem _root_.Go.HL.Hp.lenI {h0 h:Heap} {D:Nat→Prop} {M R:List Itm} {e:TypeId} {a:Option Addr} {n c:Nat} {l:List Int} (ok:Hp h0 D (capI 1 e (a,n,c) (l.map iv)::M) R h):n=l.length:=by
 have h1:Cap h 1 e (.slice a n c) (l.map iv):=ok.m0;have:=h1.sl.cells.1;rw [List.length_map] at this;omega
theorem frOk_iff {N:Nat} {out:List Int} {no:Int} : frOk N out no=true↔2≤no∧no≤(N:Int)∧no∉out:=decide_eq_true_iff
theorem fnum_any {h:Heap} {F E:Nat→Prop} {a:Option Addr} {c p:Nat} {l:List UInt8} (hl:RdL h F E (a,l.length,c) l) (hp:p+4≤l.length) :
  HC Tryz.prog 75 #[.slice a l.length c,.int .i64 (p:Int)] h (fun v h'=>v=.int .i64 ((rdN l p 4:Nat):Int)∧h'=h):=by
 have hc2:=hl.m;have hc1:l.length≤c:=hl.c;simp only at hc2;have hr4:=rdN_lt4 l p;refine HC.go Tryz.func75 15 ?_;refine .seq<|.r<|.z .asI<|.nil ?_;refine .seq<|.r<|.z .mvS<|.z .mvI<|.k 10 .func (read_any (p:=p) (size:=4) (a:=a) (c:=c) (l:=l) hl (by omega) (by omega) (by omega))<|.z .mvU<|.z .ex<|.z .ex<|.z .asI<|.z .asI<|.nil ?_;refine .seq<|.r<|.z .mvI<|.z (.cvi T.in3 T.in130 (ha:=by omega))<|.z .asI<|.nil ?_;refine .ret ⟨.int .i64 (((rdN l p 4):Nat):Int),Res.one rfl rfl,⟨rfl,rfl⟩⟩
theorem ftold_any {h:Heap} {no e:Int} :
  HC Tryz.prog 79 #[.int .i64 no,.int .i64 e] h (fun v h'=>v=.tuple #[.int .i64 (if e=0 then no else 0),.int .i64 e]∧h'=h):=by
 refine HC.go Tryz.func79 10 ?_;refine .seq<|.r<|.z .asI<|.z .asI<|.nil ?_;refine .seq<|.seq<|.r<|.z .mvI<|.z .neq<|.nil ?_;refine .cd (fun C0=>?_) (fun C0=>?_)
 ·
  refine .seq<|.r<|.z .mvI<|.z .asI<|.z .asI<|.nil ?_;refine .ret ⟨.tuple #[.int .i64 0,.int .i64 e],Res.two rfl rfl rfl,⟨by rw [if_neg C0],rfl⟩⟩
 refine .skip<|.seq<|.r<|.z .mvI<|.z .asI<|.z .asI<|.nil ?_;refine .ret ⟨.tuple #[.int .i64 no,.int .i64 0],Res.two rfl rfl rfl,⟨by rw [if_pos (Decidable.not_not.1 C0),Decidable.not_not.1 C0],rfl⟩⟩
theorem froom_any {G:Pgr} {h:Heap} {so:Nat} {F:Nat→Prop} {w:St} (hd:(dsI G so F w).p h) :
  HC Tryz.prog 76 #[.pointer (some ⟨so,0,none⟩)] h (fun v h'=>v=.int .i64 (((w.z-8) / 4:Nat):Int)∧h'=h):=by
 have hzc:=okSz_c (ds_ok hd).z;refine HC.go Tryz.func76 7 ?_;refine .seq<|.r<|.z .asI<|.nil ?_;refine .seq<|.r<|.z .mvP<|.k 4 .func (sSize_any (G:=G) (F:=F) (w:=w) hd)<|.z .sub<|.z .quo<|.z .asI<|.nil ?_;refine .ret ⟨.int .i64 (((w.z:Int)-8) / 4),Res.one rfl rfl,⟨by congr 1;omega,rfl⟩⟩
theorem fput0_any {h:Heap} {a:Option Addr} {c p n:Nat} {l:List UInt8} {D:Nat→Prop} (ok:Hp h D [capI 1 5 (a,l.length,c) (l.map bv)] [] h) (hp:p+4≤l.length) (hn:n<4294967296) (hl:l.length≤1000000) :
  HC Tryz.prog 77 #[.slice a l.length c,.int .i64 (p:Int),.int .i64 (n:Int)] h (fun v h'=>v=.tuple #[]∧Hp h D [capI 1 5 (a,l.length,c) ((put4 l p n).map bv)] [] h'):=by
 refine HC.go Tryz.func77 13 ?_;refine .a 5 (fun fl hh=>cond fl True (Hp h D [capI 1 5 (a,l.length,c) (l.map bv)] [] hh)) mixed ?_;have hS:=ok;refine .g 0 false rfl 6 hS (fun _=>.mvS)<|.g 1 false rfl 7 hS (fun _=>.mvI)<|.g 2 false rfl 8 hS (fun _=>.sll p T.el44 T.sz5)<|.g 3 false rfl 9 hS (fun _=>.mvI)<|.g 4 false rfl 10 hS (fun _=>.cvs T.in130 T.in3 (M:=18446744073709551616) rfl rfl)<|.o1 5<|.c' true rfl 11 .func (fixed_any (n:=n) (size:=4) (by omega) (by omega) (by omega)) ?_;rintro _ η1 own;obtain ⟨ya1,yc1,rfl⟩:=own.formB;have ok:=ok.own own;refine ⟨trivial,?_⟩;refine .o1 6<|.a' true rfl 12 (.cpyA (n:=l.length) (ys:=(fixedN n 4).map bv) (m:=(fixedN n 4).length) p T.el44 T.sz5 ok.n1 ok.n1.m1.sl bv_all rfl (him:=by rw [fixedN_len];omega)) ?_;rintro _ η2 ⟨rfl,ok,cg⟩;refine ⟨trivial,?_⟩;refine .e ?_;refine .end<|⟨.tuple #[],Res.none rfl,⟨rfl,ok.k1.cx put4_spl⟩⟩
theorem fput_any {h:Heap} {a:Option Addr} {c p m n:Nat} {l:List UInt8} {D:Nat→Prop} (ok:Hp h D [capI 1 5 (a,m,c) (l.map bv)] [] h) (hp:p+4≤l.length) (hn:n<4294967296) (hl:l.length≤1000000) :
  HC Tryz.prog 77 #[.slice a m c,.int .i64 (p:Int),.int .i64 (n:Int)] h (fun v h'=>v=.tuple #[]∧Hp h D [capI 1 5 (a,m,c) ((put4 l p n).map bv)] [] h'):=by
 obtain rfl:m=l.length:=ok.lenB;exact fput0_any ok hp hn hl
theorem feach_any {h:Heap} {mb ob hb N:Nat} {H:Hd} {F:Nat→Prop} {out:List Int} {no:Int} (ok:Hp h F [eachI mb ob hb H F out] [] h) (hN:H.pages=(N:Int)) (ho:out.length≤1000000) :
  HC Tryz.prog 123 #[.int .i64 no,.pointer (some ⟨mb,0,none⟩),.pointer (some ⟨ob,0,none⟩),.pointer (some ⟨hb,0,none⟩)] h (fun v h'=>v=.bool (frOk N out no)∧∃F',Hp h F [eachI mb ob hb H F' (out++[no])] [] h'):=by
 obtain ⟨mm,l,a,c,hc,ok,hf⟩:=each_open ok;generalize (starI (eachL mb ob hb H mm l a c out)).F=DF at ok hf;have ok:Hp h DF [boxI mb 180 [.map (some mm)],mapI (Value.int .i64) mm (atE l),boxI ob 24 [.slice a out.length c],capI 1 3 (a,out.length,c) (out.map iv),boxI hb 38 [.int .i64 H.size,.int .i64 H.pages,.int .i64 H.free,.int .i64 H.many,.int .i64 H.cookie,.int .i64 H.version]] [] h:=ok;have hcn:=hc no;have hcl:out.count no≤out.length:=List.count_le_length;have hcm:no∉out→out.count no=0:=fun h=>List.count_eq_zero.2 h;refine HC.go Tryz.func123 28 ?_;refine .seq<|.r<|.z .asB<|.nil ?_;refine .seq<|.r<|.z (.ldx T.ag180 ok.m0)<|.z .mvI<|.z (.lk (KV.int .i64) no (v:=.int .i64 ((out.count no:Nat):Int)) T.mp180 (inB_iff T.in3) T.zr3 ok.m1 (by rw [at_get,hcn]))<|.z (.addI (b:=1))<|.ur' (.mpu (KV.int .i64) V.sbI no (v:=iv' (out.count no+1)) T.mp180 (inB_iff T.in3) ok.n1) ?_;rintro η1 ok;rw [atE_put] at ok;refine .nil ?_;refine .seq<|.r<|.z (.ldx T.ag24 ok.m2)<|.z .mvI<|.a' 12 (.lit [.tmp 11] (cs:=[.int .i64 no]) T.el24 T.sz3 T.zr3 ok ⟨rfl,trivial⟩) ?_;rintro _ η2 ⟨pb1,rfl,ok,xe⟩;refine .a' 13 (.app (news:=[.int .i64 no]) T.el24 T.sz3 T.by3 T.zr3 ok.n4 (ok.n4.m1).sl (oneL rfl) (by simp only [List.length_map,List.length_cons,List.length_nil];omega)) ?_;rintro _ η3 ⟨ya1,yn1,yc1,rfl,ok,ap⟩;have ok:=(ok).cx (ys:=(out++[no]).map iv) snocI;obtain rfl:yn1=(out++[no]).length:=ok.lenI;refine .ur' (.stS T.sz24 ok.n4) ?_;rintro η4 ⟨ok,cg⟩;refine .nil ?_;refine .seq<|.r<|.z .mvI<|.z .geq<|.z .mvB<|.sd (fun G16=>?_) (fun G16=>?_)
 ·
  refine .z .mvI<|.z (.fa T.fd38_1)<|.z (.ldx T.ag3 ok.m5)<|.z .leq<|.z .pkt<|.z .mvB<|.sd (fun G22=>?_) (fun G22=>?_)
  ·
   refine .z (.ldx T.ag180 ok.m4)<|.z .mvI<|.z (.lk (KV.int .i64) no (v:=.int .i64 ((out.count no+1:Nat):Int)) T.mp180 (inB_iff T.in3) T.zr3 ok.m3 (by rw [at_get,mget_mput,if_pos rfl];rfl))<|.z .eql<|.z .pkt<|.z .asB<|.nil ?_;refine .ret ⟨.bool (decide (((out.count no+1:Nat):Int)=1)),Res.one rfl rfl,⟨congrArg Value.bool (decide_eq_decide.2 ⟨fun h=>⟨by omega,by omega,List.count_eq_zero.1 (by omega)⟩,fun h=>by have:=hcm h.2.2;omega⟩),_,each_close (M:=[]) (R:=[]) (ok.n5.n2.n2.n4.n5.k5) hf (cntM_put hc)⟩⟩
  refine .y<|.y<|.y<|.y<|.z .pkf<|.z .asB<|.nil ?_;refine .ret ⟨.bool false,Res.one rfl rfl,⟨congrArg Value.bool (Eq.symm (Bool.eq_false_iff.2 fun h=>by have:=frOk_iff.1 h;have:=hcm this.2.2;omega)),_,each_close (M:=[]) (R:=[]) (ok.n5.n2.n2.n4.n5.k5) hf (cntM_put hc)⟩⟩
 refine .y<|.y<|.y<|.y<|.z .pkf<|.z .mvB<|.y<|.y<|.y<|.y<|.z .pkf<|.z .asB<|.nil ?_;refine .ret ⟨.bool false,Res.one rfl rfl,⟨congrArg Value.bool (Eq.symm (Bool.eq_false_iff.2 fun h=>by have:=frOk_iff.1 h;have:=hcm this.2.2;omega)),_,each_close (M:=[]) (R:=[]) (ok.n5.n2.n2.n4.n5.k5) hf (cntM_put hc)⟩⟩
open Go Go.HL
theorem fpages_any {G:Pgr} {h:Heap} {so mb ob hb:Nat} {F Fe:Nat→Prop} {w:St} {H:Hd} {R:Option (List Int)} (ok:Hp h (starI [dsI G so F w,eachI mb ob hb H Fe []]).F [dsI G so F w,eachI mb ob hb H Fe []] [] h) (hN:H.pages=(w.pgs.length:Int)) (hR:frGo w.pgs ((w.z-8) / 4) (w.pgs.length+1) w.head.free []=R) :
  HC Tryz.prog 122 #[.pointer (some ⟨so,0,none⟩),.func (.func 123) #[] #[.pointer (some ⟨mb,0,none⟩),.pointer (some ⟨ob,0,none⟩),.pointer (some ⟨hb,0,none⟩)]] h (fun v h'=>∃(c:Nat) (F' Fe':Nat→Prop) (out:List Int),v=.int .i64 (c:Int)∧Hp h (starI [dsI G so F w,eachI mb ob hb H Fe []]).F [dsI G so F' w,eachI mb ob hb H Fe' out] [] h'∧((R=some out∧c=0)∨(R=none∧c=14))):=by
 have hso:=ds_ok ok.m0;have hzc:=okSz_c hso.z;have hfew:=St.few hso;refine HC.go Tryz.func122 49 ?_;refine .seq<|.r<|.z .asI<|.nil ?_;refine .seq<|.seq<|.r<|.z .mvP<|.c' 11 .func (sHead_any (G:=G) (w:=w) (ok).loc0) ?_;rintro _ η1 ⟨Fh1,rfl,q⟩;have ok:=(ok).lift1 q;rw [show w.head.val=.agg #[.int .i64 w.head.size,.int .i64 w.head.pages,.int .i64 w.head.free,.int .i64 w.head.many,.int .i64 w.head.cookie,.int .i64 w.head.version] from rfl];refine .z (.fd T.fd38_2 T.ag3)<|.z .asI<|.nil ?_;refine .block fun K0 hK0=>.loop (fun m s hh=>∃(at_:Int) (out:List Int) (f:Nat) (F1 Fe1:Nat→Prop),Has s [(0,.pointer (some ⟨so,0,none⟩)),(1,.func (.func 123) #[] #[.pointer (some ⟨mb,0,none⟩),.pointer (some ⟨ob,0,none⟩),.pointer (some ⟨hb,0,none⟩)]),(5,.int .i64 at_)]∧Hp h (starI [dsI G so F w,eachI mb ob hb H Fe []]).F [dsI G so F1 w,eachI mb ob hb H Fe1 out] [] hh∧Met w.pgs.length out∧frGo w.pgs ((w.z-8) / 4) f at_ out=R∧w.pgs.length+1≤out.length+f∧m=f*1) ?_ ?_
 ·exact ⟨_,w.head.free,[],w.pgs.length+1,Fh1,Fe,⟨rfl,rfl,rfl,trivial⟩,ok.n1.n1,Met.nil,hR,by simp,rfl⟩
 rintro _ _ η2 ⟨at_,out,f,F1,Fe1,hs,ok,hm,hg,hf,rfl⟩ J0 hJ0;refine .frame hs fun τ=>?_;refine .seq<|.seq<|?_;have hlen:=hm.len;obtain ⟨f,rfl⟩:∃g,f=g+1:=⟨f-1,by omega⟩;refine .r<|.z .mvI<|.z .neq<|.nil ?_;refine .cdr (fun C0=>?_) (fun C0=>?_)
 ·
  have hat:at_=0:=Decidable.not_not.1 C0;refine .exit<|hK0 _ _<|.seq<|.r<|.z .asI<|.nil ?_;refine .ret ⟨.int .i64 0,Res.one rfl rfl,⟨0,F1,Fe1,out,rfl,(ok),.inl ⟨by rw [←hg,hat];exact frGo_0,rfl⟩⟩⟩
 refine .skip<|.block fun K1 hK1=>.seq<|.seq<|.r<|.z .mvF<|.z .mvI<|.c' 17 .dyn (feach_any (N:=w.pgs.length) (H:=H) (out:=out) (no:=at_) (ok.n1).loc0 hN (by first | omega | (have:=hmo.len;omega))) ?_;rintro _ η3 ⟨rfl,Fc1,q⟩;have ok:=(ok.n1).lift1 q;refine .z .not<|.nil ?_;refine .cond (fun C1=>?_) (fun C1=>?_)
 ·
  refine .seq<|.r<|.z .asI<|.nil ?_;refine .ret ⟨.int .i64 14,Res.one rfl rfl,⟨14,F1,Fc1,out++[at_],rfl,(ok.n1),.inr ⟨by rw [←hg];exact frGo_bad C0 (by simpa using C1),rfl⟩⟩⟩
 have hk0:frOk w.pgs.length out at_=true:=by simpa using C1
 obtain ⟨hk1a,hk2a,hk3a⟩:=frOk_iff.1 hk0;refine .skip<|.seq<|?_;obtain ⟨b,hbe⟩:∃b,b=(w.pgs.getD (at_-1).toNat []):=⟨_,rfl⟩;refine .r<|.z .mvP<|.z .mvI<|.c' 22 .func (sReadOk_any (G:=G) (w:=w) (no:=at_) (b:=b) (ok.n1).loc0 (by omega) (by omega) hbe) ?_;rintro _ η4 ⟨Fr1,xr1,cr1,rfl,hlr1,q⟩;have ok:=(ok.n1).lift2 q;refine .z .mvU<|.z .ex<|.z .ex<|.z .asS<|.z .asI<|.nil ?_;refine .seq<|.seq<|.r<|.z .mvI<|.z .neq<|.nil ?_;refine .cf<|.skip<|.seq<|.r<|.z .mvS<|.k 29 .func (fnum_any (p:=4) (a:=xr1) (c:=cr1) (l:=b) (RdL.ofCapB (v:=(xr1,b.length,cr1)) (l:=b) ok.m0) (by omega))<|.z .asI<|.nil ?_;refine .seq<|.seq<|.r<|.z .mvI<|.z .mvP<|.k 32 .func (froom_any (G:=G) (F:=Fr1) (w:=w) ok.m1)<|.z .gtr<|.nil ?_;refine .cd (fun C3=>?_) (fun C3=>?_)
 ·
  refine .seq<|.r<|.z .asI<|.nil ?_;refine .ret ⟨.int .i64 14,Res.one rfl rfl,⟨14,Fr1,Fc1,out++[at_],rfl,(ok.n2.n2.k2),.inr ⟨by rw [←hg];exact frGo_many C0 hk0 (by rw [←hbe];omega),rfl⟩⟩⟩
 refine .skip<|.seq<|.seq<|.r<|.z .mvI<|.z .mvI<|.nil ?_;refine .block fun K2 hK2=>.loop (fun m s hh=>∃(i:Nat) (o:List Int) (Fe2:Nat→Prop),Has s [(0,.pointer (some ⟨so,0,none⟩)),(1,.func (.func 123) #[] #[.pointer (some ⟨mb,0,none⟩),.pointer (some ⟨ob,0,none⟩),.pointer (some ⟨hb,0,none⟩)]),(6,.slice xr1 b.length cr1),(34,.int .i64 (((rdN b 4 4):Nat):Int)),(35,.int .i64 (i:Int))]∧Hp h (starI [dsI G so F w,eachI mb ob hb H Fe []]).F [dsI G so Fr1 w,eachI mb ob hb H Fe2 o,capI 1 5 (xr1,b.length,cr1) (b.map bv)] [] hh∧Met w.pgs.length o∧frIn w.pgs.length ((frNums b).drop i) o=frIn w.pgs.length (frNums b) (out++[at_])∧i≤rdN b 4 4∧out.length+1≤o.length∧m=rdN b 4 4-i) ?_ ?_
 ·exact ⟨_,0,out++[at_],Fc1,⟨rfl,rfl,rfl,rfl,rfl,trivial⟩,ok.n2.n2,hm.snoc hk0,rfl,Nat.zero_le _,by simp,rfl⟩
 rintro _ _ η5 ⟨i,o,Fe2,hs,ok,hmo,hin,hi,hol,rfl⟩ J1 hJ1;refine .frame hs fun τ=>?_;refine .seq<|.r<|.z .lss<|.nil ?_;refine .seq<|.cdr (fun C4=>?_) (fun C4=>?_)
 ·
  refine .exit<|hK2 _ _<|?_;have hi3:i=rdN b 4 4:=by omega
  have hgo:frGo w.pgs ((w.z-8) / 4) f ((rdN b 0 4:Nat):Int) o=R:=by
   rw [←hg,frGo_in C0 hk0 (by rw [←hbe];omega),←hbe,←hin,hi3,List.drop_eq_nil_of_le (by rw [frNums_len];exact Nat.le_refl _),frIn_nil];rfl
  refine .r<|.z .mvS<|.k 48 .func (fnum_any (p:=0) (a:=xr1) (c:=cr1) (l:=b) (RdL.ofCapB (v:=(xr1,b.length,cr1)) (l:=b) ok.m2) (by omega))<|.z .asI<|.nil ?_;refine .end<|hK1 _ _<|.end<|hJ0 _ _ _ ⟨(((rdN b 0 4):Nat):Int),o,f,Fr1,Fe2,⟨rfl,rfl,rfl,trivial⟩,ok.n1.n1.k2,hmo,hgo,by omega,rfl⟩ (by omega)
 have hi2:i<rdN b 4 4:=by omega
 refine .skip<|.seq<|.block fun K3 hK3=>.seq<|.r<|.z .mvI<|.z .asI<|.nil ?_;refine .seq<|.r<|.z .mvF<|.z .mvS<|.z .mvI<|.z (.mulI (a:=4))<|.z (.addI (a:=8))<|.k 43 .func (fnum_any (p:=(8+(4*i))) (a:=xr1) (c:=cr1) (l:=b) (RdL.ofCapB (v:=(xr1,b.length,cr1)) (l:=b) ok.m2) (by omega))<|.c' 44 .dyn (feach_any (N:=w.pgs.length) (H:=H) (out:=o) (no:=(((rdN b (8+(4*i)) 4):Nat):Int)) (ok.n1).loc0 hN (by first | omega | (have:=hmo.len;omega))) ?_;rintro _ η6 ⟨rfl,Fc2,q⟩;have ok:=(ok.n1).lift1 q;refine .z .not<|.nil ?_;refine .cond (fun C5=>?_) (fun C5=>?_)
 ·
  refine .seq<|.r<|.z .asI<|.nil ?_;refine .ret ⟨.int .i64 14,Res.one rfl rfl,⟨14,Fr1,Fc2,o++[(((rdN b (8+(4*i)) 4):Nat):Int)],rfl,(ok.n1.k2),.inr ⟨by rw [←hg];exact (by rw [frGo_in C0 hk0 (by rw [←hbe];omega),←hbe,←hin,frNums_drop hi2,frIn_no (by simpa using C5)];rfl),rfl⟩⟩⟩
 have hk1:frOk w.pgs.length o ((rdN b (8+4*i) 4:Nat):Int)=true:=by simpa using C5
 refine .skip<|.end<|hK3 _ _<|.r<|.z (.addI (b:=1))<|.z .mvI<|.nil ?_;refine .end<|hJ1 _ _ _ ⟨i+1,o++[((rdN b (8+4*i) 4:Nat):Int)],Fc2,⟨rfl,rfl,rfl,rfl,rfl,trivial⟩,ok.n2.n1.n2,hmo.snoc hk1,by rw [←hin,frNums_drop hi2,frIn_ok hk1],by omega,by simp;omega,rfl⟩ (by omega)
open Go.RowKit Go.Sort Go.Shelf Go.MapKept
theorem HC.of_callsW {P:Program} {f:FuncId} {args:Array Value} {h:Heap} {R:Value→Heap→Prop} (hc:Callable P f) (hr:∀w:World,w.heap=h→Calls P f args w fun e w'=>∃v,e=.returned v∧(w'.os=w.os∧w'.tape=w.tape∧w'.output=w.output)∧R v w'.heap):HC P f args h R:=
 ⟨hc,fun _ w at'=>(hr w at'.heap).mono fun _ w' ⟨v,e,b,r⟩=>⟨v,w'.heap,e,⟨rfl,b.1.trans at'.os,b.2.1.trans at'.tape,b.2.2.trans at'.output⟩,r⟩⟩
theorem cells_put {cs:Array Value} {o:Nat} {S:List Int} (h:o+S.length≤cs.size):((putCells (Value.int .i64) o S.toArray cs).toList.drop o).take S.length=S.map iv:=by
 apply List.ext_getElem?;intro j;by_cases hj:j<S.length
 ·rw [List.getElem?_take_of_lt hj,List.getElem?_drop,Array.getElem?_toList];simp [putCells,hj,show o+j<cs.size by omega,iv]
 ·rw [List.getElem?_take_eq_none (by omega),List.getElem?_eq_none (by simp;omega)]
theorem sortI_any {h0 h:Heap} {D:Nat→Prop} {M R:List Itm} {a:Option Addr} {c:Nat} {ks:List Int} (ok:Hp h0 D (capI 1 3 (a,ks.length,c) (ks.map iv)::M) R h) (hl:ks.length≤1000000000000) :
  HC Tryz.prog 68 #[.slice a ks.length c] h (fun v h'=>∃S:List Int,v=.tuple #[]∧S.Perm ks∧S.Pairwise (·≤·)∧Hp h0 D (capI 1 3 (a,S.length,c) (S.map iv)::M) R h'):=
 HC.of_callsW ⟨_,Tryz.func68,by decide,rfl⟩ fun w hw=>by
  have hc:Cap h 1 3 (.slice a ks.length c) (ks.map iv):=ok.m0;have hml:(ks.mergeSort fun x y=>decide (x≤y)).length=ks.length:=List.length_mergeSort _;have hpw:(ks.mergeSort fun x y=>decide (x≤y)).Pairwise (·≤·):=by
   have:=List.pairwise_mergeSort (le:=fun x y:Int=>decide (x≤y)) (fun a b c h1 h2=>by simp at h1 h2⊢;omega) (fun a b=>by simp;omega) ks;exact this.imp fun h=>by simpa using h
  obtain ⟨a',n',c',hv,h1,h2,h3,h4⟩:=hc;injection hv with e1 e2 e3;subst e1 e2 e3;rcases h4 with ⟨rfl,rfl⟩ | ⟨b,o,cs,fz,rfl,hb,hs,hfz,hx⟩
  ·have hz:ks=[]:=List.eq_nil_of_length_eq_zero (by omega);subst hz;refine (AnyM.slices_Sort_int_none Tryz.sortA none 0 w).mono fun e w' ⟨h5,h6⟩=>?_;subst h6;exact ⟨_,h5,⟨rfl,rfl,rfl⟩,[],rfl,.refl _,.nil,by rw [hw];exact ok⟩
  ·have hwb:w.heap[b]? = some (.cells cs 3 fz):=by rw [hw];exact hb
   have hbl:b<w.heap.size:=(Array.getElem?_eq_some_iff.1 hwb).1;have hH:Holds (Value.int .i64) w b o ks.toArray:=by
    intro j hj;have hj':j<ks.length:=by simpa using hj
    refine ⟨?_,frozen?_eq hwb hfz (by omega)⟩;rw [cell?_eq,cell_of hwb,←Array.getElem?_toList];have h6:((cs.toList.drop o).take (ks.length*1))[j]? = (ks.map iv)[j]?:=by rw [hx]
    rw [Nat.mul_one,List.getElem?_take_of_lt hj',List.getElem?_drop] at h6;rw [h6];simp [hj',iv]
   refine (AnyM.slices_Sort_int Tryz.sortA b o c ks w hH hbl (by omega)).mono fun e w' ⟨h5,n,os,h6⟩=>?_;subst h6;have hkeep:∀k,k<w.heap.size→k≠b→(grow (putRow (Value.int .i64) (Sort.ahead w n) b o (ks.mergeSort fun x y=>decide (x≤y)).toArray) os).heap[k]? = w.heap[k]?:=fun k hk hne=>by
    rw [heap_grow_old _ _ (by simpa using hk)];simp [putRow,mapBlock,Sort.ahead,Array.getElem?_modify,Ne.symm hne]
   have hat:(grow (putRow (Value.int .i64) (Sort.ahead w n) b o (ks.mergeSort fun x y=>decide (x≤y)).toArray) os).heap[b]? = some (.cells (putCells (Value.int .i64) o (ks.mergeSort fun x y=>decide (x≤y)).toArray cs) 3 fz):=by
    rw [heap_grow_old _ _ (by simpa using hbl)];simp [putRow,mapBlock,Sort.ahead,Array.getElem?_modify,hwb,onCells]
   have hsz:w.heap.size≤(grow (putRow (Value.int .i64) (Sort.ahead w n) b o (ks.mergeSort fun x y=>decide (x≤y)).toArray) os).heap.size:=by simp
   have hch:Chg (fun j=>j=b) h (grow (putRow (Value.int .i64) (Sort.ahead w n) b o (ks.mergeSort fun x y=>decide (x≤y)).toArray) os).heap:=⟨by rw [←hw];exact hsz,fun k hk hne=>by rw [hkeep k (by rw [hw];exact hk) hne,hw]⟩;have hcap:Cap (grow (putRow (Value.int .i64) (Sort.ahead w n) b o (ks.mergeSort fun x y=>decide (x≤y)).toArray) os).heap 1 3 (.slice (some ⟨b,o,none⟩) (ks.mergeSort fun x y=>decide (x≤y)).length c) ((ks.mergeSort fun x y=>decide (x≤y)).map iv):=
    ⟨_,_,_,rfl,by omega,h2,by simp,.inr ⟨b,o,_,fz,rfl,hat,by simpa [putCells] using hs,by simpa [putCells] using hfz,by rw [Nat.mul_one];exact cells_put (by omega)⟩⟩
   exact ⟨_,h5,⟨rfl,rfl,rfl⟩,_,rfl,List.mergeSort_perm _ _,hpw,ok.upd hch (fun j (hj:j=b)=>hj▸⟨o,ks.length,c,rfl⟩) (capI 1 3 (some ⟨b,o,none⟩,(ks.mergeSort fun x y=>decide (x≤y)).length,c) _) hcap fun j hj=>.inl (by obtain ⟨o2,n2,c2,e⟩:=hj;injection e with e1;injection e1 with e1;injection e1 with e1;exact ⟨o,ks.length,c,by rw [←e1]⟩)⟩
theorem frL_n {w:St} (h:frAll w=none):frL w=[]∧frC w=14:=by unfold frL frC;rw [h];exact ⟨rfl,rfl⟩
theorem frL_s {w:St} {l:List Int} (h:frAll w=some l):frL w=l∧frC w=0:=by unfold frL frC;rw [h];exact ⟨rfl,rfl⟩
theorem frAll_n {w:St} (h:frGo w.pgs ((w.z-8) / 4) (w.pgs.length+1) w.head.free []=none):frAll w=none:=by unfold frAll;rw [h];rfl
theorem frAll_m {w:St} {l:List Int} (h:frGo w.pgs ((w.z-8) / 4) (w.pgs.length+1) w.head.free []=some l) (hm:(l.length:Int)≠w.head.many):frAll w=none:=by unfold frAll;rw [h];exact if_neg hm
theorem frAll_s {w:St} {l:List Int} (h:frGo w.pgs ((w.z-8) / 4) (w.pgs.length+1) w.head.free []=some l) (hm:(l.length:Int)=w.head.many):frAll w=some l:=by unfold frAll;rw [h];exact if_pos hm
theorem each_openM {h0 h:Heap} {mb ob hb:Nat} {H:Hd} {F D:Nat→Prop} {out:List Int} {M R:List Itm} (ok:Hp h0 D (eachI mb ob hb H F out::M) R h):∃mm l a c,Hp h0 D (eachL mb ob hb H mm l a c out++M) R h:=by
 obtain ⟨mm,l,a,c,q,f,n⟩:=ok.m0;exact ⟨mm,l,a,c,Hp.unstar (ok.re (starI (eachL mb ob hb H mm l a c out)) q f)⟩
theorem fall_any {G:Pgr} {h:Heap} {so:Nat} {F:Nat→Prop} {w:St} (ok:Hp h F [dsI G so F w] [] h) :
  HC Tryz.prog 67 #[.pointer (some ⟨so,0,none⟩)] h (fun v h'=>∃F' x c,v=.tuple #[.slice x (frL w).length c,.int .i64 ((frC w:Nat):Int)]∧Hp h F [capI 1 3 (x,(frL w).length,c) ((frL w).map iv),dsI G so F' w] [] h'):=by
 have hso:=ds_ok ok.m0;have hzc:=okSz_c hso.z;have hfew:=St.few hso;have hhr:=St.head_r hso;have hhp:=St.head_pages (w:=w);have hH:=hhr.size;have hHf:=hhr.free;have hHm:=hhr.many;have hHc:=hhr.cookie;have hHv:=hhr.version;refine HC.go Tryz.func67 25 ?_;refine .seq<|.r<|.z .asS<|.z .asI<|.nil ?_;refine .seq<|.r<|.z .mvP<|.c' 9 .func (sHead_any (G:=G) (w:=w) (ok).loc0) ?_;rintro _ η1 ⟨Fh1,rfl,q⟩;have ok:=(ok).lift1 q;rw [show w.head.val=.agg #[.int .i64 w.head.size,.int .i64 w.head.pages,.int .i64 w.head.free,.int .i64 w.head.many,.int .i64 w.head.cookie,.int .i64 w.head.version] from rfl];refine .a' 4 (.alA T.zr38 ok) ?_;rintro _ η2 ⟨pb1,rfl,ok,xe⟩;refine .ur' (.stW (vs:=[.int .i64 w.head.size,.int .i64 w.head.pages,.int .i64 w.head.free,.int .i64 w.head.many,.int .i64 w.head.cookie,.int .i64 w.head.version]) T.sz38 ok (oneL rfl)) ?_;rintro η3 ⟨ok,cg⟩;refine .nil ?_;refine .seq<|.r<|.a' 10 (.mkm (Value.int .i64) ok) ?_;rintro _ η4 ⟨mb1,rfl,ok⟩;refine .a' 5 (.alM T.zr180 ok) ?_;rintro _ η5 ⟨pb2,rfl,ok,xe⟩;refine .ur' (.stM T.sz180 ok) ?_;rintro η6 ⟨ok,cg⟩;refine .nil ?_;refine .seq<|.r<|.a' 6 (.alS T.zr24 ok) ?_;rintro _ η7 ⟨pb3,rfl,ok,xe⟩;refine .nil ?_;refine .seq<|?_;have ok:=ok.nilC (k:=1) (e:=3);obtain ⟨D0,ok0⟩:∃D0,Hp h F (eachI pb2 pb3 pb1 w.head D0 []::[dsI G so Fh1 w]) [] _:=⟨_,each_close (out:=[]) (l:=[]) (H:=w.head) (F:=F) (ok.n4.n1.n2.n4.n4) (fun _ h=>h) cntM_nil⟩;refine .r<|.z .mvP<|.z (.mkf (vs:=[.pointer (some ⟨pb2,0,none⟩),.pointer (some ⟨pb3,0,none⟩),.pointer (some ⟨pb1,0,none⟩)]))<|.c' 13 .func (fpages_any (G:=G) (w:=w) (H:=w.head) (Hp.locL [dsI G so Fh1 w,eachI pb2 pb3 pb1 w.head D0 []] ok0.n1) St.head_pages rfl) ?_;rintro _ η8 ⟨cp1,Fp1,Ep1,op1,rfl,q,hRp1⟩;have ok:=Hp.liftL [dsI G so Fh1 w,eachI pb2 pb3 pb1 w.head D0 []] ok0.n1 q;refine .z .asI<|.nil ?_;refine .seq<|.block fun K0 hK0=>.seq<|.r<|.z .mvI<|.z .neq<|.z .asB<|.nil ?_;refine .cd (fun C0=>?_) (fun C0=>?_)
 ·
  refine .seq<|.r<|.z .mvI<|.z .asS<|.z .asI<|.nil ?_;obtain ⟨hRn,hz⟩:=hRp1.resolve_left (fun h=>by have:=h.2;omega);obtain ⟨hl0,hc0⟩:=frL_n (frAll_n hRn);have ok:=ok.nilC (k:=1) (e:=3);refine .ret ⟨.tuple #[.slice none 0 0,.int .i64 (cp1:Int)],Res.two rfl rfl rfl,⟨_,none,0,by rw [hl0,hc0,hz];rfl,by rw [hl0];exact (ok).k2⟩⟩
 obtain ⟨hRs,hz⟩:=hRp1.resolve_right (fun h=>by have:=h.2;omega);obtain ⟨mm2,l2,a2,c2,ok⟩:=each_openM (ok.n1);have ok:Hp h F [boxI pb2 180 [.map (some mm2)],mapI (Value.int .i64) mm2 (atE l2),boxI pb3 24 [.slice a2 op1.length c2],capI 1 3 (a2,op1.length,c2) (op1.map iv),boxI pb1 38 [.int .i64 w.head.size,.int .i64 w.head.pages,.int .i64 w.head.free,.int .i64 w.head.many,.int .i64 w.head.cookie,.int .i64 w.head.version],dsI G so Fp1 w] [] _:=ok;refine .seq<|.r<|.z (.ldx T.ag24 ok.m2)<|.z (.len T.el24)<|.z (.fa T.fd38_3)<|.z (.ldx T.ag3 ok.m4)<|.z .neq<|.z .asB<|.nil ?_;refine .cd (fun C1=>?_) (fun C1=>?_)
 ·
  refine .seq<|.r<|.z .asS<|.z .asI<|.nil ?_;obtain ⟨hl0,hc0⟩:=frL_n (frAll_m hRs (by omega));have ok:=ok.nilC (k:=1) (e:=3);refine .ret ⟨.tuple #[.slice none 0 0,.int .i64 14],Res.two rfl rfl rfl,⟨_,none,0,by rw [hl0,hc0];rfl,by rw [hl0];exact (ok.n6.n1).k2⟩⟩
 refine .skip<|.end<|hK0 _ _<|.seq<|.r<|.z (.ldx T.ag24 ok.m2)<|.z .asS<|.z .asI<|.nil ?_;obtain ⟨hl0,hc0⟩:=frL_s (frAll_s hRs (by omega));refine .ret ⟨.tuple #[.slice a2 op1.length c2,.int .i64 0],Res.two rfl rfl rfl,⟨_,a2,c2,by rw [hl0,hc0];rfl,by rw [hl0];exact (ok.n5.n4).k2⟩⟩
theorem frOp_10 {w:St} (h:w.in_=false):frOp w=([],10):=if_pos h
theorem frOp_4 {w:St} (h:w.in_=true) (h2:w.pgs.length=0):frOp w=([],4):=by unfold frOp;rw [if_neg (by rw [h];decide),if_pos h2]
theorem frOp_l {w:St} (h:w.in_=true) (h2:w.pgs.length≠0):frOp w=(frL w,frC w):=by unfold frOp;rw [if_neg (by rw [h];decide),if_neg h2]
theorem frL_few {w:St} (k:StOk w):(frL w).length≤65536:=by
 have hf:=St.few k;unfold frL;cases h:frAll w with
 | none=>show ([]:List Int).length≤_;simp
 | some l=>
  show l.length≤_;have hm:=(St.head_r k).many;unfold frAll at h;cases hg:frGo w.pgs ((w.z-8) / 4) (w.pgs.length+1) w.head.free [] with
  | none=>rw [hg] at h;cases h
  | some l'=>
   rw [hg] at h;have h2:(if (l'.length:Int)=w.head.many then some l' else none)=some l:=h;split at h2
   ·injection h2 with h2;subst h2;have:=(frGo_met _ _ _ Met.nil hg).len;omega
   ·cases h2
theorem fopen_any {G:Pgr} {h:Heap} {so:Nat} {F:Nat→Prop} {w:St} (ok:Hp h F [dsI G so F w] [] h) :
  HC Tryz.prog 73 #[.pointer (some ⟨so,0,none⟩)] h (fun v h'=>∃F' x c,v=.tuple #[.slice x ((frOp w).1).length c,.int .i64 (((frOp w).2:Nat):Int)]∧Hp h F [capI 1 3 (x,((frOp w).1).length,c) (((frOp w).1).map iv),dsI G so F' w] [] h'):=by
 have hso:=ds_ok ok.m0;have hzc:=okSz_c hso.z;have hfew:=St.few hso;have hhr:=St.head_r hso;have hhp:=St.head_pages (w:=w);have hH:=hhr.size;have hHf:=hhr.free;have hHm:=hhr.many;have hHc:=hhr.cookie;have hHv:=hhr.version;refine HC.go Tryz.func73 20 ?_;refine .seq<|.r<|.z .asS<|.z .asI<|.nil ?_;refine .seq<|.block fun K0 hK0=>.seq<|.r<|.z .mvP<|.z (.pEqS T.pt27)<|.z .asB<|.nil ?_;refine .cf<|.seq<|.r<|.z .mvP<|.k 9 .func (sIn_any (G:=G) (F:=F) (w:=w) ok.m0)<|.z .not<|.z .asB<|.nil ?_;refine .cond (fun C1=>?_) (fun C1=>?_)
 ·
  refine .seq<|.r<|.z .asS<|.z .asI<|.nil ?_;have ok:=ok.nilC (k:=1) (e:=3);refine .ret ⟨.tuple #[.slice none 0 0,.int .i64 10],Res.two rfl rfl rfl,⟨_,none,0,by rw [frOp_10 (by simpa using C1)]<;>rfl,by rw [frOp_10 (by simpa using C1)];exact ok⟩⟩
 refine .seq<|.r<|.z .mvP<|.c' 13 .func (sHead_any (G:=G) (w:=w) (ok).loc0) ?_;rintro _ η1 ⟨Fh1,rfl,q⟩;have ok:=(ok).lift1 q;rw [show w.head.val=.agg #[.int .i64 w.head.size,.int .i64 w.head.pages,.int .i64 w.head.free,.int .i64 w.head.many,.int .i64 w.head.cookie,.int .i64 w.head.version] from rfl];refine .z (.fd T.fd38_1 T.ag3)<|.z .eql<|.z .asB<|.nil ?_;refine .cd (fun C2=>?_) (fun C2=>?_)
 ·
  refine .seq<|.r<|.z .asS<|.z .asI<|.nil ?_;have ok:=ok.nilC (k:=1) (e:=3);refine .ret ⟨.tuple #[.slice none 0 0,.int .i64 4],Res.two rfl rfl rfl,⟨_,none,0,by rw [frOp_4 (by simpa using C1) (by omega)]<;>rfl,by rw [frOp_4 (by simpa using C1) (by omega)];exact ok⟩⟩
 refine .skip<|.end<|hK0 _ _<|.seq<|.r<|.z .mvP<|.c' 17 .func (fall_any (G:=G) (w:=w) (ok).loc0) ?_;rintro _ η2 ⟨Fl1,xl1,cl1,rfl,q⟩;have ok:=(ok).lift2 q;refine .z .ex<|.z .ex<|.z .asS<|.z .asI<|.nil ?_;refine .ret ⟨.tuple #[.slice xl1 ((frL w).length) cl1,.int .i64 ((frC w:Nat):Int)],Res.two rfl rfl rfl,⟨_,xl1,cl1,by rw [frOp_l (by simpa using C1) (by omega)]<;>rfl,by rw [frOp_l (by simpa using C1) (by omega)];exact ok⟩⟩
theorem flist_any {G:Pgr} {h:Heap} {so:Nat} {F:Nat→Prop} {w:St} (ok:Hp h F [dsI G so F w] [] h) :
  HC Tryz.prog 17 #[.pointer (some ⟨so,0,none⟩)] h (fun v h'=>∃F' x c,∃S:List Int,S.Perm (frL w)∧S.Pairwise (·≤·)∧v=.tuple #[.slice x S.length c,.int .i64 ((frC w:Nat):Int)]∧Hp h F [capI 1 3 (x,S.length,c) (S.map iv),dsI G so F' w] [] h'):=by
 have hso:=ds_ok ok.m0;have hzc:=okSz_c hso.z;have hfew:=St.few hso;have hhr:=St.head_r hso;have hhp:=St.head_pages (w:=w);have hH:=hhr.size;have hHf:=hhr.free;have hHm:=hhr.many;have hHc:=hhr.cookie;have hHv:=hhr.version;refine HC.go Tryz.func17 17 ?_;refine .seq<|.r<|.z .asS<|.z .asI<|.nil ?_;refine .seq<|.seq<|.r<|.z .mvP<|.z (.pEqS T.pt27)<|.nil ?_;refine .cf<|.skip<|.seq<|.r<|.z .mvP<|.c' 10 .func (fall_any (G:=G) (w:=w) (ok).loc0) ?_;rintro _ η1 ⟨Fl1,xl1,cl1,rfl,q⟩;have ok:=(ok).lift2 q;refine .z .mvU<|.z .ex<|.z .ex<|.z .asS<|.z .asI<|.nil ?_;refine .seq<|.r<|.z .mvS<|.c' 14 .func (sortI_any (a:=xl1) (c:=cl1) (ks:=(frL w)) (ok) (by have:=frL_few hso;omega)) ?_;rintro _ η2 ⟨S,rfl,hSp,hSs,ok⟩;rw [hSp.length_eq] at ok;refine .nil ?_;refine .seq<|.r<|.z .mvS<|.z .mvI<|.z .asS<|.z .asI<|.nil ?_;refine .ret ⟨.tuple #[.slice xl1 ((frL w).length) cl1,.int .i64 ((frC w:Nat):Int)],Res.two rfl rfl rfl,⟨_,xl1,cl1,S,hSp,hSs,by rw [hSp.length_eq],by rw [hSp.length_eq];exact ok⟩⟩
theorem fheaded_any {G:Pgr} {h:Heap} {so:Nat} {F:Nat→Prop} {w:St} {f m:Int} (ok:Hp h F [dsI G so F w] [] h) (hf:0≤f∧f≤4294967296) (hm : -1≤m∧m≤4294967296) :
  HC Tryz.prog 78 #[.pointer (some ⟨so,0,none⟩),.int .i64 f,.int .i64 m] h (fun v h'=>∃F',v=.int .i64 (((hdd w f m).2:Nat):Int)∧Hp h F [dsI G so F' (hdd w f m).1] [] h'):=by
 have hso:=ds_ok ok.m0;have hzc:=okSz_c hso.z;have hfew:=St.few hso;have hhr:=St.head_r hso;have hhp:=St.head_pages (w:=w);have hH:=hhr.size;have hHf:=hhr.free;have hHm:=hhr.many;have hHc:=hhr.cookie;have hHv:=hhr.version;refine HC.go Tryz.func78 17 ?_;refine .seq<|.r<|.z .asI<|.nil ?_;refine .seq<|.r<|.z .mvP<|.c' 9 .func (sHead_any (G:=G) (w:=w) (ok).loc0) ?_;rintro _ η1 ⟨Fh1,rfl,q⟩;have ok:=(ok).lift1 q;rw [show w.head.val=.agg #[.int .i64 w.head.size,.int .i64 w.head.pages,.int .i64 w.head.free,.int .i64 w.head.many,.int .i64 w.head.cookie,.int .i64 w.head.version] from rfl];refine .a' 7 (.alA T.zr38 ok) ?_;rintro _ η2 ⟨pb1,rfl,ok,xe⟩;refine .ur' (.stW (vs:=[.int .i64 w.head.size,.int .i64 w.head.pages,.int .i64 w.head.free,.int .i64 w.head.many,.int .i64 w.head.cookie,.int .i64 w.head.version]) T.sz38 ok (oneL rfl)) ?_;rintro η3 ⟨ok,cg⟩;refine .nil ?_;refine .seq<|.r<|.z .mvI<|.z .mvI<|.z (.fa T.fd38_2)<|.ur' (.stI T.sz3 ok) ?_;rintro η4 ⟨ok,cg⟩;refine .z (.fa T.fd38_3)<|.ur' (.stI T.sz3 ok) ?_;rintro η5 ⟨ok,cg⟩;refine .nil ?_;refine .seq<|.r<|.z .mvP<|.z (.ldb T.ag38 ok.m0 T.sz38)<|.c' 16 .func (sSetHead_any (G:=G) (w:=w) (H:=(⟨w.head.size,w.head.pages,f,m,w.head.cookie,w.head.version⟩:Hd)) (ok.n1).loc0 ⟨⟨by show _≤w.head.size;omega,by show w.head.size≤_;omega⟩,⟨by show _≤w.head.pages;omega,by show w.head.pages≤_;omega⟩,⟨by show _≤f;omega,by show f≤_;omega⟩,⟨by show _≤m;omega,by show m≤_;omega⟩,⟨by show _≤w.head.cookie;omega,by show w.head.cookie≤_;omega⟩,⟨by show _≤w.head.version;omega,by show w.head.version≤_;omega⟩⟩) ?_;rintro _ η6 ⟨Fs1,rfl,q⟩;have ok:=(ok.n1).lift1 q;refine .z .asI<|.nil ?_;refine .ret ⟨.int .i64 (((w.setHead (⟨w.head.size,w.head.pages,f,m,w.head.cookie,w.head.version⟩:Hd)).2:Nat):Int),Res.one rfl rfl,⟨_,rfl,(ok).k1⟩⟩
theorem ix_iff {v:Int} {l:List Int} : 0≤ixOf v l↔v∈l:=⟨fun h=>Classical.byContradiction fun hn=>by rw [ixOf_none hn] at h;omega,fun h=>Classical.byContradiction fun hn=>ixOf_lt (by omega) h⟩
theorem zer_len {z:Nat} : (zer z).length=z:=List.length_replicate
theorem contains_any {h:Heap} {F E:Nat→Prop} {a:Option Addr} {c:Nat} {l:List Int} {v:Int} (hl:RdL h F E (a,l.length,c) l) (hN:l.length≤1000000) :
  HC Tryz.prog 74 #[.slice a l.length c,.int .i64 v] h (fun r h'=>r=.bool (decide (v∈l))∧h'=h):=by
 refine HC.go Tryz.func74 9 ?_;refine .seq<|.r<|.z .asB<|.nil ?_;refine .seq<|.r<|.z .mvS<|.z .mvI<|.k 7 .func (index_any (a:=a) (n:=l.length) (c:=c) (v:=v) (l:=l) (RdL.ints (x:=(a,l.length,c)) hl))<|.z .geq<|.z .asB<|.nil ?_;refine .ret ⟨.bool (decide (0≤(ixOf v l))),Res.one rfl rfl,⟨by rw [decide_eq_decide.2 ix_iff],rfl⟩⟩
theorem frGrow_5 {w:St} (h:16777216 / (w.z:Int)<(w.pgs.length:Int)+1):frGrow w=(w,0,5):=if_pos h
theorem frGrow_e {w:St} (h:¬16777216 / (w.z:Int)<(w.pgs.length:Int)+1) (h2:(w.write ((w.pgs.length:Int)+1) (zer w.z)).2≠0):frGrow w=((w.write ((w.pgs.length:Int)+1) (zer w.z)).1,0,(w.write ((w.pgs.length:Int)+1) (zer w.z)).2):=by unfold frGrow;rw [if_neg h,if_pos h2]
theorem frGrow_h {w:St} (h:¬16777216 / (w.z:Int)<(w.pgs.length:Int)+1) (h2:(w.write ((w.pgs.length:Int)+1) (zer w.z)).2=0):frGrow w=((hdd (w.write ((w.pgs.length:Int)+1) (zer w.z)).1 0 0).1,(w.pgs.length:Int)+1,(hdd (w.write ((w.pgs.length:Int)+1) (zer w.z)).1 0 0).2):=by unfold frGrow;rw [if_neg h,if_neg (by rw [h2];decide)]
theorem fgrow_any {G:Pgr} {h:Heap} {so:Nat} {F:Nat→Prop} {w:St} (ok:Hp h F [dsI G so F w] [] h) :
  HC Tryz.prog 80 #[.pointer (some ⟨so,0,none⟩)] h (fun v h'=>∃F',v=.tuple #[.int .i64 (frGrow w).2.1,.int .i64 (((frGrow w).2.2:Nat):Int)]∧Hp h F [dsI G so F' (frGrow w).1] [] h'):=by
 have hso:=ds_ok ok.m0;have hzc:=okSz_c hso.z;have hfew:=St.few hso;have hhr:=St.head_r hso;have hhp:=St.head_pages (w:=w);have hH:=hhr.size;have hHf:=hhr.free;have hHm:=hhr.many;have hHc:=hhr.cookie;have hHv:=hhr.version;refine HC.go Tryz.func80 27 ?_;refine .seq<|.r<|.z .asI<|.z .asI<|.nil ?_;refine .seq<|.r<|.z .mvP<|.c' 7 .func (sHead_any (G:=G) (w:=w) (ok).loc0) ?_;rintro _ η1 ⟨Fh1,rfl,q⟩;have ok:=(ok).lift1 q;rw [show w.head.val=.agg #[.int .i64 w.head.size,.int .i64 (w.pgs.length:Int),.int .i64 w.head.free,.int .i64 w.head.many,.int .i64 w.head.cookie,.int .i64 w.head.version] from (by rw [←St.head_pages];rfl)];refine .z (.fd T.fd38_1 T.ag3)<|.z .add<|.z .asI<|.nil ?_;refine .seq<|.seq<|.r<|.z .mvI<|.z .mvP<|.k 12 .func (sSize_any (G:=G) (F:=Fh1) (w:=w) ok.m0)<|.z .quo<|.z .gtr<|.nil ?_;refine .cd (fun C0=>?_) (fun C0=>?_)
 ·
  refine .seq<|.r<|.z .asI<|.z .asI<|.nil ?_;refine .ret ⟨.tuple #[.int .i64 0,.int .i64 5],Res.two rfl rfl rfl,⟨_,by rw [frGrow_5 (by omega)]<;>rfl,by rw [frGrow_5 (by omega)];exact (ok)⟩⟩
 refine .skip<|.seq<|.seq<|.r<|.z .mvP<|.z .mvI<|.z .mvP<|.k 18 .func (sSize_any (G:=G) (F:=Fh1) (w:=w) ok.m0)<|.a' 19 (.mks w.z w.z T.el44 T.sz5 T.by5 T.zr5 ok (hnm:=by omega)) ?_;rintro _ η2 ⟨pb1,rfl,ok,xe⟩;have ok:=ok.cx (ys:=(List.replicate w.z (0:UInt8)).map bv) (zeros8 _);refine .c' 20 .func (sWriteC_any (G:=G) (w:=w) (no:=((w.pgs.length:Int)+1)) (l:=(zer w.z)) (ok.n1) (by rw [zer_len];omega)) ?_;rintro _ η3 ⟨Fk1,rfl,q⟩;have ok:=(ok.n1).lift1 q;refine .z .asI<|.nil ?_;refine .seq<|.r<|.z .mvI<|.z .neq<|.nil ?_;refine .cd (fun C1=>?_) (fun C1=>?_)
 ·
  refine .seq<|.r<|.z .mvI<|.z .asI<|.z .asI<|.nil ?_;refine .ret ⟨.tuple #[.int .i64 0,.int .i64 (((w.write ((w.pgs.length:Int)+1) (zer w.z)).2:Nat):Int)],Res.two rfl rfl rfl,⟨_,by rw [frGrow_e (by omega) (by omega)]<;>rfl,by rw [frGrow_e (by omega) (by omega)];exact (ok).k1⟩⟩
 refine .skip<|.seq<|.r<|.z .mvI<|.z .mvP<|.c' 26 .func (fheaded_any (G:=G) (w:=(w.write ((w.pgs.length:Int)+1) (zer w.z)).1) (f:=0) (m:=0) (ok).loc0 (by omega) (by omega)) ?_;rintro _ η4 ⟨Fz1,rfl,q⟩;have ok:=(ok).lift1 q;refine .z .asI<|.z .asI<|.nil ?_;refine .ret ⟨.tuple #[.int .i64 ((w.pgs.length:Int)+1),.int .i64 (((hdd ((w.write ((w.pgs.length:Int)+1) (zer w.z)).1) 0 0).2:Nat):Int)],Res.two rfl rfl rfl,⟨_,by rw [frGrow_h (by omega) (by omega)]<;>rfl,by rw [frGrow_h (by omega) (by omega)];exact (ok).k1⟩⟩
section
variable {w:St}
theorem write_z {no:Int} {b:List UInt8} : (w.write no b).1.z=w.z:=by
 unfold St.write;split<;>(try rfl);split<;>(try rfl);split<;>rfl
theorem tkW_z:(tkW w).1.z=w.z:=by
 unfold tkW;split
 ·exact write_z
 ·rfl
theorem takeF_e (h:(frOp w).2≠0):takeF w=(w,0,(frOp w).2):=if_pos h
theorem takeF_g (h:(frOp w).2=0) (h2:(frOp w).1=[]):takeF w=toldF (frGrow w):=by unfold takeF;rw [if_neg (by rw [h];decide),if_pos h2]
theorem takeF_w (h:(frOp w).2=0) (h2:(frOp w).1≠[]) (h3:(tkW w).2≠0):takeF w=((tkW w).1,0,(tkW w).2):=by unfold takeF;rw [if_neg (by rw [h];decide),if_neg h2,if_pos h3]
theorem takeF_z (h:(frOp w).2=0) (h2:(frOp w).1≠[]) (h3:(tkW w).2=0) (h4:(tkZ w).2≠0):takeF w=((tkZ w).1,0,(tkZ w).2):=by unfold takeF;rw [if_neg (by rw [h];decide),if_neg h2,if_neg (by rw [h3];decide),if_pos h4]
theorem takeF_h (h:(frOp w).2=0) (h2:(frOp w).1≠[]) (h3:(tkW w).2=0) (h4:(tkZ w).2=0):takeF w=toldF ((tkH w).1,tkNo w,(tkH w).2):=by unfold takeF;rw [if_neg (by rw [h];decide),if_neg h2,if_neg (by rw [h3];decide),if_neg (by rw [h4];decide)]
theorem giveF_1 {no:Int} (h:w.in_=true) (h2:0<w.pgs.length) (h3:no<2∨(w.pgs.length:Int)<no):giveF w no=(w,1):=if_pos ⟨h,h2,h3⟩
theorem giveF_e {no:Int} (h:¬(w.in_=true∧0<w.pgs.length∧(no<2∨(w.pgs.length:Int)<no))) (h2:(frOp w).2≠0):giveF w no=(w,(frOp w).2):=by unfold giveF;rw [if_neg h,if_pos h2]
theorem giveF_7 {no:Int} (h:¬(w.in_=true∧0<w.pgs.length∧(no<2∨(w.pgs.length:Int)<no))) (h2:(frOp w).2=0) (h3:no∈(frOp w).1):giveF w no=(w,7):=by unfold giveF;rw [if_neg h,if_neg (by rw [h2];decide),if_pos h3]
theorem giveF_a {no:Int} (h:¬(w.in_=true∧0<w.pgs.length∧(no<2∨(w.pgs.length:Int)<no))) (h2:(frOp w).2=0) (h3:no∉(frOp w).1) (h4:w.head.free≠0) (h5:tkN w<(w.z-8) / 4):giveF w no=thenH (gvA w no) w.head.free (w.head.many+1):=by unfold giveF;rw [if_neg h,if_neg (by rw [h2];decide),if_neg h3,if_pos ⟨h4,h5⟩]
theorem giveF_b {no:Int} (h:¬(w.in_=true∧0<w.pgs.length∧(no<2∨(w.pgs.length:Int)<no))) (h2:(frOp w).2=0) (h3:no∉(frOp w).1) (h4:¬(w.head.free≠0∧tkN w<(w.z-8) / 4)):giveF w no=thenH (gvB w no) no (w.head.many+1):=by unfold giveF;rw [if_neg h,if_neg (by rw [h2];decide),if_neg h3,if_neg h4]
theorem thenH_e {x:St × Nat} {f m:Int} (h:x.2≠0):thenH x f m=x:=if_pos h
theorem thenH_0 {x:St × Nat} {f m:Int} (h:x.2=0):thenH x f m=hdd x.1 f m:=if_neg (by rw [h];decide)
end
theorem ftake_any {G:Pgr} {h:Heap} {so:Nat} {F:Nat→Prop} {w:St} (ok:Hp h F [dsI G so F w] [] h) :
  HC Tryz.prog 21 #[.pointer (some ⟨so,0,none⟩)] h (fun v h'=>∃F',v=.tuple #[.int .i64 (takeF w).2.1,.int .i64 (((takeF w).2.2:Nat):Int)]∧Hp h F [dsI G so F' (takeF w).1] [] h'):=by
 have hso:=ds_ok ok.m0;have hzc:=okSz_c hso.z;have hfew:=St.few hso;have hhr:=St.head_r hso;have hhp:=St.head_pages (w:=w);have hH:=hhr.size;have hHf:=hhr.free;have hHm:=hhr.many;have hHc:=hhr.cookie;have hHv:=hhr.version;refine HC.go Tryz.func21 92 ?_;refine .seq<|.r<|.z .asI<|.z .asI<|.nil ?_;refine .seq<|.r<|.z .mvP<|.c' 14 .func (fopen_any (G:=G) (w:=w) (ok).loc0) ?_;rintro _ η1 ⟨Fl1,xl1,cl1,rfl,q⟩;have ok:=(ok).lift2 q;refine .z .mvU<|.z .ex<|.z .ex<|.z .asS<|.z .asI<|.nil ?_;refine .seq<|.seq<|.r<|.z .mvI<|.z .neq<|.nil ?_;refine .cd (fun C0=>?_) (fun C0=>?_)
 ·
  refine .seq<|.r<|.z .mvI<|.z .asI<|.z .asI<|.nil ?_;refine .ret ⟨.tuple #[.int .i64 0,.int .i64 (((frOp w).2:Nat):Int)],Res.two rfl rfl rfl,⟨_,by rw [takeF_e (by omega)]<;>rfl,by rw [takeF_e (by omega)];exact (ok.n1).k1⟩⟩
 refine .skip<|.seq<|.seq<|.r<|.z .mvS<|.z (.len T.el24)<|.z .eql<|.nil ?_;refine .cd (fun C1=>?_) (fun C1=>?_)
 ·
  refine .seq<|.r<|.z .mvP<|.c' 24 .func (fgrow_any (G:=G) (w:=w) (ok.n1).loc0) ?_;rintro _ η2 ⟨Ft1,rfl,q⟩;have ok:=(ok.n1).lift1 q;refine .z .ex<|.z .ex<|.k 27 .func (ftold_any (no:=(frGrow w).2.1) (e:=(((frGrow w).2.2:Nat):Int)))<|.z .ex<|.z .ex<|.z .asI<|.z .asI<|.nil ?_;refine .ret ⟨.tuple #[.int .i64 (if (((frGrow w).2.2:Nat):Int)=0 then (frGrow w).2.1 else 0),.int .i64 (((frGrow w).2.2:Nat):Int)],Res.two rfl rfl rfl,⟨_,by rw [takeF_g (by omega) (List.eq_nil_of_length_eq_zero (by omega))];unfold toldF;simp only [Int.natCast_eq_zero],by rw [takeF_g (by omega) (List.eq_nil_of_length_eq_zero (by omega))];exact (ok).k1⟩⟩
 have hop:(frOp w).2=0:=by omega
 have hne:(frOp w).1≠[]:=fun h=>by rw [h] at C1;exact C1 rfl
 obtain ⟨hf1,hf2,hf3⟩:=frAll_1 (frOp_0 hop).2.2 hne;have hf3:(rdN (tkA w) 4 4)≤(w.z-8) / 4:=hf3;have hr4:=rdN_lt (l:=tkA w) (p:=0);have hr8:=rdN_lt (l:=tkA w) (p:=8+4*((rdN (tkA w) 4 4)-1));refine .skip<|.seq<|.r<|.z .mvP<|.c' 31 .func (sHead_any (G:=G) (w:=w) (ok.n1).loc0) ?_;rintro _ η3 ⟨Fh1,rfl,q⟩;have ok:=(ok.n1).lift1 q;rw [show w.head.val=.agg #[.int .i64 w.head.size,.int .i64 (w.pgs.length:Int),.int .i64 w.head.free,.int .i64 w.head.many,.int .i64 w.head.cookie,.int .i64 w.head.version] from (by rw [←St.head_pages];rfl)];refine .a' 6 (.alA T.zr38 ok) ?_;rintro _ η4 ⟨pb1,rfl,ok,xe⟩;refine .ur' (.stW (vs:=[.int .i64 w.head.size,.int .i64 (w.pgs.length:Int),.int .i64 w.head.free,.int .i64 w.head.many,.int .i64 w.head.cookie,.int .i64 w.head.version]) T.sz38 ok (oneL rfl)) ?_;rintro η5 ⟨ok,cg⟩;refine .nil ?_;refine .seq<|.r<|.z .mvP<|.z (.fa T.fd38_2)<|.z (.ldx T.ag3 ok.m0)<|.c' 36 .func (sReadOk_any (G:=G) (w:=w) (no:=w.head.free) (b:=(tkA w)) (ok.n1).loc0 (by omega) (by omega)) ?_;rintro _ η6 ⟨Fr1,xr1,cr1,rfl,hlr1,q⟩;have ok:=(ok.n1).lift2 q;refine .z .mvU<|.z .ex<|.z .ex<|.z .asS<|.z .asI<|.nil ?_;refine .seq<|.seq<|.r<|.z .mvI<|.z .neq<|.nil ?_;refine .cf<|.skip<|.seq<|.q (hm:=mixed)<|.z (.fa T.fd38_2)<|.z (.ldx T.ag3 ok.m2)<|.z (.fa T.fd38_2)<|.z (.ldx T.ag3 ok.m2)<|.z .asI<|.z .asI<|.nil ?_;refine .seq<|.seq<|.r<|.z .mvS<|.k 47 .func (fnum_any (p:=4) (a:=xr1) (c:=cr1) (l:=(tkA w)) (RdL.ofCapB (v:=(xr1,(tkA w).length,cr1)) (l:=(tkA w)) ok.m0) (by omega))<|.z .asI<|.nil ?_;refine .seq<|.r<|.z .mvI<|.z .gtr<|.nil ?_;refine .cd (fun C3=>?_) (fun C3=>?_)
 ·
  have hW:tkW w=w.write w.head.free (put4 (put4 (tkA w) (8+4*((rdN (tkA w) 4 4)-1)) 0) 4 ((rdN (tkA w) 4 4)-1)):=if_pos (show 0<(rdN (tkA w) 4 4) by omega);have hNo:tkNo w=((rdN (tkA w) (8+4*((rdN (tkA w) 4 4)-1)) 4:Nat):Int):=if_pos (show 0<(rdN (tkA w) 4 4) by omega);have hFr:tkFr w=w.head.free:=if_pos (show 0<(rdN (tkA w) 4 4) by omega);refine .seq<|.r<|.z .mvI<|.z .sub<|.z .mul<|.z .add<|?_;rw [show ((8+(4*((((rdN (tkA w) 4 4):Nat):Int)-1))):Int)=((8+4*((rdN (tkA w) 4 4)-1):Nat):Int) from by omega];refine .z .asI<|.nil ?_;refine .seq<|.r<|.z .mvS<|.z .mvI<|.k 56 .func (fnum_any (p:=8+4*((rdN (tkA w) 4 4)-1)) (a:=xr1) (c:=cr1) (l:=(tkA w)) (RdL.ofCapB (v:=(xr1,(tkA w).length,cr1)) (l:=(tkA w)) ok.m0) (by omega))<|.z .asI<|.nil ?_;refine .seq<|.r<|.z .mvS<|.z .mvI<|.c' 59 .func (fput_any (p:=8+4*((rdN (tkA w) 4 4)-1)) (n:=0) (l:=(tkA w)) (ok).loc0 (by first | omega | (rw [put4_len (by omega)];omega)) (by omega) (by first | omega | (rw [put4_len (by omega)];omega))) ?_;rintro _ η7 ⟨rfl,q⟩;have ok:=(ok).lift1 q;refine .nil ?_;refine .seq<|.r<|.z .mvS<|.z .mvI<|.z .sub<|?_;rw [show (((((rdN (tkA w) 4 4):Nat):Int)-1):Int)=(((rdN (tkA w) 4 4)-1:Nat):Int) from by omega];refine .c' 63 .func (fput_any (p:=4) (n:=(rdN (tkA w) 4 4)-1) (l:=(put4 (tkA w) (8+4*((rdN (tkA w) 4 4)-1)) 0)) (ok).loc0 (by first | omega | (rw [put4_len (by omega)];omega)) (by omega) (by first | omega | (rw [put4_len (by omega)];omega))) ?_;rintro _ η8 ⟨rfl,q⟩;have ok:=(ok).lift1 q;refine .nil ?_;refine .seq<|.r<|.z .mvP<|.z .mvI<|.z .mvS<|.c' 67 .func (sWriteC_any (G:=G) (w:=w) (no:=w.head.free) (l:=(put4 (put4 (tkA w) (8+4*((rdN (tkA w) 4 4)-1)) 0) 4 ((rdN (tkA w) 4 4)-1))) (ok.n1) (by first | (rw [zer_len];omega) | (rw [put4_len (by rw [put4_len (by omega)];omega),put4_len (by omega)];omega))) ?_;rintro _ η9 ⟨Fk1,rfl,q⟩;have ok:=(ok.n1).lift1 q;have hrl67:(w.write w.head.free (put4 (put4 (tkA w) (8+4*((rdN (tkA w) 4 4)-1)) 0) 4 ((rdN (tkA w) 4 4)-1)))=tkW w:=by rw [hW]
  rw [hrl67] at ok⊢;refine .z .asI<|.nil ?_;refine .seq<|.r<|.z .mvI<|.z .neq<|.nil ?_;refine .cd (fun C4=>?_) (fun C4=>?_)
  ·
   refine .seq<|.r<|.z .mvI<|.z .asI<|.z .asI<|.nil ?_;refine .ret ⟨.tuple #[.int .i64 0,.int .i64 ((tkW w).2:Int)],Res.two rfl rfl rfl,⟨_,by rw [takeF_w hop hne (by omega)]<;>rfl,by rw [takeF_w hop hne (by omega)];exact (ok).k1⟩⟩
  have hW0:(tkW w).2=0:=by omega
  refine .skip<|.seq<|.seq<|.r<|.z .mvP<|.z .mvI<|.z .mvP<|.k 76 .func (sSize_any (G:=G) (F:=Fk1) (w:=((tkW w).1)) ok.m0)<|?_;rw [tkW_z];refine .a' 77 (.mks w.z w.z T.el44 T.sz5 T.by5 T.zr5 ok) ?_;rintro _ η10 ⟨pb2,rfl,ok,xe⟩;have ok:=ok.cx (ys:=(List.replicate w.z (0:UInt8)).map bv) (zeros8 _);refine .c' 78 .func (sWriteC_any (G:=G) (w:=(tkW w).1) (no:=(((rdN (tkA w) (8+4*((rdN (tkA w) 4 4)-1)) 4):Nat):Int)) (l:=(zer w.z)) (ok.n1) (by first | (rw [zer_len];omega) | (rw [put4_len (by rw [put4_len (by omega)];omega),put4_len (by omega)];omega))) ?_;rintro _ η11 ⟨Fk2,rfl,q⟩;have ok:=(ok.n1).lift1 q;have hrl78:(((tkW w).1).write (((rdN (tkA w) (8+4*((rdN (tkA w) 4 4)-1)) 4):Nat):Int) (zer w.z))=tkZ w:=by unfold tkZ;rw [hNo]
  rw [hrl78] at ok⊢;refine .z .asI<|.nil ?_;refine .seq<|.r<|.z .mvI<|.z .neq<|.nil ?_;refine .cd (fun C5=>?_) (fun C5=>?_)
  ·
   refine .seq<|.r<|.z .mvI<|.z .asI<|.z .asI<|.nil ?_;refine .ret ⟨.tuple #[.int .i64 0,.int .i64 ((tkZ w).2:Int)],Res.two rfl rfl rfl,⟨_,by rw [takeF_z hop hne hW0 (by omega)]<;>rfl,by rw [takeF_z hop hne hW0 (by omega)];exact (ok).k1⟩⟩
  refine .skip<|.seq<|.r<|.z .mvI<|.z .mvP<|.z .mvI<|.z (.fa T.fd38_3)<|.z (.ldx T.ag3 ok.m3)<|.z .sub<|.c' 88 .func (fheaded_any (G:=G) (w:=(tkZ w).1) (f:=w.head.free) (m:=(w.head.many-1)) (ok).loc0 (by omega) (by omega)) ?_;rintro _ η12 ⟨Fz1,rfl,q⟩;have ok:=(ok).lift1 q;have hrl88:(hdd ((tkZ w).1) w.head.free (w.head.many-1))=tkH w:=by unfold tkH;rw [hFr]
  rw [hrl88] at ok⊢;refine .k 89 .func (ftold_any (no:=(((rdN (tkA w) (8+4*((rdN (tkA w) 4 4)-1)) 4):Nat):Int)) (e:=((tkH w).2:Int)))<|.z .ex<|.z .ex<|.z .asI<|.z .asI<|.nil ?_;refine .ret ⟨.tuple #[.int .i64 (if ((tkH w).2:Int)=0 then (((rdN (tkA w) (8+4*((rdN (tkA w) 4 4)-1)) 4):Nat):Int) else 0),.int .i64 ((tkH w).2:Int)],Res.two rfl rfl rfl,⟨_,by rw [takeF_h hop hne hW0 (by omega)];unfold toldF;simp only [hNo,Int.natCast_eq_zero],by rw [takeF_h hop hne hW0 (by omega)];exact (ok).k1⟩⟩
 have hW:tkW w=(w,0):=if_neg (show ¬0<(rdN (tkA w) 4 4) by omega);have hW0:(tkW w).2=0:=by rw [hW]
 have hNo:tkNo w=w.head.free:=if_neg (show ¬0<(rdN (tkA w) 4 4) by omega);have hFr:tkFr w=((rdN (tkA w) 0 4:Nat):Int):=if_neg (show ¬0<(rdN (tkA w) 4 4) by omega);refine .r<|.z .mvS<|.k 72 .func (fnum_any (p:=0) (a:=xr1) (c:=cr1) (l:=(tkA w)) (RdL.ofCapB (v:=(xr1,(tkA w).length,cr1)) (l:=(tkA w)) ok.m0) (by omega))<|.z .asI<|.nil ?_;refine .seq<|.seq<|.r<|.z .mvP<|.z .mvI<|.z .mvP<|.k 76 .func (sSize_any (G:=G) (F:=Fr1) (w:=w) ok.m1)<|.a' 77 (.mks w.z w.z T.el44 T.sz5 T.by5 T.zr5 ok) ?_;rintro _ η13 ⟨pb3,rfl,ok,xe⟩;have ok:=ok.cx (ys:=(List.replicate w.z (0:UInt8)).map bv) (zeros8 _);refine .c' 78 .func (sWriteC_any (G:=G) (w:=w) (no:=w.head.free) (l:=(zer w.z)) (ok.n2) (by first | (rw [zer_len];omega) | (rw [put4_len (by rw [put4_len (by omega)];omega),put4_len (by omega)];omega))) ?_;rintro _ η14 ⟨Fk3,rfl,q⟩;have ok:=(ok.n2).lift1 q;have hrl78:(w.write w.head.free (zer w.z))=tkZ w:=by unfold tkZ;rw [hNo,hW]
 rw [hrl78] at ok⊢;refine .z .asI<|.nil ?_;refine .seq<|.r<|.z .mvI<|.z .neq<|.nil ?_;refine .cd (fun C5=>?_) (fun C5=>?_)
 ·
  refine .seq<|.r<|.z .mvI<|.z .asI<|.z .asI<|.nil ?_;refine .ret ⟨.tuple #[.int .i64 0,.int .i64 ((tkZ w).2:Int)],Res.two rfl rfl rfl,⟨_,by rw [takeF_z hop hne hW0 (by omega)]<;>rfl,by rw [takeF_z hop hne hW0 (by omega)];exact (ok).k1⟩⟩
 refine .skip<|.seq<|.r<|.z .mvI<|.z .mvP<|.z .mvI<|.z (.fa T.fd38_3)<|.z (.ldx T.ag3 ok.m3)<|.z .sub<|.c' 88 .func (fheaded_any (G:=G) (w:=(tkZ w).1) (f:=(((rdN (tkA w) 0 4):Nat):Int)) (m:=(w.head.many-1)) (ok).loc0 (by omega) (by omega)) ?_;rintro _ η15 ⟨Fz2,rfl,q⟩;have ok:=(ok).lift1 q;have hrl88:(hdd ((tkZ w).1) (((rdN (tkA w) 0 4):Nat):Int) (w.head.many-1))=tkH w:=by unfold tkH;rw [hFr]
 rw [hrl88] at ok⊢;refine .k 89 .func (ftold_any (no:=w.head.free) (e:=((tkH w).2:Int)))<|.z .ex<|.z .ex<|.z .asI<|.z .asI<|.nil ?_;refine .ret ⟨.tuple #[.int .i64 (if ((tkH w).2:Int)=0 then w.head.free else 0),.int .i64 ((tkH w).2:Int)],Res.two rfl rfl rfl,⟨_,by rw [takeF_h hop hne hW0 (by omega)];unfold toldF;simp only [hNo,Int.natCast_eq_zero],by rw [takeF_h hop hne hW0 (by omega)];exact (ok).k1⟩⟩
theorem frOp_few {w:St} (k:StOk w):(frOp w).1.length≤65536:=by
 unfold frOp;split
 ·simp
 split
 ·simp
 ·exact frL_few k
theorem gvRange {w:St} {no:Int} (h:¬(w.in_=true∧0<w.pgs.length∧(no<2∨(w.pgs.length:Int)<no))) (hi:w.in_=true) (hp:w.pgs.length≠0):2≤no∧no≤(w.pgs.length:Int):=by
 refine ⟨Classical.byContradiction fun h2=>h ⟨hi,by omega,.inl (by omega)⟩,Classical.byContradiction fun h2=>h ⟨hi,by omega,.inr (by omega)⟩⟩
theorem frFree {w:St} (k:StOk w) {l:List Int} (h:frAll w=some l) (h0:w.head.free≠0):2≤w.head.free∧w.head.free≤(w.pgs.length:Int)∧tkN w≤(w.z-8) / 4:=by
 refine frAll_1 h fun e=>?_;subst e;unfold frAll at h;cases hg:frGo w.pgs ((w.z-8) / 4) (w.pgs.length+1) w.head.free [] with
 | none=>rw [hg] at h;cases h
 | some l'=>
  rw [hg] at h;have h2:(if (l'.length:Int)=w.head.many then some l' else none)=some []:=h;split at h2
  ·rename_i hm;injection h2 with h2;subst h2;have h3:=dec_many (w:=w) (by simpa using hm.symm);exact h0 h3
  ·cases h2
theorem fgive_any {G:Pgr} {h:Heap} {so:Nat} {F:Nat→Prop} {w:St} {no:Int} (ok:Hp h F [dsI G so F w] [] h) (hno : -9223372036854775808≤no∧no≤9223372036854775807) :
  HC Tryz.prog 19 #[.pointer (some ⟨so,0,none⟩),.int .i64 no] h (fun v h'=>∃F',v=.int .i64 (((giveF w no).2:Nat):Int)∧Hp h F [dsI G so F' (giveF w no).1] [] h'):=by
 have hso:=ds_ok ok.m0;have hzc:=okSz_c hso.z;have hfew:=St.few hso;have hhr:=St.head_r hso;have hhp:=St.head_pages (w:=w);have hH:=hhr.size;have hHf:=hhr.free;have hHm:=hhr.many;have hHc:=hhr.cookie;have hHv:=hhr.version;refine HC.go Tryz.func19 114 ?_;refine .seq<|.r<|.z .asI<|.nil ?_;refine .seq<|.seq<|.join (fun s hh=>∃(jb:Bool) (Fj:Nat→Prop),Has s [(0,.pointer (some ⟨so,0,none⟩)),(1,.int .i64 no),(34,.bool jb)]∧Hp h F [dsI G so Fj w] [] hh∧(jb=true↔(w.in_=true∧0<w.pgs.length∧(no<2∨(w.pgs.length:Int)<no)))) ?_ ?_
 ·
  refine .r<|.z .mvP<|.z (.pNeS T.pt27)<|.z .mvB<|.z .mvP<|.k 16 .func (sIn_any (G:=G) (F:=F) (w:=w) ok.m0)<|.z .pkt<|.z .mvB<|.spl (fun G18=>?_) (fun G18=>?_)
  ·
   refine .z .mvP<|.c' 20 .func (sHead_any (G:=G) (w:=w) (ok).loc0) ?_;rintro _ η1 ⟨Fh1,rfl,q⟩;have ok:=(ok).lift1 q;rw [show w.head.val=.agg #[.int .i64 w.head.size,.int .i64 (w.pgs.length:Int),.int .i64 w.head.free,.int .i64 w.head.many,.int .i64 w.head.cookie,.int .i64 w.head.version] from (by rw [←St.head_pages];rfl)];refine .z (.fd T.fd38_1 T.ag3)<|.z .gtr<|.z .pkt<|.z .mvB<|.sd (fun G24=>?_) (fun G24=>?_)
   ·
    refine .z .mvI<|.z .lss<|.z .mvB<|.sd (fun G27=>?_) (fun G27=>?_)
    ·
     refine .y<|.y<|.y<|.y<|.y<|.z .pkt<|.z .pkt<|.nil ?_;refine .end<|⟨true,Fh1,⟨rfl,rfl,rfl,trivial⟩,ok,by simp_all<;>omega⟩
    refine .z .mvI<|.z .mvP<|.c' 30 .func (sHead_any (G:=G) (w:=w) (ok).loc0) ?_;rintro _ η2 ⟨Fh2,rfl,q⟩;have ok:=(ok).lift1 q;rw [show w.head.val=.agg #[.int .i64 w.head.size,.int .i64 (w.pgs.length:Int),.int .i64 w.head.free,.int .i64 w.head.many,.int .i64 w.head.cookie,.int .i64 w.head.version] from (by rw [←St.head_pages];rfl)];refine .z (.fd T.fd38_1 T.ag3)<|.z .gtr<|.z .pkf<|.z .pkt<|.nil ?_;refine .end<|⟨(decide ((w.pgs.length:Int)<no)),Fh2,⟨rfl,rfl,rfl,trivial⟩,ok,by simp_all<;>omega⟩
   refine .y<|.y<|.y<|.y<|.y<|.y<|.y<|.y<|.y<|.z .pkf<|.nil ?_;refine .end<|⟨false,Fh1,⟨rfl,rfl,rfl,trivial⟩,ok,by simp_all<;>omega⟩
  refine .y<|.y<|.y<|.y<|.z .pkf<|.z .mvB<|.y<|.y<|.y<|.y<|.y<|.y<|.y<|.y<|.y<|.z .pkf<|.nil ?_;refine .end<|⟨false,F,⟨rfl,rfl,rfl,trivial⟩,ok,by simp_all<;>omega⟩
 rintro s η3 ⟨jb,Fj,hs,ok,hjb⟩;refine .frame hs fun τ=>?_;refine .cond (fun C0=>?_) (fun C0=>?_)
 ·
  have hgc:=hjb.1 C0;refine .seq<|.r<|.z .asI<|.nil ?_;refine .ret ⟨.int .i64 1,Res.one rfl rfl,⟨_,by rw [giveF_1 hgc.1 hgc.2.1 hgc.2.2]<;>rfl,by rw [giveF_1 hgc.1 hgc.2.1 hgc.2.2];exact (ok)⟩⟩
 have hna:¬(w.in_=true∧0<w.pgs.length∧(no<2∨(w.pgs.length:Int)<no)):=fun h=>by rw [hjb.2 h] at C0;cases C0
 refine .skip<|.seq<|.r<|.z .mvP<|.c' 37 .func (fopen_any (G:=G) (w:=w) (ok).loc0) ?_;rintro _ η4 ⟨Fl1,xl1,cl1,rfl,q⟩;have ok:=(ok).lift2 q;refine .z .mvU<|.z .ex<|.z .ex<|.z .asS<|.z .asI<|.nil ?_;refine .seq<|.block fun K0 hK0=>.seq<|.r<|.z .mvI<|.z .neq<|.z .asB<|.nil ?_;refine .cd (fun C1=>?_) (fun C1=>?_)
 ·
  refine .seq<|.r<|.z .mvI<|.z .asI<|.nil ?_;refine .ret ⟨.int .i64 (((frOp w).2:Nat):Int),Res.one rfl rfl,⟨_,by rw [giveF_e hna (by omega)]<;>rfl,by rw [giveF_e hna (by omega)];exact (ok.n1).k1⟩⟩
 refine .seq<|.r<|.z .mvS<|.z .mvI<|.k 47 .func (contains_any (v:=no) (a:=xl1) (c:=cl1) (l:=(frOp w).1) (RdL.ofInts (x:=(xl1,((frOp w).1).length,cl1)) (E:=none_) (ok.m0).sl) (by have:=frOp_few hso;omega))<|.z .asB<|.nil ?_;refine .cd (fun C2=>?_) (fun C2=>?_)
 ·
  refine .seq<|.r<|.z .asI<|.nil ?_;refine .ret ⟨.int .i64 7,Res.one rfl rfl,⟨_,by rw [giveF_7 hna (by omega) C2]<;>rfl,by rw [giveF_7 hna (by omega) C2];exact (ok.n1).k1⟩⟩
 have hop:(frOp w).2=0:=by omega
 have hni:no∉(frOp w).1:=C2;obtain ⟨hoi,hop2,hoa⟩:=frOp_0 hop;refine .skip<|.end<|hK0 _ _<|.seq<|.r<|.z .mvP<|.c' 49 .func (sHead_any (G:=G) (w:=w) (ok.n1).loc0) ?_;rintro _ η5 ⟨Fh3,rfl,q⟩;have ok:=(ok.n1).lift1 q;rw [show w.head.val=.agg #[.int .i64 w.head.size,.int .i64 (w.pgs.length:Int),.int .i64 w.head.free,.int .i64 w.head.many,.int .i64 w.head.cookie,.int .i64 w.head.version] from (by rw [←St.head_pages];rfl)];refine .a' 7 (.alA T.zr38 ok) ?_;rintro _ η6 ⟨pb1,rfl,ok,xe⟩;refine .ur' (.stW (vs:=[.int .i64 w.head.size,.int .i64 (w.pgs.length:Int),.int .i64 w.head.free,.int .i64 w.head.many,.int .i64 w.head.cookie,.int .i64 w.head.version]) T.sz38 ok (oneL rfl)) ?_;rintro η7 ⟨ok,cg⟩;refine .nil ?_;refine .seq<|.seq<|.r<|.z (.fa T.fd38_2)<|.z (.ldx T.ag3 ok.m0)<|.z .neq<|.nil ?_;refine .cd (fun C3=>?_) (fun C3=>?_)
 ·
  obtain ⟨hf1,hf2,hf3⟩:=frFree hso hoa C3;have hf3:(rdN (tkA w) 4 4)≤(w.z-8) / 4:=hf3;obtain ⟨k,rfl⟩:∃k:Nat,no=(k:Int):=⟨no.toNat,by have:=gvRange hna hoi hop2;omega⟩;have hkr:=gvRange hna hoi hop2;refine .seq<|.r<|.z .mvP<|.z (.fa T.fd38_2)<|.z (.ldx T.ag3 ok.m0)<|.c' 57 .func (sReadOk_any (G:=G) (w:=w) (no:=w.head.free) (b:=(tkA w)) (ok.n1).loc0 (by omega) (by omega)) ?_;rintro _ η8 ⟨Fr1,xr1,cr1,rfl,hlr1,q⟩;have ok:=(ok.n1).lift2 q;refine .z .mvU<|.z .ex<|.z .ex<|.z .asS<|.z .asI<|.nil ?_;refine .seq<|.seq<|.r<|.z .mvI<|.z .neq<|.nil ?_;refine .cf<|.skip<|.seq<|.r<|.z .mvS<|.k 64 .func (fnum_any (p:=4) (a:=xr1) (c:=cr1) (l:=(tkA w)) (RdL.ofCapB (v:=(xr1,(tkA w).length,cr1)) (l:=(tkA w)) ok.m0) (by omega))<|.z .asI<|.nil ?_;refine .seq<|.r<|.z .mvI<|.z .mvP<|.k 67 .func (froom_any (G:=G) (F:=Fr1) (w:=w) ok.m1)<|.z .lss<|.nil ?_;refine .cd (fun C5=>?_) (fun C5=>?_)
  ·
   refine .seq<|.r<|.z .mvS<|.z .mvI<|.z (.mulI (a:=4))<|.z (.addI (a:=8))<|?_;rw [show (((8+(4*(rdN (tkA w) 4 4)):Nat):Int):Int)=((8+4*(rdN (tkA w) 4 4):Nat):Int) from by omega];refine .z .mvI<|.c' 74 .func (fput_any (p:=8+4*(rdN (tkA w) 4 4)) (n:=k) (l:=(tkA w)) (ok).loc0 (by first | omega | (rw [put4_len (by omega)];omega) | (rw [zer_len];omega)) (by omega) (by first | omega | (rw [put4_len (by omega)];omega) | (rw [zer_len];omega))) ?_;rintro _ η9 ⟨rfl,q⟩;have ok:=(ok).lift1 q;refine .nil ?_;refine .seq<|.r<|.z .mvS<|.z .mvI<|.z (.addI (b:=1))<|?_;rw [show ((((rdN (tkA w) 4 4)+1:Nat):Int):Int)=(((rdN (tkA w) 4 4)+1:Nat):Int) from by omega];refine .c' 78 .func (fput_any (p:=4) (n:=(rdN (tkA w) 4 4)+1) (l:=(put4 (tkA w) (8+4*(rdN (tkA w) 4 4)) k)) (ok).loc0 (by first | omega | (rw [put4_len (by omega)];omega) | (rw [zer_len];omega)) (by omega) (by first | omega | (rw [put4_len (by omega)];omega) | (rw [zer_len];omega))) ?_;rintro _ η10 ⟨rfl,q⟩;have ok:=(ok).lift1 q;refine .nil ?_;refine .seq<|.seq<|.r<|.z .mvP<|.z (.fa T.fd38_2)<|.z (.ldx T.ag3 ok.m2)<|.z .mvS<|.c' 83 .func (sWriteC_any (G:=G) (w:=w) (no:=w.head.free) (l:=(put4 (put4 (tkA w) (8+4*(rdN (tkA w) 4 4)) k) 4 ((rdN (tkA w) 4 4)+1))) (ok.n1) (by first | (rw [put4_len (by rw [put4_len (by omega)];omega),put4_len (by omega)];omega) | (rw [put4_len (by rw [zer_len];omega),zer_len];omega))) ?_;rintro _ η11 ⟨Fk1,rfl,q⟩;have ok:=(ok.n1).lift1 q;have hrl83:(w.write w.head.free (put4 (put4 (tkA w) (8+4*(rdN (tkA w) 4 4)) k) 4 ((rdN (tkA w) 4 4)+1)))=gvA w (k:Int):=by unfold gvA;rw [Int.toNat_natCast];rfl
   rw [hrl83] at ok⊢;refine .z .asI<|.nil ?_;refine .seq<|.r<|.z .mvI<|.z .neq<|.nil ?_;refine .cd (fun C6=>?_) (fun C6=>?_)
   ·
    refine .seq<|.r<|.z .mvI<|.z .asI<|.nil ?_;refine .ret ⟨.int .i64 ((gvA w (k:Int)).2:Int),Res.one rfl rfl,⟨_,by rw [giveF_a hna hop hni C3 (show (rdN (tkA w) 4 4)<_ by omega),thenH_e (by omega)]<;>rfl,by rw [giveF_a hna hop hni C3 (show (rdN (tkA w) 4 4)<_ by omega),thenH_e (by omega)];exact (ok).k1⟩⟩
   refine .skip<|.seq<|.r<|.z .mvP<|.z (.fa T.fd38_2)<|.z (.ldx T.ag3 ok.m2)<|.z (.fa T.fd38_3)<|.z (.ldx T.ag3 ok.m2)<|.z .add<|.c' 93 .func (fheaded_any (G:=G) (w:=(gvA w (k:Int)).1) (f:=w.head.free) (m:=(w.head.many+1)) (ok).loc0 (by omega) (by omega)) ?_;rintro _ η12 ⟨Fz1,rfl,q⟩;have ok:=(ok).lift1 q;refine .z .asI<|.nil ?_;refine .ret ⟨.int .i64 (((hdd ((gvA w (k:Int)).1) w.head.free (w.head.many+1)).2:Nat):Int),Res.one rfl rfl,⟨_,by rw [giveF_a hna hop hni C3 (show (rdN (tkA w) 4 4)<_ by omega),thenH_0 (by omega)]<;>rfl,by rw [giveF_a hna hop hni C3 (show (rdN (tkA w) 4 4)<_ by omega),thenH_0 (by omega)];exact (ok).k1⟩⟩
  refine .skip<|.seq<|.r<|.z .mvP<|.k 95 .func (sSize_any (G:=G) (F:=Fr1) (w:=w) ok.m1)<|.a' 96 (.mks w.z w.z T.el44 T.sz5 T.by5 T.zr5 ok) ?_;rintro _ η13 ⟨pb2,rfl,ok,xe⟩;have ok:=ok.cx (ys:=(List.replicate w.z (0:UInt8)).map bv) (zeros8 _);refine .z .asS<|.nil ?_;refine .seq<|.r<|.z .mvS<|.z (.fa T.fd38_2)<|.z (.ldx T.ag3 ok.m3)<|?_;rw [show (w.head.free:Int)=((w.head.free.toNat:Nat):Int) from by omega];refine .c' 100 .func (fput_any (p:=0) (n:=w.head.free.toNat) (l:=(zer w.z)) (ok).loc0 (by first | omega | (rw [put4_len (by omega)];omega) | (rw [zer_len];omega)) (by omega) (by first | omega | (rw [put4_len (by omega)];omega) | (rw [zer_len];omega))) ?_;rintro _ η14 ⟨rfl,q⟩;have ok:=(ok).lift1 q;refine .nil ?_;refine .seq<|.seq<|.r<|.z .mvP<|.z .mvI<|.z .mvS<|.c' 104 .func (sWriteC_any (G:=G) (w:=w) (no:=(k:Int)) (l:=(put4 (zer w.z) 0 w.head.free.toNat)) (ok.n2) (by first | (rw [put4_len (by rw [put4_len (by omega)];omega),put4_len (by omega)];omega) | (rw [put4_len (by rw [zer_len];omega),zer_len];omega))) ?_;rintro _ η15 ⟨Fk2,rfl,q⟩;have ok:=(ok.n2).lift1 q;have hrl104:(w.write (k:Int) (put4 (zer w.z) 0 w.head.free.toNat))=gvB w (k:Int):=by unfold gvB;rfl
  rw [hrl104] at ok⊢;refine .z .asI<|.nil ?_;refine .seq<|.r<|.z .mvI<|.z .neq<|.nil ?_;refine .cd (fun C7=>?_) (fun C7=>?_)
  ·
   refine .seq<|.r<|.z .mvI<|.z .asI<|.nil ?_;refine .ret ⟨.int .i64 ((gvB w (k:Int)).2:Int),Res.one rfl rfl,⟨_,by rw [giveF_b hna hop hni (fun h=>by first | exact C3 h.1 | (have h2:(rdN (tkA w) 4 4)<(w.z-8) / 4:=h.2;omega)),thenH_e (by omega)]<;>rfl,by rw [giveF_b hna hop hni (fun h=>by first | exact C3 h.1 | (have h2:(rdN (tkA w) 4 4)<(w.z-8) / 4:=h.2;omega)),thenH_e (by omega)];exact (ok).k1⟩⟩
  refine .skip<|.seq<|.r<|.z .mvP<|.z .mvI<|.z (.fa T.fd38_3)<|.z (.ldx T.ag3 ok.m3)<|.z .add<|.c' 113 .func (fheaded_any (G:=G) (w:=(gvB w (k:Int)).1) (f:=(k:Int)) (m:=(w.head.many+1)) (ok).loc0 (by omega) (by omega)) ?_;rintro _ η16 ⟨Fz2,rfl,q⟩;have ok:=(ok).lift1 q;refine .z .asI<|.nil ?_;refine .ret ⟨.int .i64 (((hdd ((gvB w (k:Int)).1) (k:Int) (w.head.many+1)).2:Nat):Int),Res.one rfl rfl,⟨_,by rw [giveF_b hna hop hni (fun h=>by first | exact C3 h.1 | (have h2:(rdN (tkA w) 4 4)<(w.z-8) / 4:=h.2;omega)),thenH_0 (by omega)]<;>rfl,by rw [giveF_b hna hop hni (fun h=>by first | exact C3 h.1 | (have h2:(rdN (tkA w) 4 4)<(w.z-8) / 4:=h.2;omega)),thenH_0 (by omega)];exact (ok).k1⟩⟩
 obtain ⟨k,rfl⟩:∃k:Nat,no=(k:Int):=⟨no.toNat,by have:=gvRange hna hoi hop2;omega⟩;have hkr:=gvRange hna hoi hop2;refine .skip<|.seq<|.r<|.z .mvP<|.k 95 .func (sSize_any (G:=G) (F:=Fh3) (w:=w) ok.m1)<|.a' 96 (.mks w.z w.z T.el44 T.sz5 T.by5 T.zr5 ok) ?_;rintro _ η17 ⟨pb3,rfl,ok,xe⟩;have ok:=ok.cx (ys:=(List.replicate w.z (0:UInt8)).map bv) (zeros8 _);refine .z .asS<|.nil ?_;refine .seq<|.r<|.z .mvS<|.z (.fa T.fd38_2)<|.z (.ldx T.ag3 ok.m1)<|?_;rw [show (w.head.free:Int)=((w.head.free.toNat:Nat):Int) from by omega];refine .c' 100 .func (fput_any (p:=0) (n:=w.head.free.toNat) (l:=(zer w.z)) (ok).loc0 (by first | omega | (rw [put4_len (by omega)];omega) | (rw [zer_len];omega)) (by omega) (by first | omega | (rw [put4_len (by omega)];omega) | (rw [zer_len];omega))) ?_;rintro _ η18 ⟨rfl,q⟩;have ok:=(ok).lift1 q;refine .nil ?_;refine .seq<|.seq<|.r<|.z .mvP<|.z .mvI<|.z .mvS<|.c' 104 .func (sWriteC_any (G:=G) (w:=w) (no:=(k:Int)) (l:=(put4 (zer w.z) 0 w.head.free.toNat)) (ok.n2) (by first | (rw [put4_len (by rw [put4_len (by omega)];omega),put4_len (by omega)];omega) | (rw [put4_len (by rw [zer_len];omega),zer_len];omega))) ?_;rintro _ η19 ⟨Fk3,rfl,q⟩;have ok:=(ok.n2).lift1 q;have hrl104:(w.write (k:Int) (put4 (zer w.z) 0 w.head.free.toNat))=gvB w (k:Int):=by unfold gvB;rfl
 rw [hrl104] at ok⊢;refine .z .asI<|.nil ?_;refine .seq<|.r<|.z .mvI<|.z .neq<|.nil ?_;refine .cd (fun C7=>?_) (fun C7=>?_)
 ·
  refine .seq<|.r<|.z .mvI<|.z .asI<|.nil ?_;refine .ret ⟨.int .i64 ((gvB w (k:Int)).2:Int),Res.one rfl rfl,⟨_,by rw [giveF_b hna hop hni (fun h=>by first | exact C3 h.1 | (have h2:(rdN (tkA w) 4 4)<(w.z-8) / 4:=h.2;omega)),thenH_e (by omega)]<;>rfl,by rw [giveF_b hna hop hni (fun h=>by first | exact C3 h.1 | (have h2:(rdN (tkA w) 4 4)<(w.z-8) / 4:=h.2;omega)),thenH_e (by omega)];exact (ok).k1⟩⟩
 refine .skip<|.seq<|.r<|.z .mvP<|.z .mvI<|.z (.fa T.fd38_3)<|.z (.ldx T.ag3 ok.m2)<|.z .add<|.c' 113 .func (fheaded_any (G:=G) (w:=(gvB w (k:Int)).1) (f:=(k:Int)) (m:=(w.head.many+1)) (ok).loc0 (by omega) (by omega)) ?_;rintro _ η20 ⟨Fz3,rfl,q⟩;have ok:=(ok).lift1 q;refine .z .asI<|.nil ?_;refine .ret ⟨.int .i64 (((hdd ((gvB w (k:Int)).1) (k:Int) (w.head.many+1)).2:Nat):Int),Res.one rfl rfl,⟨_,by rw [giveF_b hna hop hni (fun h=>by first | exact C3 h.1 | (have h2:(rdN (tkA w) 4 4)<(w.z-8) / 4:=h.2;omega)),thenH_0 (by omega)]<;>rfl,by rw [giveF_b hna hop hni (fun h=>by first | exact C3 h.1 | (have h2:(rdN (tkA w) 4 4)<(w.z-8) / 4:=h.2;omega)),thenH_0 (by omega)];exact (ok).k1⟩⟩
open Go Go.HL
def lcg (x:Nat):Nat:=(x*1664525+1013904223)%4294967296
def lcgs (x:Nat):Nat→Nat
 | 0=>x
 | i+1=>lcg (lcgs x i)
def byteG (x:Nat):UInt8:=UInt8.ofNat (x / 16777216)
def pageG (z seed:Nat):List UInt8:=(List.range z).map fun i=>byteG (lcgs (seed+1) (i+1))
theorem pageG_len {z seed:Nat} : (pageG z seed).length=z:=by simp [pageG]
theorem lcg_lt {x:Nat} : lcg x<4294967296:=Nat.mod_lt _ (by decide)
theorem lcgs_lt {x i:Nat} (h:x<4294967296):lcgs x i<4294967296:=by cases i with | zero=>exact h | succ i=>exact lcg_lt
theorem byteG_nat {x:Nat} (h:x<4294967296):(byteG x).toNat=x / 16777216:=by
 unfold byteG;rw [UInt8.toNat_ofNat'];exact Nat.mod_eq_of_lt (by omega)
theorem set_bvG {bs:List UInt8} {i:Nat} {x:UInt8} : (bs.map bv).set i (.int .u8 ((x.toNat:Nat):Int))=(bs.set i x).map bv:=by rw [List.map_set];rfl
theorem take_setS {bs:List UInt8} {i:Nat} {x:UInt8} (h:i<bs.length):(bs.set i x).take (i+1)=bs.take i++[x]:=by
 rw [List.take_succ_eq_append_getElem (by simpa using h),List.take_set_of_le (Nat.le_refl i),List.getElem_set_self]
theorem page15_any {h:Heap} {z seed:Nat} (hz:z≤1000000) (hs1:seed<256) :
  HC Tryz.prog 65 #[.int .i64 (z:Int),.int .u8 (seed:Int)] h (fun v h'=>Own h h' 1 5 v ((pageG z seed).map bv)):=by
 have ok:=Hp.nil h none_;refine HC.go Tryz.func65 29 ?_;refine .seq<|.r<|.z .asS<|.nil ?_;refine .seq<|.r<|.z .mvI<|.a' 9 (.mks z z T.el44 T.sz5 T.by5 T.zr5 ok) ?_;rintro _ η1 ⟨pb1,rfl,ok,xe⟩;have ok:=ok.cx (ys:=(List.replicate z (0:UInt8)).map bv) (zeros8 _);refine .z .asS<|.nil ?_;refine .seq<|.r<|.z .mvI<|.z (.cvs T.in89 T.in5 (M:=4294967296) rfl rfl)<|.z (.addn (M:=4294967296) rfl rfl (b:=1))<|?_;rw [show ((seed+1)%4294967296)=(lcgs (seed+1) 0) from by show _=seed+1;omega];refine .z .asI<|.nil ?_;refine .seq<|.seq<|.r<|.z .mvS<|.z (.len T.el44)<|.z .mvI<|.nil ?_;refine .block fun K0 hK0=>.loop (fun m s hh=>∃(i:Nat) (bs:List UInt8),Has s [(5,.slice (some ⟨pb1,0,none⟩) z z),(6,.int .u32 ((lcgs (seed+1) i:Nat):Int)),(14,.int .i64 (z:Int)),(15,.int .i64 (i:Int))]∧Hp h none_ [capI 1 5 (some ⟨pb1,0,none⟩,z,z) (bs.map bv)] [] hh∧i≤z∧bs.length=z∧bs.take i=((List.range i).map fun j=>byteG (lcgs (seed+1) (j+1)))∧m=z-i) ?_ ?_
 ·exact ⟨_,0,List.replicate z 0,⟨rfl,rfl,rfl,rfl,trivial⟩,(ok).k1,Nat.zero_le _,List.length_replicate,rfl,rfl⟩
 rintro _ _ η2 ⟨i,bs,hs,ok,hi,hbl,hbs,rfl⟩ J0 hJ0;refine .frame hs fun τ=>?_;refine .seq<|.r<|.z .lss<|.nil ?_;refine .seq<|.cdr (fun C0=>?_) (fun C0=>?_)
 ·
  refine .exit<|hK0 _ _<|.seq<|.r<|.z .mvS<|.z .asS<|.nil ?_;refine .ret ⟨.slice (some ⟨pb1,0,none⟩) z z,Res.one rfl rfl,(by rw [show pageG z seed=bs from by unfold pageG;rw [show z=i by omega,←hbs,List.take_of_length_le (by omega)]];exact (ok).toOwn)⟩
 have hlt:=lcgs_lt (x:=seed+1) (i:=i) (by omega);have hlt2:=lcgs_lt (x:=seed+1) (i:=i+1) (by omega);refine .skip<|.seq<|.block fun K1 hK1=>.seq<|.r<|.z .mvI<|.z .asI<|.nil ?_;refine .seq<|.r<|.z .mvI<|.z (.muln (M:=4294967296) rfl rfl (b:=1664525))<|.z (.addn (M:=4294967296) rfl rfl (b:=1013904223))<|?_;rw [show (((((lcgs (seed+1) i)*1664525)%4294967296)+1013904223)%4294967296)=(lcgs (seed+1) (i+1)) from by show _=lcg _;unfold lcg;omega];refine .z .asI<|.nil ?_;refine .r<|.z .mvS<|.z .mvI<|.z .mvI<|.z (.shrn (M:=4294967296) rfl (b:=24))<|.z (.cvm T.in5 T.in89 (M:=256) rfl rfl)<|?_;rw [show (((lcgs (seed+1) (i+1)) / 2 ^ 24)%256)=(byteG (lcgs (seed+1) (i+1))).toNat from by rw [byteG_nat (lcgs_lt (by omega))];have:=lcgs_lt (x:=seed+1) (i:=i+1) (by omega);omega];refine .z (.ix1 i T.el44 T.sz5)<|.ur' (.sxI (q:=i) T.sz5 ok) ?_;rintro η3 ⟨ok,cg⟩;refine .nil ?_;refine .end<|hK1 _ _<|?_;have ok:=ok.cx (ys:=(bs.set i (byteG (lcgs (seed+1) (i+1)))).map bv) set_bvG;refine .r<|.z (.addI (b:=1))<|.z .mvI<|.nil ?_;refine .end<|hJ0 _ _ _ ⟨i+1,(bs.set i (byteG (lcgs (seed+1) (i+1)))),⟨rfl,rfl,rfl,rfl,trivial⟩,(ok).k1,by omega,by simp [hbl],by rw [List.range_succ,List.map_append,←hbs];exact take_setS (by omega),rfl⟩ (by omega)
theorem take_step {l l2:List Int} {i:Nat} (h:i<l.length) (h2:i<l2.length) (hn:l.take i=l2.take i) (h3:l[i]=l2[i]):l.take (i+1)=l2.take (i+1):=by
 rw [List.take_succ_eq_append_getElem h,List.take_succ_eq_append_getElem h2,hn,h3]
theorem same16_any {h:Heap} {F E F' E':Nat→Prop} {a b:Option Addr} {c d:Nat} {l l2:List Int} (hl:RdL h F E (a,l.length,c) l) (hm:RdL h F' E' (b,l2.length,d) l2) :
  HC Tryz.prog 62 #[.slice a l.length c,.slice b l2.length d] h (fun r h'=>r=.bool (decide (l=l2))∧h'=h):=by
 have hlc:=hl.c;have hlm:=hl.m;simp only at hlc hlm;refine HC.go Tryz.func62 26 ?_;refine .seq<|.r<|.z .asB<|.nil ?_;refine .seq<|.seq<|.r<|.z .mvS<|.z (.len T.el24)<|.z .mvS<|.z (.len T.el24)<|.z .neq<|.nil ?_;refine .cd (fun C0=>?_) (fun C0=>?_)
 ·
  refine .seq<|.r<|.z .asB<|.nil ?_;refine .ret ⟨.bool false,Res.one rfl rfl,⟨by rw [decide_eq_false (fun e=>by rw [e] at C0;exact C0 rfl)],rfl⟩⟩
 refine .skip<|.seq<|.seq<|.r<|.z .asI<|.nil ?_;refine .block fun K0 hK0=>.loop (fun m s hh=>∃(i:Nat),Has s [(0,.slice a l.length c),(1,.slice b l2.length d),(5,.int .i64 (i:Int))]∧h=hh∧i≤l.length∧l.take i=l2.take i∧m=l.length-i) ?_ ?_
 ·exact ⟨_,0,⟨rfl,rfl,rfl,trivial⟩,rfl,Nat.zero_le _,by simp,rfl⟩
 rintro _ _ _ ⟨i,hs,rfl,hi,hn,rfl⟩ J0 hJ0;refine .frame hs fun τ=>?_;refine .seq<|.seq<|.r<|.z .mvI<|.z .mvS<|.z (.len T.el24)<|.z .lss<|.nil ?_;refine .cdr (fun C1=>?_) (fun C1=>?_)
 ·
  refine .exit<|hK0 _ _<|.seq<|.r<|.z .asB<|.nil ?_;refine .ret ⟨.bool true,Res.one rfl rfl,⟨by rw [decide_eq_true (by rwa [List.take_of_length_le (by omega),List.take_of_length_le (by omega)] at hn)],rfl⟩⟩
 have hil:i<l.length:=by omega
 have hil2:i<l2.length:=by omega
 refine .skip<|.seq<|.block fun K1 hK1=>.seq<|.q (hm:=mixed)<|.z .mvS<|.z .mvI<|?_;obtain ⟨bb1,oo1,rfl,fb1⟩:=hl.pos (by omega);refine .z (.ix1 i T.el24 T.sz3 (hi:=by omega))<|.z (.ld T.ag3 (hl.i64 (i:=i) (by omega)))<|.z .mvS<|.z .mvI<|?_;obtain ⟨bb2,oo2,rfl,fb2⟩:=hm.pos (by omega);refine .z (.ix1 i T.el24 T.sz3 (hi:=by omega))<|.z (.ld T.ag3 (hm.i64 (i:=i) (by omega)))<|.z .neq<|.nil ?_;refine .cd (fun C2=>?_) (fun C2=>?_)
 ·
  refine .seq<|.r<|.z .asB<|.nil ?_;refine .ret ⟨.bool false,Res.one rfl rfl,⟨by rw [decide_eq_false (fun e=>by subst e;exact C2 rfl)],rfl⟩⟩
 refine .skip<|.end<|hK1 _ _<|.r<|.z .mvI<|.z (.addI (b:=1))<|.z .asI<|.nil ?_;refine .end<|hJ0 _ _ _ ⟨i+1,⟨rfl,rfl,rfl,trivial⟩,rfl,by omega,take_step (by omega) (by omega) hn (by simpa using C2),rfl⟩ (by omega)
abbrev Trk:=List (Int × List Int)
def flatT (T:Trk):List Int:=T.flatMap fun t=>t.1::t.2
def frT:Trk→Int
 | []=>0
 | t::_=>t.1
def pageAt (P:List (List UInt8)) (k:Int):List UInt8:=P.getD (k-1).toNat []
def Tr (P:List (List UInt8)) (rm:Nat):Int→Trk→Prop
 | a,[]=>a=0
 | a,t::T=>a=t.1∧t.2.length≤rm∧frNums (pageAt P a)=t.2∧Tr P rm ((rdN (pageAt P a) 0 4:Nat):Int) T
section
variable {l:List UInt8} {p q n:Nat}
theorem rd_put_eq (h:p+4≤l.length) (hn:n<4294967296):rdN (put4 l p n) p 4=n:=by
 have h1:put4 l p n=l.take p++(fixedN n 4++l.drop (p+4)):=by unfold put4;rw [List.append_assoc]
 have h2:(l.take p).length=p:=by rw [List.length_take];omega
 rw [h1];have h3:=rdN_app (x:=l.take p) (y:=fixedN n 4) (z:=l.drop (p+4)) (k:=4) (fixedN_len _ _);rw [h2] at h3;rw [h3,beN_fixed (by simpa using hn)]
theorem rd_put_hi (h:p+4≤l.length) (hq:p+4≤q):rdN (put4 l p n) q 4=rdN l q 4:=by
 have h2:(l.take p++fixedN n 4).length=p+4:=by rw [List.length_append,List.length_take,fixedN_len];omega
 have h3:(put4 l p n).drop q=l.drop q:=by
  unfold put4;rw [List.drop_append,h2,List.drop_eq_nil_of_le (by omega),List.nil_append,List.drop_drop];congr 1;omega
 unfold rdN;rw [h3]
theorem rd_put_lo (h:p+4≤l.length) (hq:q+4≤p):rdN (put4 l p n) q 4=rdN l q 4:=by
 have h2:(l.take p).length=p:=by rw [List.length_take];omega
 have h3:((put4 l p n).drop q).take 4=(l.drop q).take 4:=by
  unfold put4;rw [List.append_assoc,List.drop_append,h2,List.take_append_of_le_length (by rw [List.length_drop,h2];omega),List.drop_take,List.take_take,Nat.min_eq_left (by omega)]
 unfold rdN;rw [h3]
theorem nums_snoc {k:Nat} (hl:8+4*rdN l 4 4+4≤l.length) (hz:l.length≤1000000) (hk:k<4294967296):frNums (put4 (put4 l (8+4*rdN l 4 4) k) 4 (rdN l 4 4+1))=frNums l++[(k:Int)]:=by
 generalize hm:rdN l 4 4=m at hl⊢;have hl1:(put4 l (8+4*m) k).length=l.length:=put4_len hl;have h4:rdN (put4 (put4 l (8+4*m) k) 4 (m+1)) 4 4=m+1:=rd_put_eq (by omega) (by omega);unfold frNums;rw [h4,hm,List.range_succ,List.map_append];congr 1
 ·refine List.map_congr_left fun i hi=>?_;have:=List.mem_range.1 hi;rw [rd_put_hi (by omega) (by omega),rd_put_lo hl (by omega)]
 ·simp only [List.map_cons,List.map_nil];rw [rd_put_hi (by omega) (by omega),rd_put_eq hl hk]
theorem nums_drop {m:Nat} (hm:rdN l 4 4=m+1) (hl:8+4*m+4≤l.length) (hz:l.length≤1000000):frNums (put4 (put4 l (8+4*m) 0) 4 m)=(frNums l).dropLast∧(frNums l).getLast? = some ((rdN l (8+4*m) 4:Nat):Int):=by
 have hl1:(put4 l (8+4*m) 0).length=l.length:=put4_len hl;have h4:rdN (put4 (put4 l (8+4*m) 0) 4 m) 4 4=m:=rd_put_eq (by omega) (by omega);constructor
 ·unfold frNums;rw [h4,hm,List.range_succ,List.map_append,List.map_cons,List.map_nil,List.dropLast_concat];refine List.map_congr_left fun i hi=>?_;have:=List.mem_range.1 hi;rw [rd_put_hi (by omega) (by omega),rd_put_lo hl (by omega)]
 ·unfold frNums;rw [hm,List.range_succ,List.map_append,List.map_cons,List.map_nil,List.getLast?_concat]
theorem next_put {k m:Nat} (hm:8≤k) (hl:k+4≤l.length):rdN (put4 (put4 l k n) 4 m) 0 4=rdN l 0 4:=by
 rw [rd_put_lo (by rw [put4_len hl];omega) (by omega),rd_put_lo hl (by omega)]
theorem zer_rd {z p:Nat} : rdN (zer z) p 4=0:=by
 unfold rdN zer;rw [List.drop_replicate,List.take_replicate];generalize min 4 (z-p)=k;induction k with
 | zero=>rfl
 | succ k ih=>rw [List.replicate_succ',beN_snoc,ih];rfl
theorem nums_new {z:Nat} (hz:12≤z):frNums (put4 (zer z) 0 n)=[]∧(n<4294967296→rdN (put4 (zer z) 0 n) 0 4=n):=by
 have hl:=zer_len (z:=z);refine ⟨?_,fun h=>rd_put_eq (by omega) h⟩;unfold frNums;rw [rd_put_hi (by omega) (by omega),zer_rd];rfl
end
theorem flatT_cons {t:Int × List Int} {T:Trk} : flatT (t::T)=t.1::(t.2++flatT T):=by unfold flatT;rw [List.flatMap_cons];rfl
theorem Met.left {N:Nat} {a b:List Int} (m:Met N (a++b)):Met N a:=⟨(List.nodup_append.1 m.nd).1,fun k hk=>m.rg k (List.mem_append_left _ hk)⟩
theorem Met.perm {N:Nat} {a b:List Int} (m:Met N a) (p:b.Perm a):Met N b:=⟨p.nodup_iff.2 m.nd,fun k hk=>m.rg k (p.mem_iff.1 hk)⟩
theorem Met.ok {N:Nat} {a:List Int} {k:Int} (m:Met N (a++[k])):frOk N a k=true:=by
 have h1:=m.rg k (by simp);have h2:=(List.nodup_append.1 m.nd).2.2;exact decide_eq_true ⟨h1.1,h1.2,fun h=>h2 k h k (by simp) rfl⟩
theorem Met.cons {N:Nat} {a:List Int} {k:Int} (m:Met N a) (h1:2≤k) (h2:k≤(N:Int)) (h3:k∉a):Met N (k::a):=⟨List.nodup_cons.2 ⟨h3,m.nd⟩,fun j hj=>by
 rcases List.mem_cons.1 hj with rfl | hj
 ·exact ⟨h1,h2⟩
 ·exact m.rg j hj⟩
theorem Met.tail {N:Nat} {a:List Int} {k:Int} (m:Met N (k::a)):Met N a:=⟨(List.nodup_cons.1 m.nd).2,fun j hj=>m.rg j (List.mem_cons_of_mem _ hj)⟩
theorem Met.lt {N:Nat} {a:List Int} (m:Met N a) (h:1≤N):a.length<N:=by
 have h3:(0::1::a.map Int.toNat).length≤(List.range (N+1)).length:=by
  refine List.Nodup.length_le_of_subset (List.nodup_cons.2 ⟨fun hk=>?_,List.nodup_cons.2 ⟨fun hk=>?_,?_⟩⟩) fun k hk=>?_
  ·rcases List.mem_cons.1 hk with hk | hk
   ·omega
   ·obtain ⟨x,hx,e⟩:=List.mem_map.1 hk;have:=m.rg x hx;omega
  ·obtain ⟨x,hx,e⟩:=List.mem_map.1 hk;have:=m.rg x hx;omega
  ·unfold List.Nodup;rw [List.pairwise_map];exact List.Pairwise.imp_of_mem (fun ha hb h e=>h (by have:=m.rg _ ha;have:=m.rg _ hb;omega)) m.nd
  ·rw [List.mem_range];rcases List.mem_cons.1 hk with rfl | hk
   ·omega
   rcases List.mem_cons.1 hk with rfl | hk
   ·omega
   ·obtain ⟨x,hx,rfl⟩:=List.mem_map.1 hk;have:=m.rg x hx;omega
 rw [List.length_cons,List.length_cons,List.length_map,List.length_range] at h3;omega
theorem frIn_all {N:Nat} : ∀ {r out:List Int},Met N (out++r)→frIn N r out=some (out++r)
 | [],out,_=>by rw [frIn_nil,List.append_nil]
 | k::r,out,m=>by
  have h:Met N ((out++[k])++r):=by simpa using m
  rw [frIn_ok h.left.ok,frIn_all h];simp
theorem frGo_all {P:List (List UInt8)} {rm:Nat} : ∀(f:Nat) (T:Trk) (a:Int) (out:List Int),T.length<f→Tr P rm a T→Met P.length (out++flatT T)→frGo P rm f a out=some (out++flatT T)
 | 0,_,_,_,h,_,_=>absurd h (Nat.not_lt_zero _)
 | f+1,[],a,out,_,tr,_=>by rw [show a=0 from tr,frGo_0];simp [flatT]
 | f+1,t::T,a,out,h,tr,m=>by
  obtain ⟨rfl,h2,h3,h4⟩:=tr;have m1:Met P.length ((out++[t.1])++(t.2++flatT T)):=by simpa [flatT_cons] using m
  have m2:Met P.length (((out++[t.1])++t.2)++flatT T):=by simpa using m1
  have hok:=m1.left.ok;have h0:t.1≠0:=by have:=m1.left.rg t.1 (by simp);omega
  have hn:frNums (P.getD (t.1-1).toNat [])=t.2:=h3;have hr:¬rm<rdN (P.getD (t.1-1).toNat []) 4 4:=by have:=frNums_len (l:=P.getD (t.1-1).toNat []);rw [hn] at this;omega
  rw [frGo_in h0 hok hr,hn,frIn_all m2.left,Option.bind_some];have:=frGo_all f T _ _ (by simp at h;omega) h4 m2;rw [show frGo P rm f ((rdN (P.getD (t.1-1).toNat []) 0 4:Nat):Int) (out++[t.1]++t.2)=some (out++[t.1]++t.2++flatT T) from this,flatT_cons];simp
theorem Tr.congr {P Q:List (List UInt8)} {rm:Nat} : ∀ {T:Trk} {a:Int},(∀t∈T,pageAt Q t.1=pageAt P t.1)→Tr P rm a T→Tr Q rm a T
 | [],_,_,h=>h
 | t::T,a,hc,h=>by
  obtain ⟨rfl,h2,h3,h4⟩:=h;have h5:=hc t (by simp);exact ⟨rfl,h2,by rw [h5];exact h3,by rw [h5];exact Tr.congr (fun u hu=>hc u (by simp [hu])) h4⟩
theorem Tr.hd {P:List (List UInt8)} {rm:Nat} {a:Int} {T:Trk} (h:Tr P rm a T):a=frT T:=by
 cases T with
 | nil=>exact h
 | cons t T=>exact h.1
theorem mem_flat {T:Trk} {t:Int × List Int} (h:t∈T):t.1∈flatT T:=List.mem_flatMap.2 ⟨t,h,by simp⟩
theorem len_flat {T:Trk} : T.length≤(flatT T).length:=by
 induction T with
 | nil=>simp
 | cons t T ih=>rw [flatT_cons];simp;omega
structure FrS (w:St) (T:Trk):Prop where
 z:okSz w.z=true
 len:∀b∈w.now,b.length=w.z
 mul:w.now.length*w.z≤16777216
 i:w.in_=true
 n:w.now≠[]
 hd:w.head=⟨(w.z:Int),(w.now.length:Int),frT T,((flatT T).length:Int),0,0⟩
 tr:Tr w.now ((w.z-8) / 4) (frT T) T
 mt:Met w.now.length (flatT T)
section
variable {w:St} {T:Trk} (f:FrS w T)
include f
theorem FrS.pgs:w.pgs=w.now:=if_pos f.i
theorem FrS.zc:w.z=256∨w.z=512∨w.z=1024∨w.z=2048∨w.z=4096:=okSz_c f.z
theorem FrS.n1:1≤w.now.length:=by have:=f.n;cases h:w.now with | nil=>exact absurd h this | cons _ _=>simp
theorem FrS.few:w.now.length≤65536:=by
 have h1:=f.zc;have h2:=f.mul;rcases h1 with h | h | h | h | h<;>rw [h] at h2<;>omega
theorem FrS.all:frAll w=some (flatT T):=by
 unfold frAll;rw [f.pgs,f.hd];have h1:=f.mt.len;have:=frGo_all (w.now.length+1) T (frT T) [] (by have:=len_flat (T:=T);omega) f.tr (by simpa using f.mt);simp only [this,List.nil_append,Option.bind_some,if_true]
theorem FrS.op:frOp w=(flatT T,0):=by
 have h:=f.all;unfold frOp frL frC;rw [if_neg (by rw [f.i];decide),if_neg (by rw [f.pgs];have:=f.n1;omega),h];rfl
theorem FrS.head' {P:List (List UInt8)} (h1:P.headD []=w.now.headD []) (h3:P≠[]):St.head { w with now:=P } = ⟨(w.z:Int),(P.length:Int),frT T,((flatT T).length:Int),0,0⟩:=by
 have e1:St.pgs { w with now:=P } = P:=if_pos f.i;have e2:=f.hd;unfold St.head at e2⊢;rw [e1,if_neg h3,h1];rw [f.pgs,if_neg f.n] at e2;injection e2 with _ _ e3 e4 e5 e6;show Hd.mk _ _ _ _ _ _=_;rw [e3,e4,e5,e6]
end
theorem pageAt_set {P:List (List UInt8)} {i:Nat} {b:List UInt8} {k:Int} (h:1≤k) (h2:k≠(i:Int)+1):pageAt (P.set i b) k=pageAt P k:=by
 unfold pageAt;rw [List.getD_eq_getElem?_getD,List.getD_eq_getElem?_getD,List.getElem?_set_ne (by omega)]
theorem pageAt_eq {P:List (List UInt8)} {i:Nat} {b:List UInt8} {k:Int} (h:k=(i:Int)+1) (hi:i<P.length):pageAt (P.set i b) k=b:=by
 unfold pageAt;rw [List.getD_eq_getElem?_getD,show (k-1).toNat=i by omega,List.getElem?_set_self hi];rfl
theorem frT_in {N:Nat} {T:Trk} (m:Met N (flatT T)) (h:T≠[]):2≤frT T∧frT T≤(N:Int):=by
 cases T with
 | nil=>exact absurd rfl h
 | cons t T=>exact m.rg t.1 (by rw [flatT_cons];simp)
theorem frT_nat {N:Nat} {T:Trk} (m:Met N (flatT T)):0≤frT T:=by
 cases T with
 | nil=>exact Int.le_refl 0
 | cons t T=>have:=frT_in m (by simp);omega
def hdF' (w:St) (P:List (List UInt8)) (T:Trk):Hd:=⟨(w.z:Int),(P.length:Int),frT T,((flatT T).length:Int),0,0⟩
theorem flat_nil {T:Trk} : flatT T=[]↔T=[]:=by
 cases T with
 | nil=>simp [flatT]
 | cons t T=>simp [flatT_cons]
section
variable {w:St} {T T':Trk} {P:List (List UInt8)} (f:FrS w T)
include f
theorem FrS.next (h1:P.headD []=w.now.headD []) (h2:∀b∈P,b.length=w.z) (h3:P≠[]) (h4:P.length*w.z≤16777216) (tr:Tr P ((w.z-8) / 4) (frT T') T') (mt:Met P.length (flatT T')) :
  hdd { w with now:=P } (frT T') ((flatT T').length:Int)=({ w with now:=P.set 0 (pg1 w.z (hdF' w P T')) },0)∧FrS { w with now:=P.set 0 (pg1 w.z (hdF' w P T')) } T':=by
 have hP:1≤P.length:=by cases P with | nil=>exact absurd rfl h3 | cons _ _=>simp
 have hlt:=mt.lt hP;have hzc:=f.zc;have hfew:P.length≤65536:=by rcases hzc with h | h | h | h | h<;>rw [h] at h4<;>omega
 have hc:ChkP (hdF' w P T'):=by
  refine ⟨decide_eq_true (by show (w.z:Int)=256∨(w.z:Int)=512∨(w.z:Int)=1024∨(w.z:Int)=2048∨(w.z:Int)=4096;omega),⟨by show (1:Int)≤(P.length:Int);omega,by show (P.length:Int)≤1048576;omega,by show (w.z:Int)*(P.length:Int)≤16777216;rw [Int.mul_comm,←Int.natCast_mul];omega⟩,⟨by show (0:Int)≤((flatT T').length:Int);omega,by show ((flatT T').length:Int)<(P.length:Int);omega,fun h=>?_,fun h=>?_⟩,⟨by show (0:Int)≤0;omega,by show (0:Int)≤2147483647;omega⟩,by show (0:Int)≤0;omega,by show (0:Int)≤2147483647;omega⟩
  ·have h0:(flatT T').length=0:=by have:((flatT T').length:Int)=0:=h;omega
   have:=flat_nil.1 (List.eq_nil_of_length_eq_zero h0);subst this;rfl
  ·refine frT_in mt fun e=>?_;subst e;exact absurd (show (0:Int)<((flatT []).length:Int) from h) (by decide)
 have hh:=f.head' h1 h3;have hw:hdd { w with now:=P } (frT T') ((flatT T').length:Int)=({ w with now:=P.set 0 (pg1 w.z (hdF' w P T')) },0):=by
  unfold hdd;rw [hh];have h5:=St.setHead_0 (w:={ w with now:=P }) (H:=hdF' w P T') (n:=P.length) f.i (by rintro (h | h | h);exact h hc;exact h rfl;exact absurd h (by show ¬(max 1 (P.length:Int)<(P.length:Int));omega)) rfl;refine h5.trans ?_;show (({ w with now:=(wth P 1 (pg1 w.z (hdF' w P T'))).take P.length } : St),0)=_;have e:(wth P 1 (pg1 w.z (hdF' w P T'))).take P.length=P.set 0 (pg1 w.z (hdF' w P T')):=by
   unfold wth;rw [if_neg (by omega),List.take_of_length_le (by simp)]
  rw [e]
 refine ⟨hw,f.z,fun b hb=>?_,by simpa using h4,f.i,by simp [h3],?_,?_,by simpa using mt⟩
 ·rcases List.mem_or_eq_of_mem_set hb with hb | hb
  ·exact h2 b hb
  ·rw [hb];exact pg1_len f.z
 ·have e1:St.pgs { w with now:=P.set 0 (pg1 w.z (hdF' w P T')) } = P.set 0 (pg1 w.z (hdF' w P T')):=if_pos f.i;unfold St.head;rw [e1,if_neg (by simp [h3])];have e2:(P.set 0 (pg1 w.z (hdF' w P T'))).headD []=pg1 w.z (hdF' w P T'):=by
   cases P with
   | nil=>exact absurd rfl h3
   | cons a P=>rfl
  rw [e2];unfold pg1;rw [dec_enc hc];show Hd.mk _ _ _ _ _ _=Hd.mk _ _ _ _ _ _;simp [hdF']
 ·refine Tr.congr (fun t ht=>?_) tr;have:=mt.rg t.1 (mem_flat ht);exact pageAt_set (by omega) (by omega)
theorem FrS.wr {k:Int} {b:List UInt8} (h1:2≤k) (h2:k≤(w.now.length:Int)) (hb:b.length=w.z):w.write k b=({ w with now:=w.now.set (k-1).toNat b },0):=by
 obtain ⟨n,rfl⟩:∃n:Nat,k=(n:Int):=⟨k.toNat,by omega⟩;have hm:=f.mul;have hfew:=f.few;have hmz:(n:Int)*(w.z:Int)≤16777216:=by
  have:n*w.z≤w.now.length*w.z:=Nat.mul_le_mul_right _ (by omega);rw [←Int.natCast_mul];omega
 rw [St.write_0 f.i (by rintro (h | h | h | h);omega;omega;exact f.n h;exact h hb) (by rintro (h | h)<;>omega)];unfold wth;rw [if_neg (by omega),show ((n:Int)-1).toNat=n-1 by omega]
end
def upP (w:St) (P:List (List UInt8)) (T:Trk):St:={ w with now:=P.set 0 (pg1 w.z (hdF' w P T)) }
theorem upP_len {w:St} {P:List (List UInt8)} {T:Trk} : (upP w P T).now.length=P.length:=List.length_set ..
theorem upP_at {w:St} {P:List (List UInt8)} {T:Trk} {k:Int} (h:2≤k):pageAt (upP w P T).now k=pageAt P k:=pageAt_set (by omega) (by omega)
theorem set_head {P:List (List UInt8)} {i:Nat} {b:List UInt8} (h:1≤i):(P.set i b).headD []=P.headD []:=by
 cases P with
 | nil=>rfl
 | cons a P=>cases i with
  | zero=>omega
  | succ i=>rfl
theorem set_len {P:List (List UInt8)} {i z:Nat} {b:List UInt8} (h:∀x∈P,x.length=z) (hb:b.length=z):∀x∈P.set i b,x.length=z:=fun x hx=>(List.mem_or_eq_of_mem_set hx).elim (h x) fun e=>e▸hb
theorem mt_ne {N:Nat} {T:Trk} {t u:Int × List Int} (m:Met N (flatT (t::T))) (h:u∈T):u.1≠t.1∧u.1∉t.2:=by
 rw [flatT_cons] at m;have h1:=mem_flat h;have h2:=List.nodup_cons.1 m.nd;exact ⟨fun e=>h2.1 (by rw [←e];exact List.mem_append_right _ h1),fun e=>(List.nodup_append.1 h2.2).2.2 _ e _ h1 rfl⟩
section
variable {w:St} {T:Trk} {no:Int}
theorem FrS.give_ (f:FrS w T) (h1:2≤no) (h2:no≤(w.now.length:Int)):¬(w.in_=true∧0<w.pgs.length∧(no<2∨(w.pgs.length:Int)<no)):=by
 rw [f.pgs];rintro ⟨_,_,h | h⟩<;>omega
theorem FrS.give_b (f:FrS w T) (h1:2≤no) (h2:no≤(w.now.length:Int)) (h3:no∉flatT T) (h4:¬(frT T≠0∧tkN w<(w.z-8) / 4)) :
  giveF w no=(upP w (w.now.set (no-1).toNat (put4 (zer w.z) 0 (frT T).toNat)) ((no,[])::T),0)∧FrS (upP w (w.now.set (no-1).toNat (put4 (zer w.z) 0 (frT T).toNat)) ((no,[])::T)) ((no,[])::T):=by
 have hzc:=f.zc;have hpl:(put4 (zer w.z) 0 (frT T).toNat).length=w.z:=by rw [put4_len (by rw [zer_len];omega),zer_len]
 have hfr:=frT_nat f.mt;have hfl:frT T<4294967296:=by
  by_cases hT:T=[]
  ·subst hT;decide
  ·have:=(frT_in f.mt hT).2;have:=f.few;omega
 obtain ⟨hn1,hn2⟩:=nums_new (n:=(frT T).toNat) (z:=w.z) (by omega);have hn:=f.next (P:=w.now.set (no-1).toNat (put4 (zer w.z) 0 (frT T).toNat)) (T':=(no,[])::T) (set_head (by omega)) (set_len f.len hpl) (by simp [f.n]) (by simpa using f.mul) (by
  refine ⟨rfl,Nat.zero_le _,?_,?_⟩
  ·show frNums (pageAt _ no)=[];rw [pageAt_eq (by omega) (by omega)];exact hn1
  ·show Tr _ _ ((rdN (pageAt _ no) 0 4:Nat):Int) T;rw [pageAt_eq (by omega) (by omega),hn2 (by omega),show (((frT T).toNat:Nat):Int)=frT T by omega];refine Tr.congr (fun t ht=>?_) f.tr;have h5:=f.mt.rg t.1 (mem_flat ht);have h6:t.1≠no:=fun e=>h3 (e▸mem_flat ht);exact pageAt_set (by omega) (by omega)) (by
  rw [flatT_cons,List.length_set];exact f.mt.cons h1 h2 h3)
 refine ⟨?_,hn.2⟩;rw [giveF_b (f.give_ h1 h2) (by rw [f.op]) (by rw [f.op];exact h3) (by rw [f.hd];exact h4)];have hw:gvB w no=({ w with now:=w.now.set (no-1).toNat (put4 (zer w.z) 0 (frT T).toNat) },0):=by
  unfold gvB;rw [f.hd];exact f.wr h1 h2 hpl
 rw [thenH_0 (by rw [hw]),hw,f.hd];have e:((flatT T).length:Int)+1=((flatT ((no,[])::T)).length:Int):=by rw [flatT_cons];simp
 show hdd _ no (((flatT T).length:Int)+1)=_;rw [e];exact hn.1
theorem FrS.tk {t:Int × List Int} {T:Trk} (f:FrS w (t::T)):tkA w=pageAt w.now t.1∧tkN w=t.2.length∧(tkA w).length=w.z∧2≤t.1∧t.1≤(w.now.length:Int)∧8+4*((w.z-8) / 4)≤w.z:=by
 have h1:tkA w=pageAt w.now t.1:=by unfold tkA;rw [f.hd,f.pgs];rfl
 have h2:tkN w=t.2.length:=by
  obtain ⟨_,_,h3,_⟩:=f.tr;unfold tkN;rw [h1,←frNums_len,show frNums (pageAt w.now t.1)=t.2 from h3]
 have h3:=frT_in f.mt (by simp);have hzc:=f.zc;refine ⟨h1,h2,?_,h3.1,h3.2,by omega⟩;rw [h1];unfold pageAt;have h4:(t.1-1).toNat<w.now.length:=by have h5:t.1≤(w.now.length:Int):=h3.2;have h6:2≤t.1:=h3.1;omega
 rw [List.getD_eq_getElem?_getD,List.getElem?_eq_getElem h4];exact f.len _ (List.getElem_mem h4)
theorem FrS.give_a {t:Int × List Int} {T:Trk} (f:FrS w (t::T)) (h1:2≤no) (h2:no≤(w.now.length:Int)) (h3:no∉flatT (t::T)) (h4:t.2.length<(w.z-8) / 4) :
  giveF w no=(upP w (w.now.set (t.1-1).toNat (put4 (put4 (pageAt w.now t.1) (8+4*t.2.length) no.toNat) 4 (t.2.length+1))) ((t.1,t.2++[no])::T),0)∧FrS (upP w (w.now.set (t.1-1).toNat (put4 (put4 (pageAt w.now t.1) (8+4*t.2.length) no.toNat) 4 (t.2.length+1))) ((t.1,t.2++[no])::T)) ((t.1,t.2++[no])::T):=by
 have hzc:=f.zc;have hfew:=f.few;obtain ⟨a1,a2,a3,a4,a5,a6⟩:=f.tk;rw [a1] at a3;obtain ⟨_,_,b3,b4⟩:=f.tr;have b3:frNums (pageAt w.now t.1)=t.2:=b3;have b5:rdN (pageAt w.now t.1) 4 4=t.2.length:=by rw [←frNums_len,b3]
 have hq:8+4*t.2.length+4≤(pageAt w.now t.1).length:=by rw [a3];omega
 have hpl:(put4 (put4 (pageAt w.now t.1) (8+4*t.2.length) no.toNat) 4 (t.2.length+1)).length=w.z:=by
  rw [put4_len (by rw [put4_len hq];omega),put4_len hq,a3]
 have hns:=nums_snoc (l:=pageAt w.now t.1) (k:=no.toNat) (by rw [b5];exact hq) (by omega) (by omega);rw [b5,b3,show ((no.toNat:Nat):Int)=no by omega] at hns;have hnx:=next_put (l:=pageAt w.now t.1) (k:=8+4*t.2.length) (n:=no.toNat) (m:=t.2.length+1) (by omega) hq;have hmt:Met w.now.length (flatT ((t.1,t.2++[no])::T)):=by
  refine (f.mt.cons h1 h2 h3).perm ?_;rw [flatT_cons,flatT_cons];show (t.1::((t.2++[no])++flatT T)).Perm (no::t.1::(t.2++flatT T));refine List.Perm.trans (List.Perm.cons _ ?_) (List.Perm.swap _ _ _);rw [List.append_assoc];exact List.perm_middle
 have hn:=f.next (P:=w.now.set (t.1-1).toNat (put4 (put4 (pageAt w.now t.1) (8+4*t.2.length) no.toNat) 4 (t.2.length+1))) (T':=(t.1,t.2++[no])::T) (set_head (by omega)) (set_len f.len hpl) (by simp [f.n]) (by simpa using f.mul) (by
  refine ⟨rfl,by rw [List.length_append];simp;omega,?_,?_⟩
  ·show frNums (pageAt _ t.1)=_;rw [pageAt_eq (by omega) (by omega)];exact hns
  ·show Tr _ _ ((rdN (pageAt _ t.1) 0 4:Nat):Int) T;rw [pageAt_eq (by omega) (by omega),hnx];refine Tr.congr (fun u hu=>?_) b4;have h5:=f.mt.rg u.1 (mem_flat (List.mem_cons_of_mem _ hu));have h6:=(mt_ne f.mt hu).1;exact pageAt_set (by omega) (by omega)) (by rw [List.length_set];exact hmt)
 refine ⟨?_,hn.2⟩;rw [giveF_a (f.give_ h1 h2) (by rw [f.op]) (by rw [f.op];exact h3) (by rw [f.hd];show t.1≠0;omega) (by rw [a2];exact h4)];have hw:gvA w no=({ w with now:=w.now.set (t.1-1).toNat (put4 (put4 (pageAt w.now t.1) (8+4*t.2.length) no.toNat) 4 (t.2.length+1)) },0):=by
  unfold gvA;rw [f.hd,a1,a2];exact f.wr a4 a5 hpl
 rw [thenH_0 (by rw [hw]),hw,f.hd];have e:((flatT (t::T)).length:Int)+1=((flatT ((t.1,t.2++[no])::T)).length:Int):=by rw [flatT_cons,flatT_cons];simp;omega
 show hdd _ t.1 (((flatT (t::T)).length:Int)+1)=_;rw [e];exact hn.1
theorem FrS.take_a {t:Int × List Int} {T:Trk} {ns:List Int} (f:FrS w (t::T)) (ht:t.2=ns++[no]):∃w',takeF w=(w',no,0)∧FrS w' ((t.1,ns)::T)∧w'.z=w.z∧w'.now.length=w.now.length∧pageAt w'.now no=zer w.z:=by
 have hzc:=f.zc;have hfew:=f.few;obtain ⟨a1,a2,a3,a4,a5,a6⟩:=f.tk;rw [a1] at a3;obtain ⟨_,b2,b3,b4⟩:=f.tr;have b3:frNums (pageAt w.now t.1)=t.2:=b3;have b5:rdN (pageAt w.now t.1) 4 4=ns.length+1:=by rw [←frNums_len,b3,ht];simp
 have b6:tkN w=ns.length+1:=by rw [a2,ht];simp
 have b7:ns.length+1≤(w.z-8) / 4:=by rw [ht] at b2;simpa using b2
 have hq:8+4*ns.length+4≤(pageAt w.now t.1).length:=by rw [a3];omega
 obtain ⟨c1,c2⟩:=nums_drop b5 hq (by omega);rw [b3,ht] at c1 c2;rw [List.dropLast_concat] at c1;rw [List.getLast?_concat] at c2;injection c2 with c2;have hm:=f.mt;have hno:2≤no∧no≤(w.now.length:Int):=hm.rg no (by rw [flatT_cons,ht];simp);have hp:(flatT (t::T)).Perm (no::flatT ((t.1,ns)::T)):=by
  rw [flatT_cons,flatT_cons,ht];show (t.1::((ns++[no])++flatT T)).Perm (no::t.1::(ns++flatT T));refine List.Perm.trans (List.Perm.cons _ ?_) (List.Perm.swap _ _ _);rw [List.append_assoc];exact List.perm_middle
 have hm2:=hm.perm hp.symm;have hnk:no≠t.1:=fun e=>(List.nodup_cons.1 hm2.nd).1 (by rw [flatT_cons,e];simp)
 let B:=put4 (put4 (pageAt w.now t.1) (8+4*ns.length) 0) 4 ns.length
 have hpl:B.length=w.z:=by show (put4 (put4 _ _ _) _ _).length=_;rw [put4_len (by rw [put4_len hq];omega),put4_len hq,a3]
 have hnx:=next_put (l:=pageAt w.now t.1) (k:=8+4*ns.length) (n:=0) (m:=ns.length) (by omega) hq;have hl1:=set_len (i:=(t.1-1).toNat) f.len hpl;have hw1:tkW w=({ w with now:=w.now.set (t.1-1).toNat B },0):=by
  unfold tkW;rw [b6,if_pos (by omega),f.hd,a1];exact f.wr a4 a5 hpl
 have hkn:tkNo w=no:=by unfold tkNo;rw [b6,if_pos (by omega),a1];exact c2.symm
 have hkf:tkFr w=t.1:=by unfold tkFr;rw [b6,if_pos (by omega),f.hd];rfl
 have e1:(w.now.set (t.1-1).toNat B).length=w.now.length:=List.length_set ..;have hz:tkZ w=({ w with now:=(w.now.set (t.1-1).toNat B).set (no-1).toNat (zer w.z) },0):=by
  unfold tkZ;rw [hw1,hkn];have hmz:no*(w.z:Int)≤16777216:=by
   have:no.toNat*w.z≤w.now.length*w.z:=Nat.mul_le_mul_right _ (by omega);have:=f.mul;rw [show no=((no.toNat:Nat):Int) by omega,←Int.natCast_mul];omega
  have h5:=St.write_0 (w:={ w with now:=w.now.set (t.1-1).toNat B }) (no:=no.toNat) (b:=zer w.z) f.i (by
   show ¬(_∨((w.now.set (t.1-1).toNat B).length:Int)+1<_∨w.now.set (t.1-1).toNat B=[]∨(zer w.z).length≠w.z);rw [e1,zer_len];rintro (h | h | h | h)
   ·omega
   ·omega
   ·have:=f.n1;rw [h] at e1;simp at e1;omega
   ·exact h rfl) (by show ¬(_∨16777216<((no.toNat:Nat):Int)*(w.z:Int));rw [show ((no.toNat:Nat):Int)=no by omega];rintro (h | h)<;>omega)
  rw [show ((no.toNat:Nat):Int)=no by omega] at h5;refine h5.trans ?_;show (({ w with now:=wth (w.now.set (t.1-1).toNat B) no.toNat (zer w.z) } : St),0)=_;unfold wth;rw [if_neg (by rw [e1];omega),show (no-1).toNat=no.toNat-1 by omega]
 have hn:=f.next (P:=(w.now.set (t.1-1).toNat B).set (no-1).toNat (zer w.z)) (T':=(t.1,ns)::T) ((set_head (by omega)).trans (set_head (by omega))) (set_len hl1 zer_len) (by simp [f.n]) (by simpa using f.mul) (by
  refine ⟨rfl,by show ns.length≤_;omega,?_,?_⟩
  ·show frNums (pageAt _ t.1)=ns;rw [pageAt_set (by omega) (by omega),pageAt_eq (by omega) (by omega)];exact c1
  ·show Tr _ _ ((rdN (pageAt _ t.1) 0 4:Nat):Int) T;rw [pageAt_set (by omega) (by omega),pageAt_eq (by omega) (by omega),hnx];refine Tr.congr (fun u hu=>?_) b4;have h5:=hm.rg u.1 (mem_flat (List.mem_cons_of_mem _ hu));have h6:=mt_ne hm hu;have h7:u.1≠no:=fun e=>h6.2 (by rw [ht,e];simp);rw [pageAt_set (by omega) (by omega)];exact pageAt_set (by omega) (by omega)) (by rw [List.length_set,e1];exact hm2.tail)
 refine ⟨_,?_,hn.2,rfl,by simp,?_⟩
 ·rw [takeF_h (by rw [f.op]) (by rw [f.op];simp [flatT_cons]) (by rw [hw1]) (by rw [hz])];have e:((flatT (t::T)).length:Int)-1=((flatT ((t.1,ns)::T)).length:Int):=by rw [hp.length_eq];simp
  have hh:tkH w=({ w with now:=((w.now.set (t.1-1).toNat B).set (no-1).toNat (zer w.z)).set 0 (pg1 w.z (hdF' w ((w.now.set (t.1-1).toNat B).set (no-1).toNat (zer w.z)) ((t.1,ns)::T))) },0):=by
   unfold tkH;rw [hz,hkf,f.hd];show hdd _ t.1 (((flatT (t::T)).length:Int)-1)=_;rw [e];exact hn.1
  rw [hh,hkn];rfl
 ·show pageAt (List.set _ 0 _) no=_;rw [pageAt_set (by omega) (by omega),pageAt_eq (by omega) (by rw [e1];omega)]
theorem FrS.take_b {t:Int × List Int} {T:Trk} (f:FrS w (t::T)) (ht:t.2=[]):∃w',takeF w=(w',t.1,0)∧FrS w' T∧w'.z=w.z∧w'.now.length=w.now.length∧pageAt w'.now t.1=zer w.z:=by
 have hzc:=f.zc;have hfew:=f.few;obtain ⟨a1,a2,a3,a4,a5,a6⟩:=f.tk;obtain ⟨_,b2,b3,b4⟩:=f.tr;have b4:Tr w.now ((w.z-8) / 4) ((rdN (pageAt w.now t.1) 0 4:Nat):Int) T:=b4;have b6:tkN w=0:=by rw [a2,ht];rfl
 have hm:=f.mt;have hw1:tkW w=(w,0):=by unfold tkW;rw [b6];rfl
 have hkn:tkNo w=t.1:=by unfold tkNo;rw [b6,if_neg (by omega),f.hd];rfl
 have hkf:tkFr w=frT T:=by unfold tkFr;rw [b6,if_neg (by omega),a1];exact b4.hd
 have hz:tkZ w=({ w with now:=w.now.set (t.1-1).toNat (zer w.z) },0):=by unfold tkZ;rw [hw1,hkn];exact f.wr a4 a5 zer_len
 rw [b4.hd] at b4;have hm2:Met w.now.length (flatT T):=by rw [flatT_cons,ht] at hm;exact hm.tail
 have hn:=f.next (P:=w.now.set (t.1-1).toNat (zer w.z)) (T':=T) (set_head (by omega)) (set_len f.len zer_len) (by simp [f.n]) (by simpa using f.mul) (by
  refine Tr.congr (fun u hu=>?_) b4;have h5:=hm2.rg u.1 (mem_flat hu);have h6:=mt_ne hm hu;exact pageAt_set (by omega) (by omega)) (by rw [List.length_set];exact hm2)
 refine ⟨_,?_,hn.2,rfl,by simp,?_⟩
 ·rw [takeF_h (by rw [f.op]) (by rw [f.op];simp [flatT_cons]) (by rw [hw1]) (by rw [hz])];have e:((flatT (t::T)).length:Int)-1=((flatT T).length:Int):=by rw [flatT_cons,ht];simp
  have hh:tkH w=({ w with now:=(w.now.set (t.1-1).toNat (zer w.z)).set 0 (pg1 w.z (hdF' w (w.now.set (t.1-1).toNat (zer w.z)) T)) },0):=by
   unfold tkH;rw [hz,hkf,f.hd];show hdd _ (frT T) (((flatT (t::T)).length:Int)-1)=_;rw [e];exact hn.1
  rw [hh,hkn];rfl
 ·show pageAt (List.set _ 0 _) t.1=_;rw [pageAt_set (by omega) (by omega),pageAt_eq (by omega) (by omega)]
theorem FrS.take_n (f:FrS w []) (h:(w.now.length+1)*w.z≤16777216):∃w',takeF w=(w',(w.now.length:Int)+1,0)∧FrS w' []∧w'.z=w.z∧w'.now.length=w.now.length+1∧pageAt w'.now ((w.now.length:Int)+1)=zer w.z:=by
 have hzc:=f.zc;have hfew:=f.few;have h1:=f.n1;have hw:w.write ((w.now.length:Int)+1) (zer w.z)=({ w with now:=w.now++[zer w.z] },0):=by
  have h5:=St.write_0 (w:=w) (no:=w.now.length+1) (b:=zer w.z) f.i (by rw [zer_len];rintro (h | h | h | h);omega;omega;exact f.n h;exact h rfl) (by rw [←Int.natCast_mul];rintro (h | h)<;>omega);rw [show ((w.now.length+1:Nat):Int)=(w.now.length:Int)+1 by omega] at h5;rw [h5];unfold wth;rw [if_pos (by omega)]
 have hn:=f.next (P:=w.now++[zer w.z]) (T':=[]) (by cases hq:w.now with | nil=>exact absurd hq f.n | cons a l=>rfl) (fun b hb=>(List.mem_append.1 hb).elim (f.len b) fun e=>by rw [List.mem_singleton.1 e];exact zer_len) (by simp) (by simpa using h) rfl Met.nil;have hg:frGrow w=(upP w (w.now++[zer w.z]) [],(w.now.length:Int)+1,0):=by
  rw [frGrow_h (by rw [f.pgs];rcases hzc with h6 | h6 | h6 | h6 | h6<;>rw [h6] at h⊢<;>omega) (by rw [f.pgs,hw]),f.pgs,hw];have h7:=hn.1;rw [show (((flatT []).length:Nat):Int)=0 from rfl,show frT []=0 from rfl] at h7;rw [h7];rfl
 refine ⟨_,?_,hn.2,rfl,by simp,?_⟩
 ·rw [takeF_g (by rw [f.op]) (by rw [f.op];rfl),hg];rfl
 ·show pageAt (List.set _ 0 _) _=_;rw [pageAt_set (by omega) (by omega)];unfold pageAt;rw [show ((w.now.length:Int)+1-1).toNat=w.now.length by omega];simp
end
end Go.Proofs.YtndlpekckpdncaaGreat
namespace Go.HL
open Go Go.Proofs.YtndlpekckpdncaaGreat
theorem Hp.addM15 {h0 h h':Heap} {D:Nat→Prop} {M R:List Itm} {a:Itm} (ok:Hp h0 D M R h) (q:Hp h none_ [a] [] h'):Hp h0 D (a::M) R h':=
 ok.newM q.chg a q.m0 fun j hj=>by
  have h1:=(q.m a List.mem_cons_self).2 j hj;exact ⟨h1.2.elim (fun f=>f.elim) id,h1.1⟩
end Go.HL
namespace Go.Proofs.YtndlpekckpdncaaGreat
open Go Go.HL
section
variable {f:FuncId} {args:Array Value} {h:Heap} {F:Nat→Prop} {G:Pgr} {so c:Nat} {w':St} {ci n:Int}
theorem ansE {x:St × Nat} (q:HC Tryz.prog f args h (fun v h'=>∃F',v=.int .i64 ((x.2:Nat):Int)∧Hp h F [dsI G so F' x.1] [] h')) (e:x=(w',c)) (hc:((c:Nat):Int)=ci):HC Tryz.prog f args h (fun v h'=>∃F',v=.int .i64 ci∧Hp h F [dsI G so F' w'] [] h'):=by subst e hc;exact q
theorem ansT {x:St × Int × Nat} (q:HC Tryz.prog f args h (fun v h'=>∃F',v=.tuple #[.int .i64 x.2.1,.int .i64 ((x.2.2:Nat):Int)]∧Hp h F [dsI G so F' x.1] [] h')) (e:x=(w',n,c)) (hc:((c:Nat):Int)=ci):HC Tryz.prog f args h (fun v h'=>∃F',v=.tuple #[.int .i64 n,.int .i64 ci]∧Hp h F [dsI G so F' w'] [] h'):=by subst e hc;exact q
theorem docE {E:Nat→Prop} {x:St × Nat} (q:HC Tryz.prog f args h (fun v h'=>∃w:RDs,v=.tuple #[.agg w.cells,.int .i64 ((x.2:Nat):Int)]∧w.abs=x.1∧SRet h E w h')) (e:x=(w',c)) (hc:((c:Nat):Int)=ci):HC Tryz.prog f args h (fun v h'=>∃w:RDs,v=.tuple #[.agg w.cells,.int .i64 ci]∧w.abs=w'∧SRet h E w h'):=by subst e hc;exact q
end
def opB (z:Nat):St:=⟨z,[],true,[],[]⟩
def hd1 (z:Nat):Hd:=⟨(z:Int),1,0,0,0,0⟩
def opL (z j:Nat):List (List UInt8):=pg1 z (hd1 z)::(List.range j).map fun i=>pageG z (i+2)
def opV (z j:Nat):St:=⟨z,[],true,opL z j,[]⟩
def opW (z n:Nat):St:=if n=0 then opB z else opV z (n-1)
theorem chk_hd1 {z:Nat} (hz:okSz z=true):ChkP (hd1 z):=by
 have:=okSz_c hz;refine ⟨decide_eq_true (by show (z:Int)=256∨(z:Int)=512∨(z:Int)=1024∨(z:Int)=2048∨(z:Int)=4096;omega),⟨by show (1:Int)≤1;omega,by show (1:Int)≤1048576;omega,by show (z:Int)*1≤16777216;omega⟩,⟨by show (0:Int)≤0;omega,by show (0:Int)<1;omega,fun _=>rfl,fun h=>absurd h (by show ¬(0:Int)<0;omega)⟩,⟨by show (0:Int)≤0;omega,by show (0:Int)≤2147483647;omega⟩,by show (0:Int)≤0;omega,by show (0:Int)≤2147483647;omega⟩
theorem hd1_in {z:Nat} (hz:okSz z=true):HdIn (⟨(z:Int),1,0,0,0,0⟩:Hd):=by
 have:=okSz_c hz;refine ⟨?_,?_,?_,?_,?_,?_⟩<;>(unfold i64N;dsimp only;omega)
theorem op_begin {z:Nat} : St.begin_ (newS z)=(opB z,0):=rfl
theorem op_head {z:Nat} (hz:okSz z=true):St.setHead (opB z) (⟨(z:Int),1,0,0,0,0⟩:Hd)=(opV z 0,0):=
 St.setHead_0 (w:=opB z) (n:=1) rfl (by rintro (h | h | h);exact h (chk_hd1 hz);exact h rfl;exact absurd h (by show ¬(max 1 ((0:Nat):Int)<1);decide)) rfl
theorem opL_len {z j:Nat} : (opL z j).length=j+1:=by simp [opL]
theorem op_write {z j:Nat} (hz:okSz z=true) (hj:j≤100):St.write (opV z j) ((j+2:Nat):Int) (pageG z (j+2))=(opV z (j+1),0):=by
 have hzc:=okSz_c hz;have hm:(j+2)*z≤16777216:=Nat.le_trans (Nat.mul_le_mul (show j+2≤102 by omega) (show z≤4096 by omega)) (by decide);rw [St.write_0 (w:=opV z j) rfl (by show ¬(_∨((opL z j).length:Int)+1<_∨opL z j=[]∨(pageG z (j+2)).length≠z);rw [opL_len,pageG_len];rintro (h | h | h | h);omega;omega;simp [opL] at h;exact h rfl) (by show ¬(_∨16777216<((j+2:Nat):Int)*(z:Int));rw [←Int.natCast_mul];rintro (h | h)<;>omega)];show (({ opV z j with now:=wth (opL z j) (j+2) (pageG z (j+2)) } : St),0)=_;unfold wth;rw [opL_len,if_pos (by omega)];unfold opV opL;rw [List.range_succ,List.map_append];rfl
def W0 (z:Nat):RDs:=⟨z,none,0,[],false,none,0,[],none,0,[]⟩
theorem doc0 {h:Heap} {z:Nat} : DocS h none_ (W0 z):=⟨RwB.nil _ _ 0 (by decide),RwB.nil _ _ 0 (by decide),RwP.nil _ _⟩
theorem rlen {W:RDs} {w:St} {k:Nat} (h:W.abs=w) (hk:w.now.length=k):W.nl.length=k:=by rw [←hk,←h];exact pgs_len.symm
theorem opened16_any {h:Heap} {z n:Nat} {ah:Bool} {c:Int} (hz:okSz z=true) (hc:1≤c∧c≤1024) (hn:n≤60) :
  HC Tryz.prog 16 #[.agg #[.int .i64 (z:Int),.bool ah,.int .i64 c],.int .i64 (n:Int)] h (fun v h'=>∃so F W E,v=.tuple #[.pointer (some ⟨so,0,none⟩),.agg (RDs.cells W),.bool true]∧(∀j,E j→h.size≤j)∧W.abs=opW z n∧Hp h none_ [dsI (nG ah) so F (opW z n)] [dstI E W] h'):=by
 have ok:=Hp.nil h none_;have hzc:=okSz_c hz;refine HC.go Tryz.func16 85 ?_;refine .seq<|.r<|.a' 2 (.bxA (cs:=[.int .i64 (z:Int),.bool ah,.int .i64 c]) ok) ?_;rintro _ η1 ⟨pb1,rfl,ok,xe⟩;refine .z .asP<|.a' 5 (.alA T.zr31 ok) ?_;rintro _ η2 ⟨pb2,rfl,ok,xe⟩;refine .z .asB<|.nil ?_;refine .seq<|.r<|.z (.fa T.fd23_0)<|.z (.ldx T.ag3 ok.m1)<|.z (.bd #[.int .i64 (z:Int),.slice none 0 0,.bool false,.slice none 0 0,.slice none 0 0] T.zr31 T.pl31 rfl)<|.a' 7 (.alA T.zr31 ok) ?_;rintro _ η3 ⟨pb3,rfl,ok,xe⟩;refine .ur' (.stW (vs:=[.int .i64 (z:Int),.slice none 0 0,.bool false,.slice none 0 0,.slice none 0 0]) T.sz31 ok (oneL rfl)) ?_;rintro η4 ⟨ok,cg⟩;refine .nil ?_;refine .seq<|?_;have ok:=ok.dE (dstI none_ (W0 z)) doc0 (fun _ f=>f);refine .a 2 (fun fl hh=>cond fl True (Hp h none_ [boxI pb3 31 [.int .i64 (z:Int),.slice none 0 0,.bool false,.slice none 0 0,.slice none 0 0],boxI pb2 31 [.int .i64 0,.slice none 0 0,.bool false,.slice none 0 0,.slice none 0 0],boxI pb1 23 [.int .i64 (z:Int),.bool ah,.int .i64 c]] [dstI none_ (W0 z)] hh)) mixed ?_;have hS:=ok;refine .l 1 false rfl 19 hS (fun _ hS=>.ldb T.ag23 hS.m2 T.sz23)<|.o1 0<|.c' false rfl 18 .func dgnew_any ?_;rintro _ η5 ⟨dnd1,Fnd1,rfl,q⟩;have ok:=Hp.addM15 ok q;refine ⟨ok.n3.n3.n3.k3,?_⟩;have hS:=ok.n3.n3.n3.k3;refine .o1 2<|.c' true rfl 20 .func (sopn_any (z:=z) (ah:=ah) (room:=c) (ok).loc0 hz hc) ?_;rintro _ η6 ⟨so,rfl,Fo1,q⟩;have ok:=(ok).lift1 q;refine ⟨trivial,?_⟩;refine .g 3 true rfl 17 trivial (fun _=>.mvU)<|.g 4 true rfl 21 trivial (fun _=>.ex)<|.g 5 true rfl 22 trivial (fun _=>.ex)<|.g 6 true rfl 8 trivial (fun _=>.asP)<|.g 7 true rfl 9 trivial (fun _=>.asI)<|.e ?_;refine .seq<|.seq<|.r<|.z .mvI<|.z .neq<|.z .mvB<|.z .mvP<|.z (.pEqS T.pt27)<|.z .pkf<|.z .mvB<|.z .mvP<|.c' 31 .func (ansE (ci:=0) (sBegin_any (G:=(nG ah)) (w:=(newS z)) (ok).loc0) op_begin rfl) ?_;rintro _ η7 ⟨Fb1,rfl,q⟩;have ok:=(ok).lift1 q;refine .z .neq<|.z .pkf<|.nil ?_;refine .cf<|.skip<|.seq<|.r<|.z (.ldb T.ag31 ok.m1 T.sz31)<|.c' 37 .func (docE (ci:=0) (rbegin_any (E:=none_) (z:=(W0 z).z) (sa:=(W0 z).sa) (sc:=(W0 z).sc) (sl:=(W0 z).sl) (ib:=(W0 z).i) (na:=(W0 z).na) (nc:=(W0 z).nc) (nl:=(W0 z).nl) (va:=(W0 z).va) (vc:=(W0 z).vc) (vl:=(W0 z).vl) (ok).r0) (show St.begin_ (W0 z).abs=(opB z,_) by rw [(show (W0 z).abs=newS z from rfl)];exact op_begin) rfl) ?_;rintro _ η8 ⟨Wd1,rfl,hWd1,q⟩;have hsz:=ok.chg.size;obtain ⟨Ed1,hEd1,ok⟩:=(ok).sdoc q;have hEd1:∀j,Ed1 j→h.size≤j:=fun j hj=>(hEd1 j hj).elim ((fun j f=>f.elim) j) (fun g=>Nat.le_trans hsz g);rw [show Value.agg Wd1.cells=.agg #[.int .i64 (Wd1.z:Int),.slice Wd1.sa Wd1.sl.length Wd1.sc,.bool Wd1.i,.slice Wd1.na Wd1.nl.length Wd1.nc,.slice Wd1.va Wd1.vl.length Wd1.vc] from rfl];refine .z .mvU<|.z .ex<|.z .ex<|.ur' (.stW (vs:=[.int .i64 (Wd1.z:Int),.slice Wd1.sa Wd1.sl.length Wd1.sc,.bool Wd1.i,.slice Wd1.na Wd1.nl.length Wd1.nc,.slice Wd1.va Wd1.vl.length Wd1.vc]) T.sz31 ok.n1 (oneL rfl)) ?_;rintro η9 ⟨ok,cg⟩;refine .nil ?_;refine .seq<|.seq<|.r<|.z .mvI<|.z .lss<|.nil ?_;refine .cd (fun C1=>?_) (fun C1=>?_)
 ·
  refine .seq<|.t 3 mixed ?_;simp only [List.take_succ_cons,List.take_zero,List.drop_succ_cons,List.drop_zero];refine .z .mvP<|.z (.ldb T.ag31 ok.m0 T.sz31)<|.z .asP<|.nil ?_;refine .ur' (.stW (vs:=[.int .i64 (Wd1.z:Int),.slice Wd1.sa Wd1.sl.length Wd1.sc,.bool Wd1.i,.slice Wd1.na Wd1.nl.length Wd1.nc,.slice Wd1.va Wd1.vl.length Wd1.vc]) T.sz31 ok.n2 (oneL rfl)) ?_;rintro η10 ⟨ok,cg⟩;refine .z .asB<|.nil ?_;refine .ret ⟨.tuple #[.pointer (some ⟨so,0,none⟩),.agg #[.int .i64 (Wd1.z:Int),.slice Wd1.sa Wd1.sl.length Wd1.sc,.bool Wd1.i,.slice Wd1.na Wd1.nl.length Wd1.nc,.slice Wd1.va Wd1.vl.length Wd1.vc],.bool true],Res.many (vs:=[.pointer (some ⟨so,0,none⟩),.agg #[.int .i64 (Wd1.z:Int),.slice Wd1.sa Wd1.sl.length Wd1.sc,.bool Wd1.i,.slice Wd1.na Wd1.nl.length Wd1.nc,.slice Wd1.va Wd1.vl.length Wd1.vc],.bool true]) rfl ⟨rfl,⟨_,rfl,load_ag T.ag31 ok.m0 T.sz31⟩,rfl,trivial⟩ rfl,⟨so,Fb1,Wd1,Ed1,rfl,hEd1,by rw [show opW z n=(opB z) from if_pos (by omega)];exact hWd1,by rw [show opW z n=(opB z) from if_pos (by omega)];exact (ok.n2).k1.e1⟩⟩
 refine .skip<|.seq<|.r<|.z (.fa T.fd23_0)<|.z (.ldx T.ag3 ok.m3)<|.z (.bd #[.int .i64 (z:Int),.int .i64 1,.int .i64 0,.int .i64 0,.int .i64 0,.int .i64 0] T.zr38 T.pl38 rfl)<|.a' 10 (.alA T.zr38 ok) ?_;rintro _ η11 ⟨pb4,rfl,ok,xe⟩;refine .ur' (.stW (vs:=[.int .i64 (z:Int),.int .i64 1,.int .i64 0,.int .i64 0,.int .i64 0,.int .i64 0]) T.sz38 ok (oneL rfl)) ?_;rintro η12 ⟨ok,cg⟩;refine .nil ?_;refine .seq<|.r<|.z .mvP<|.z (.ldb T.ag38 ok.m0 T.sz38)<|.c' 49 .func (ansE (ci:=0) (sSetHead_any (G:=(nG ah)) (w:=(opB z)) (H:=(⟨(z:Int),1,0,0,0,0⟩:Hd)) (ok.n2).loc0 (hd1_in hz)) (op_head hz) rfl) ?_;rintro _ η13 ⟨Fs1,rfl,q⟩;have ok:=(ok.n2).lift1 q;refine .z .eql<|.z .asB<|.nil ?_;refine .seq<|.r<|.z (.ldb T.ag31 ok.m2 T.sz31)<|.z (.ldb T.ag38 ok.m1 T.sz38)<|.c' 54 .func (docE (ci:=0) (rsetHead_any (E:=Ed1) (z:=Wd1.z) (sa:=Wd1.sa) (sc:=Wd1.sc) (sl:=Wd1.sl) (ib:=Wd1.i) (na:=Wd1.na) (nc:=Wd1.nc) (nl:=Wd1.nl) (va:=Wd1.va) (vc:=Wd1.vc) (vl:=Wd1.vl) (ok).r0 (H:=(⟨(z:Int),1,0,0,0,0⟩:Hd)) (hd1_in hz) (by rw [show (RDs.z Wd1)=z from congrArg St.z hWd1];exact hz) (by rw [rlen hWd1 (show _=0 from rfl)];omega)) (show St.setHead Wd1.abs (⟨(z:Int),1,0,0,0,0⟩:Hd)=(opV z 0,_) by rw [hWd1];exact op_head hz) rfl) ?_;rintro _ η14 ⟨Wd2,rfl,hWd2,q⟩;have hsz:=ok.chg.size;obtain ⟨Ed2,hEd2,ok⟩:=(ok).sdoc q;have hEd2:∀j,Ed2 j→h.size≤j:=fun j hj=>(hEd2 j hj).elim (hEd1 j) (fun g=>Nat.le_trans hsz g);rw [show Value.agg Wd2.cells=.agg #[.int .i64 (Wd2.z:Int),.slice Wd2.sa Wd2.sl.length Wd2.sc,.bool Wd2.i,.slice Wd2.na Wd2.nl.length Wd2.nc,.slice Wd2.va Wd2.vl.length Wd2.vc] from rfl];refine .z .mvU<|.z .ex<|.z .ex<|.ur' (.stW (vs:=[.int .i64 (Wd2.z:Int),.slice Wd2.sa Wd2.sl.length Wd2.sc,.bool Wd2.i,.slice Wd2.na Wd2.nl.length Wd2.nc,.slice Wd2.va Wd2.vl.length Wd2.vc]) T.sz31 ok.n2 (oneL rfl)) ?_;rintro η15 ⟨ok,cg⟩;refine .nil ?_;refine .seq<|.seq<|.r<|.z .asI<|.nil ?_;refine .block fun K0 hK0=>.loop (fun m s hh=>∃(j:Nat) (Fo Eo:Nat→Prop) (W:RDs),Has s [(1,.int .i64 (n:Int)),(2,.pointer (some ⟨pb1,0,none⟩)),(5,.pointer (some ⟨pb2,0,none⟩)),(7,.pointer (some ⟨pb3,0,none⟩)),(8,.pointer (some ⟨so,0,none⟩)),(11,.bool true),(12,.int .i64 ((j+2:Nat):Int))]∧Hp h none_ [dsI (nG ah) so Fo (opV z j),boxI pb3 31 [.int .i64 (W.z:Int),.slice W.sa W.sl.length W.sc,.bool W.i,.slice W.na W.nl.length W.nc,.slice W.va W.vl.length W.vc],boxI pb1 23 [.int .i64 (z:Int),.bool ah,.int .i64 c],boxI pb2 31 [.int .i64 0,.slice none 0 0,.bool false,.slice none 0 0,.slice none 0 0]] [dstI Eo W] hh∧j+1≤n∧W.abs=opV z j∧(∀j,Eo j→h.size≤j)∧m=n-j) ?_ ?_
 ·exact ⟨_,0,Fs1,Ed2,Wd2,⟨rfl,rfl,rfl,rfl,rfl,rfl,rfl,trivial⟩,(ok.n3.n4.n2.n3).k4.e1,by omega,hWd2,hEd2,rfl⟩
 rintro _ _ η16 ⟨j,Fo,Eo,W,hs,ok,hjn,hWo,hEo,rfl⟩ J0 hJ0;refine .frame hs fun τ=>?_;refine .seq<|.seq<|.r<|.z .mvI<|.z .mvI<|.z .leq<|.nil ?_;refine .cdr (fun C2=>?_) (fun C2=>?_)
 ·
  refine .exit<|hK0 _ _<|.seq<|.a 4 (fun fl hh=>cond fl True (Hp h none_ [dsI (nG ah) so Fo (opV z j),boxI pb3 31 [.int .i64 (W.z:Int),.slice W.sa W.sl.length W.sc,.bool W.i,.slice W.na W.nl.length W.nc,.slice W.va W.vl.length W.vc],boxI pb1 23 [.int .i64 (z:Int),.bool ah,.int .i64 c],boxI pb2 31 [.int .i64 0,.slice none 0 0,.bool false,.slice none 0 0,.slice none 0 0]] [dstI Eo W] hh)) mixed ?_;have hS:=ok;refine .g 0 false rfl 82 hS (fun _=>.mvP)<|.l 1 false rfl 83 hS (fun _ hS=>.ldb T.ag31 hS.m1 T.sz31)<|.g 2 false rfl 84 hS (fun _=>.mvB)<|.g 3 false rfl 4 hS (fun _=>.asP)<|.o1 4<|.ur' true rfl (.stW (vs:=[.int .i64 (W.z:Int),.slice W.sa W.sl.length W.sc,.bool W.i,.slice W.na W.nl.length W.nc,.slice W.va W.vl.length W.vc]) T.sz31 ok.n3 (oneL rfl)) ?_;rintro η17 ⟨ok,cg⟩;refine ⟨trivial,?_⟩;refine .g 5 true rfl 6 trivial (fun _=>.asB)<|.e ?_;refine .ret ⟨.tuple #[.pointer (some ⟨so,0,none⟩),.agg #[.int .i64 (W.z:Int),.slice W.sa W.sl.length W.sc,.bool W.i,.slice W.na W.nl.length W.nc,.slice W.va W.vl.length W.vc],.bool true],Res.many (vs:=[.pointer (some ⟨so,0,none⟩),.agg #[.int .i64 (W.z:Int),.slice W.sa W.sl.length W.sc,.bool W.i,.slice W.na W.nl.length W.nc,.slice W.va W.vl.length W.vc],.bool true]) rfl ⟨rfl,⟨_,rfl,load_ag T.ag31 ok.m0 T.sz31⟩,rfl,trivial⟩ rfl,⟨so,Fo,W,Eo,rfl,hEo,by rw [show opW z n=(opV z j) from (if_neg (by omega)).trans (by rw [show n-1=j by omega])];exact hWo,by rw [show opW z n=(opV z j) from (if_neg (by omega)).trans (by rw [show n-1=j by omega])];exact (ok.n1).k1⟩⟩
 refine .skip<|.seq<|.block fun K1 hK1=>.seq<|.r<|.z (.fa T.fd23_0)<|.z (.ldx T.ag3 ok.m2)<|.z .mvI<|.z (.cvm T.in5 T.in3 (M:=256) rfl rfl)<|?_;rw [show ((j+2)%256)=(j+2) from by omega];refine .c' 66 .func (page15_any (z:=z) (seed:=(j+2)) (by omega) (by omega)) ?_;rintro _ η18 own;obtain ⟨ya1,yc1,rfl⟩:=own.formB;have ok:=ok.own own;refine .z .asS<|.nil ?_;refine .seq<|.r<|.z .mvB<|.z .mvB<|.z .mvP<|.z .mvI<|.z .mvS<|.c' 72 .func (ansE (ci:=0) (sWriteC_any (G:=(nG ah)) (w:=(opV z j)) (no:=((j+2:Nat):Int)) (l:=(pageG z (j+2))) (ok.n1) (by rw [pageG_len];omega)) (op_write hz (by omega)) rfl) ?_;rintro _ η19 ⟨Fk1,rfl,q⟩;have ok:=(ok.n1).lift1 q;refine .z .eql<|.z .pkt<|.z .asB<|.nil ?_;refine .r<|.z (.ldb T.ag31 ok.m2 T.sz31)<|.z .mvI<|.z .mvS<|.c' 79 .func (docE (ci:=0) (rwrite_any (E:=Eo) (z:=W.z) (sa:=W.sa) (sc:=W.sc) (sl:=W.sl) (ib:=W.i) (na:=W.na) (nc:=W.nc) (nl:=W.nl) (va:=W.va) (vc:=W.vc) (vl:=W.vl) (ok).r0 (no:=((j+2:Nat):Int)) (ba:=ya1) (bc:=yc1) (bl:=(pageG z (j+2))) (RdL.ofCapB (v:=(ya1,(pageG z (j+2)).length,yc1)) (l:=(pageG z (j+2))) ok.m1) ⟨by omega,by omega⟩ (by rw [show (RDs.z W)=z from congrArg St.z hWo];exact hz) (by rw [rlen hWo (show _=j+1 from opL_len)];omega)) (show St.write W.abs ((j+2:Nat):Int) (pageG z (j+2))=(opV z (j+1),_) by rw [hWo];exact op_write hz (by omega)) rfl) ?_;rintro _ η20 ⟨Wd3,rfl,hWd3,q⟩;have hsz:=ok.chg.size;obtain ⟨Ed3,hEd3,ok⟩:=(ok).sdoc q;have hEd3:∀j,Ed3 j→h.size≤j:=fun j hj=>(hEd3 j hj).elim (hEo j) (fun g=>Nat.le_trans hsz g);rw [show Value.agg Wd3.cells=.agg #[.int .i64 (Wd3.z:Int),.slice Wd3.sa Wd3.sl.length Wd3.sc,.bool Wd3.i,.slice Wd3.na Wd3.nl.length Wd3.nc,.slice Wd3.va Wd3.vl.length Wd3.vc] from rfl];refine .z .mvU<|.z .ex<|.z .ex<|.ur' (.stW (vs:=[.int .i64 (Wd3.z:Int),.slice Wd3.sa Wd3.sl.length Wd3.sc,.bool Wd3.i,.slice Wd3.na Wd3.nl.length Wd3.nc,.slice Wd3.va Wd3.vl.length Wd3.vc]) T.sz31 ok.n2 (oneL rfl)) ?_;rintro η21 ⟨ok,cg⟩;refine .nil ?_;refine .end<|hK1 _ _<|.r<|.z .mvI<|.z (.addI (b:=1))<|.z .asI<|.nil ?_;refine .end<|hJ0 _ _ _ ⟨j+1,Fk1,Ed3,Wd3,⟨rfl,rfl,rfl,rfl,rfl,rfl,rfl,trivial⟩,(ok.n4.n4.n2.n3).k4.e1,by omega,hWd3,hEd3,rfl⟩ (by omega)
end Go.Proofs.YtndlpekckpdncaaGreat
