/- The pager that keeps a journal, its power on: small functions. Conditions: those that each names. The pager that logs ahead, its power on: what is told of it; a page is read. Conditions: the disk is in order; the pages stand where the pager has them. The pager that logs ahead, its power on: what holds between its calls. Conditions: those that each fact names. The pager that logs ahead, its power on: a transaction begins; pages are read, written, come and go. Conditions: the pager is in order. The pager that logs ahead: the present pages become the sure ones. Conditions: the numbers are small. The pager that logs ahead: may a transaction be committed, and which of its pages are unlike the sure ones. Conditions: the pager is in order. The pager that logs ahead, its power on: may a transaction be committed, and which of its pages are unlike the sure ones. Conditions: the pager is in order. The program's Scan of a log that has its head alone. Conditions: the head is right. The pager that logs ahead, its power on: a log's head is written; frames are put behind the log, and the mark counts them. Conditions: the pager is in order. The pager that logs ahead, its power on: the present pages become the sure ones. Conditions: the numbers are small. What a pager that logs ahead has on its disk between its calls, in plain terms; a commit keeps it; wherever the power goes within, the sure pages are there, or those of the commit. Conditions: those that each fact names. The pager that logs ahead, its power on: the log is carried over to the file and forgotten. Conditions: the frames are in order. A pager in memory behind what commits and checkpoints do: it is still tied to the one in plain terms. Conditions: those that each fact names. The pager that logs ahead, its power on: the log carried over, a commit, in plain terms. Conditions: those that each fact names. The pager that logs ahead, its power on: a transaction is committed. Conditions: the pager is in order; the pages fit. The contracts of maps.Keys, slices.Sorted and slices.Sort, laid at this program by the kit. Conditions: none. maps.Keys and slices.Sorted over the store's map of pages. Conditions: the keys are ints of 64 bits. A pager of whatever make that keeps what is committed, its power on; and what a store's commit asks and leaves, in plain terms. Conditions: those that each fact names. The pager that logs ahead, its power on, opened on a new disk; it keeps what is committed. Conditions: not too much is done. -/
import Derived.Test.YtndlpekckpdncaaGreatPkC8
import Derived.Shelf.SlIterI.Nil
import Derived.Shelf.SortM.Plain
import Derived.Shelf.SortM.SortNone
import Derived.Ground.GgzProg
import Derived.Ground.SlgmProg
import Derived.Test.YtndlpekckpdncaaGreatProg
set_option maxRecDepth 100000
set_option maxHeartbeats 2000000
set_option linter.all false
namespace Go.Proofs.YtndlpekckpdncaaGreat
open Go Go.HL
theorem hgone_any {h:Heap} {d:Nat} {F:Nat→Prop} {D:Dk} {n:List UInt8} (k:HD D) (hc:D.chg<890000000) (hn:nOk n) (ok:Hp h F [dgI d F D] [] h) :
  HC Tryz.prog 215 #[.pointer (some ⟨d,0,none⟩),.string (BA n)] h (fun v h'=>v=.int .i64 0∧∃F' D',HUp D D' n none 2∧Hp h F [dgI d F' D'] [] h'):=by
 obtain ⟨r,E,rfl,o,hf,he⟩:=dg_open ok;refine (bgone_any o k.dk (by show r.chg<_;have:r.chg<890000000:=hc;omega) hn).mono fun v h' ⟨r',E',hv,ha,up⟩=>?_;obtain ⟨F',hp⟩:=dg_up up hf he;rw [ha] at hp;exact ⟨by rw [hv,(k.gone hn).1];rfl,F',_,(k.gone hn).2,hp⟩
theorem longN_self {b:List UInt8} {n:Nat} (h:(b.length:Int)=n):longN b n=b:=by
 have:n=b.length:=by omega
 subst this;rw [longN_le (Nat.le_refl _),List.take_length]
def presH (r:RH):Nat:=if r.in_=true then r.now else r.sure
theorem pgF_pad {z i:Nat} {f:List UInt8} : pgF z f i=((f.drop (i*z)).take z)++List.replicate (z-((f.drop (i*z)).take z).length) 0:=longN_ge (by rw [List.length_take];omega)
theorem hover_any {h:Heap} {d:Nat} {F:Nat→Prop} {D:Dk} (k:HD D) (hc:D.chg<880000000) (ok:Hp h F [dgI d F D] [] h) :
  HC Tryz.prog 183 #[.pointer (some ⟨d,0,none⟩)] h (fun v h'=>v=.int .i64 0∧∃F' D',HD D'∧cont D' nT=cont D nT∧D'.chg≤D.chg+4∧Hp h F [dgI d F' D'] [] h'):=by
 refine HC.go Tryz.func183 11 ?_;refine .s<|.z .asI<|.nil<|.seq<|.s<|.z .mvP<|.c' 5 .func (hgone_any (D:=D) (n:=nM) k (show D.chg<890000000 by omega) nM_h (ok).loc0) ?_;rintro _ η1 ⟨rfl,Fy1,Dy1,uy1,q⟩;have ok:=(ok).lift1 q;have hcy1:=uy1.chg;refine .z .asI<|.nil<|.s<|.z .mvI<|.z .neq<|.nil<|.cf<|.skip<|.s<|.z .mvP<|.c' 10 .func (hgone_any (D:=Dy1) (n:=nJ) uy1.hd (show Dy1.chg<890000000 by omega) nJ_h (ok).loc0) ?_;rintro _ η2 ⟨rfl,Fy2,Dy2,uy2,q⟩;have ok:=(ok).lift1 q;have hcy2:=uy2.chg;refine .z .asI<|.nil<|.ret ⟨.int .i64 0,Res.one rfl rfl,⟨rfl,Fy2,Dy2,uy2.hd,((uy2.ne _ (by decide)).trans ((uy1.ne _ (by decide)).trans rfl)),by omega,ok⟩⟩
theorem hlen_any {h:Heap} {d n:Nat} {F:Nat→Prop} {D:Dk} {b:List UInt8} (k:HD D) (hb:cont D nT=some b) (hn:n≤16777216) (hc:D.chg<880000000) (ok:Hp h F [dgI d F D] [] h) :
  HC Tryz.prog 214 #[.pointer (some ⟨d,0,none⟩),.int .i64 (n:Int)] h (fun v h'=>v=.int .i64 0∧∃F' D',HD D'∧cont D' nT=some (longN b n)∧D'.chg≤D.chg+2∧Hp h F [dgI d F' D'] [] h'):=by
 refine HC.go Tryz.func214 45 ?_;refine .s<|.z .asI<|.nil<|.s<|.z .mvP<|.k 10 .func (hysize_any (b:=b) k hb (ok).loc0)<|.z .mvU<|.z .ex<|.z .ex<|.z .asI<|.z .asB<|.nil<|.s<|.z .asI<|.nil<|.seq<|.block fun K0 hK0=>.s<|.z .mvB<|.z .not<|.z .mvB<|.y<|.y<|.z .pkf<|.z .mvB<|.y<|.y<|.y<|.z .pkf<|.z .asB<|.nil<|.cf<|.s<|.z .mvB<|.z .not<|.z .asB<|.nil<|.cf<|.s<|.z .mvI<|.z .mvI<|.z .neq<|.z .asB<|.nil<|.cd (fun C2=>?_) (fun C2=>?_)
 ·
  refine .r<|.z .mvP<|.z .mvI<|.c' 39 .func (htrunc_any (D:=D) (n:=nT) (b:=b) (z:=n) k (by omega) nT_h hb (by omega) (ok).loc0) ?_;rintro _ η1 ⟨rfl,Fy1,Dy1,uy1,q⟩;have ok:=(ok).lift1 q;have hcy1:=uy1.chg;refine .z .asI<|.nil<|.end<|hK0 _ _<|.seq<|.s<|.z .mvI<|.z .neq<|.nil<|.cf<|.skip<|.s<|.z .mvP<|.c' 44 .func (hsync_any (D:=Dy1) (n:=nT) (b:=longN b n) uy1.hd (by omega) nT_h uy1.at_ (ok).loc0) ?_;rintro _ η2 ⟨rfl,Fy2,Dy2,uy2,q⟩;have ok:=(ok).lift1 q;have hcy2:=uy2.chg;refine .z .asI<|.nil<|.ret ⟨.int .i64 0,Res.one rfl rfl,⟨rfl,Fy2,Dy2,uy2.hd,uy2.at_,by omega,ok⟩⟩
 refine .skip<|.end<|hK0 _ _<|.seq<|.s<|.z .mvI<|.z .neq<|.nil<|.cf<|.skip<|.s<|.z .mvP<|.c' 44 .func (hsync_any (D:=D) (n:=nT) (b:=b) k (by omega) nT_h hb (ok).loc0) ?_;rintro _ η3 ⟨rfl,Fy3,Dy3,uy3,q⟩;have ok:=(ok).lift1 q;have hcy3:=uy3.chg;refine .z .asI<|.nil<|.ret ⟨.int .i64 0,Res.one rfl rfl,⟨rfl,Fy3,Dy3,uy3.hd,(by rw [longN_self (by omega)];exact uy3.at_),by omega,ok⟩⟩
theorem hst_any {h:Heap} {p:Nat} {r:RH} (hb:(hboxI p r).p h) :
  HC Tryz.prog 302 #[.pointer (some ⟨p,0,none⟩)] h (fun v h'=>v=.int .i64 0∧h'=h):=by
 refine HC.go Tryz.func302 11 ?_;refine .s<|.z .asI<|.nil<|.seq<|.block fun K0 hK0=>.s<|.z .mvP<|.z (.pEqS T.pt140)<|.z .asB<|.nil<|.cf<|.s<|.z .mvP<|.z .nil<|.z (.fa T.fd212_6)<|.z (.ldx T.ag4 hb)<|.z .asB<|.nil<|.cf<|.skip<|.end<|hK0 _ _<|.s<|.z .asI<|.nil<|.ret ⟨.int .i64 0,Res.one rfl rfl,⟨rfl,rfl⟩⟩
theorem hpres_any {h:Heap} {p:Nat} {r:RH} (hb:(hboxI p r).p h) :
  HC Tryz.prog 307 #[.pointer (some ⟨p,0,none⟩)] h (fun v h'=>v=.int .i64 ((presH r:Nat):Int)∧h'=h):=by
 refine HC.go Tryz.func307 17 ?_;refine .s<|.z .asI<|.nil<|.seq<|.s<|.z .mvP<|.z .nil<|.z (.fa T.fd212_0)<|.z (.fa T.fd210_0)<|.z (.ldx T.ag4 hb)<|.nil<|.cond (fun C0=>?_) (fun C0=>?_)
 ·
  refine .s<|.z .mvP<|.z .nil<|.z (.fa T.fd212_0)<|.z (.fa T.fd210_1)<|.z (.ldx T.ag3 hb)<|.z .asI<|.nil<|.ret ⟨.int .i64 (r.now:Int),Res.one rfl rfl,⟨by rw [show presH r=r.now from if_pos C0],rfl⟩⟩
 refine .skip<|.s<|.z .mvP<|.z .nil<|.z (.fa T.fd212_4)<|.z (.ldx T.ag3 hb)<|.z .asI<|.nil<|.ret ⟨.int .i64 (r.sure:Int),Res.one rfl rfl,⟨by rw [show presH r=r.sure from if_neg (by simp [C0])],rfl⟩⟩
theorem hPages_any {h:Heap} {p:Nat} {r:RH} (hb:(hboxI p r).p h) :
  HC Tryz.prog 297 #[.pointer (some ⟨p,0,none⟩)] h (fun v h'=>v=.int .i64 ((presH r:Nat):Int)∧h'=h):=by
 refine HC.go Tryz.func297 13 ?_;refine .s<|.z .asI<|.nil<|.seq<|.s<|.z .mvP<|.z (.pEqS T.pt140)<|.z .mvB<|.z .mvP<|.z .nil<|.z (.fa T.fd212_6)<|.z (.ldx T.ag4 hb)<|.z .pkf<|.nil<|.cf<|.skip<|.s<|.z .mvP<|.k 12 .func (hpres_any (r:=r) hb)<|.z .asI<|.nil<|.ret ⟨.int .i64 ((presH r:Nat):Int),Res.one rfl rfl,⟨rfl,rfl⟩⟩
theorem hend_any {h:Heap} {p q:Nat} {r:RH} (hb:(hboxI p r).p h) (he:(boxI q 34 [.int .i64 0]).p h) :
  HCD Tryz.prog 303 #[.pointer (some ⟨p,0,none⟩),.pointer (some ⟨q,0,none⟩)] h (fun v h'=>v=.tuple #[]∧h'=h):=by
 refine HCD.go Tryz.func303 11 ?_;refine .s<|.z .mvP<|.z .nil<|.z (.ldx T.ag34 he)<|.z .eql<|.nil<|.cf<|.skip<|.end<|⟨.tuple #[],Res.none rfl,⟨rfl,rfl⟩⟩
theorem hold_any {h:Heap} {p no:Nat} {r:RH} {D Fd:Nat→Prop} (k:HD r.D) (hsz:r.size≤4096) (hno:1≤no∧no≤1048576) (ok:Hp h D [hboxI p r,dgI r.d Fd r.D] [] h) :
  HC Tryz.prog 310 #[.pointer (some ⟨p,0,none⟩),.int .i64 (no:Int)] h (fun v h'=>∃a c,v=.tuple #[.slice a (pgF r.size (fT r.D) (no-1)).length c,.int .i64 0]∧Hp h D [capI 1 5 (a,(pgF r.size (fT r.D) (no-1)).length,c) ((pgF r.size (fT r.D) (no-1)).map bv),hboxI p r,dgI r.d Fd r.D] [] h'):=by
 have hmz:(no-1)*r.size≤1048576*4096:=Nat.mul_le_mul (by omega) hsz;have ez:((no:Int)-1)*(r.size:Int)=(((no-1)*r.size:Nat):Int):=by rw [show (no:Int)-1=((no-1:Nat):Int) by omega];exact (Int.natCast_mul _ _).symm
 have hpl:((((cont r.D nT).getD []).drop ((no-1)*r.size)).take r.size).length≤r.size:=by rw [List.length_take];omega
 refine HC.go Tryz.func310 39 ?_;refine .s<|.z .asS<|.z .asI<|.nil<|.seq<|.a 21 (fun fl hh=>Hp h D [boxI p 212 [.bool r.in_,.int .i64 (r.now:Int),.int .i64 (r.valid:Int),.bool r.begun,.int .u64 (r.nonce:Int),.map r.km,.int .i64 (r.marked:Int),.pointer (some ⟨r.d,0,none⟩),.int .i64 (r.size:Int),.pointer (some ⟨r.c,0,none⟩),.int .i64 (r.sure:Int),.int .i64 (r.bytes:Int),.bool false]] [] hh) mixed ?_;have hS:=ok.k1;refine .g 0 false rfl 9 hS (fun _=>.mvP)<|.g 1 false rfl 10 hS (fun _=>.nil)<|.g 2 false rfl 11 hS (fun _=>.fa T.fd212_1)<|.lw 3 false rfl 12 hS (fun _ _ hS=>.ldx T.ag63 hS.m0)<|.g 4 false rfl 13 hS (fun _=>.mvI)<|.g 5 false rfl 14 hS (fun _=>.sub)<|.g 6 false rfl 15 hS (fun _=>.mvP)<|.g 7 false rfl 16 hS (fun _=>.nil)<|.g 8 false rfl 17 hS (fun _=>.fa T.fd212_2)<|.lw 9 false rfl 18 hS (fun _ _ hS=>.ldx T.ag3 hS.m0)<|?_;have hmi:=pg_mul (x:=(no:Int)-1) (s:=r.size) (by omega) (by omega) hsz;refine .g 10 false rfl 19 hS (fun _=>.mul)<|.g 11 false rfl 20 hS (fun _=>.mvP)<|.g 12 false rfl 21 hS (fun _=>.nil)<|.g 13 false rfl 22 hS (fun _=>.fa T.fd212_2)<|.lw 14 false rfl 23 hS (fun _ _ hS=>.ldx T.ag3 hS.m0)<|.o1 15<|.c' false rfl 24 .func (hread_any (n:=nT) (p:=((no-1)*r.size)) (z:=r.size) k nT_h ez (by omega) (by omega) (ok.n1).loc0) ?_;rintro _ η1 ⟨w,rfl,own⟩;obtain ⟨ar1,cr1,rfl⟩:=own.formB;have ok:=ok.own own;refine ⟨ok.n1.k1,?_⟩;have hS:=ok.n1.k1;refine .g 16 false rfl 8 hS (fun _=>.mvU)<|.g 17 false rfl 25 hS (fun _=>.ex)<|.g 18 false rfl 26 hS (fun _=>.ex)<|.g 19 false rfl 6 hS (fun _=>.asS)<|.g 20 false rfl 7 hS (fun _=>.asI)<|.e ?_;refine .seq<|.s<|.z .mvI<|.z .eql<|.nil<|.cd (fun C0=>?_) (fun C0=>?_)
 ·
  refine .r<|.z .asI<|.nil<|.s<|.z .mvS<|.z .mvP<|.z .nil<|.z (.fa T.fd212_2)<|.z (.ldx T.ag3 ok.m1)<|.z .mvS<|.z (.len T.el44)<|.z .sub<|.a' 37 (.apz (z:=((r.size:Int)-((((((cont r.D nT).getD []).drop ((no-1)*r.size)).take r.size).length:Nat):Int))) (r.size-((((cont r.D nT).getD []).drop ((no-1)*r.size)).take r.size).length) T.el44 T.in3 T.sz5 T.by5 T.zr5 ok (by omega) (by omega)) ?_;rintro _ η2 ⟨ya1,yc1,rfl,ok⟩;refine .z .mvI<|.z .asS<|.z .asI<|.nil ?_;have hpg:pgF r.size (fT r.D) (no-1)=(((((cont r.D nT).getD []).drop ((no-1)*r.size)).take r.size)++List.replicate (r.size-((((cont r.D nT).getD []).drop ((no-1)*r.size)).take r.size).length) 0):=pgF_pad;refine .ret ⟨.tuple #[.slice ya1 ((((((cont r.D nT).getD []).drop ((no-1)*r.size)).take r.size)++List.replicate (r.size-((((cont r.D nT).getD []).drop ((no-1)*r.size)).take r.size).length) 0).length) yc1,.int .i64 0],Res.two rfl rfl rfl,⟨ya1,yc1,by rw [hpg],by rw [hpg];exact (ok).k3⟩⟩
 rw [show rdE r.D nT=0 from rdE_0 C0];refine .skip<|.s<|.z .mvS<|.z .mvP<|.z .nil<|.z (.fa T.fd212_2)<|.z (.ldx T.ag3 ok.m1)<|.z .mvS<|.z (.len T.el44)<|.z .sub<|.a' 37 (.apz (z:=((r.size:Int)-((((((cont r.D nT).getD []).drop ((no-1)*r.size)).take r.size).length:Nat):Int))) (r.size-((((cont r.D nT).getD []).drop ((no-1)*r.size)).take r.size).length) T.el44 T.in3 T.sz5 T.by5 T.zr5 ok (by omega) (by omega)) ?_;rintro _ η3 ⟨ya2,yc2,rfl,ok⟩;refine .z .mvI<|.z .asS<|.z .asI<|.nil ?_;have hpg:pgF r.size (fT r.D) (no-1)=(((((cont r.D nT).getD []).drop ((no-1)*r.size)).take r.size)++List.replicate (r.size-((((cont r.D nT).getD []).drop ((no-1)*r.size)).take r.size).length) 0):=pgF_pad;refine .ret ⟨.tuple #[.slice ya2 ((((((cont r.D nT).getD []).drop ((no-1)*r.size)).take r.size)++List.replicate (r.size-((((cont r.D nT).getD []).drop ((no-1)*r.size)).take r.size).length) 0).length) yc2,.int .i64 ((0:Nat):Int)],Res.two rfl rfl rfl,⟨ya2,yc2,by rw [hpg];rfl,by rw [hpg];exact (ok).k3⟩⟩
theorem hlook_any {h:Heap} {p:Nat} {r:RHA} (hb:(haboxI p r).p h) :
  HC Tryz.prog 185 #[.pointer (some ⟨p,0,none⟩)] h (fun v h'=>v=.int .i64 0∧h'=h):=by
 refine HC.go Tryz.func185 11 ?_;refine .s<|.z .asI<|.nil<|.seq<|.block fun K0 hK0=>.s<|.z .mvP<|.z (.pEqS T.pt117)<|.z .asB<|.nil<|.cf<|.s<|.z .mvP<|.z .nil<|.z (.fa T.fd202_6)<|.z (.ldx T.ag4 hb)<|.z .asB<|.nil<|.cf<|.skip<|.end<|hK0 _ _<|.s<|.z .asI<|.nil<|.ret ⟨.int .i64 0,Res.one rfl rfl,⟨rfl,rfl⟩⟩
theorem hatold_any {h:Heap} {p:Nat} {r:RHA} (hb:(haboxI p r).p h) :
  HC Tryz.prog 186 #[.pointer (some ⟨p,0,none⟩),.int .i64 0] h (fun v h'=>v=.int .i64 0∧h'=h):=by
 refine HC.go Tryz.func186 11 ?_;refine .s<|.z .asI<|.nil<|.seq<|.s<|.z .mvI<|.z .eql<|.nil<|.cf<|.skip<|.s<|.z .mvI<|.z .asI<|.nil<|.ret ⟨.int .i64 0,Res.one rfl rfl,⟨rfl,rfl⟩⟩
theorem hapgs_any {h:Heap} {p:Nat} {r:RHA} (hb:(haboxI p r).p h) :
  HC Tryz.prog 280 #[.pointer (some ⟨p,0,none⟩)] h (fun v h'=>v=.int .i64 ((pgsH r:Nat):Int)∧h'=h):=by
 refine HC.go Tryz.func280 17 ?_;refine .s<|.z .asI<|.nil<|.seq<|.s<|.z .mvP<|.z .nil<|.z (.fa T.fd202_1)<|.z (.fa T.fd200_0)<|.z (.ldx T.ag4 hb)<|.nil<|.cond (fun C0=>?_) (fun C0=>?_)
 ·
  refine .s<|.z .mvP<|.z .nil<|.z (.fa T.fd202_1)<|.z (.fa T.fd200_1)<|.z (.ldx T.ag3 hb)<|.z .asI<|.nil<|.ret ⟨.int .i64 (r.many:Int),Res.one rfl rfl,⟨by rw [show pgsH r=r.many from if_pos C0],rfl⟩⟩
 refine .skip<|.s<|.z .mvP<|.z .nil<|.z (.fa T.fd202_4)<|.z (.ldx T.ag3 hb)<|.z .asI<|.nil<|.ret ⟨.int .i64 (r.sure:Int),Res.one rfl rfl,⟨by rw [show pgsH r=r.sure from if_neg (by simp [C0])],rfl⟩⟩
theorem haPages_any {h:Heap} {p:Nat} {r:RHA} (hb:(haboxI p r).p h) :
  HC Tryz.prog 271 #[.pointer (some ⟨p,0,none⟩)] h (fun v h'=>v=.int .i64 ((pgsH r:Nat):Int)∧h'=h):=by
 refine HC.go Tryz.func271 8 ?_;refine .s<|.z .asI<|.nil<|.seq<|.s<|.z .mvP<|.k 4 .func (hlook_any (r:=r) hb)<|.z .neq<|.nil<|.cf<|.skip<|.s<|.z .mvP<|.k 7 .func (hapgs_any (r:=r) hb)<|.z .asI<|.nil<|.ret ⟨.int .i64 ((pgsH r:Nat):Int),Res.one rfl rfl,⟨rfl,rfl⟩⟩
theorem hrdS_any {h:Heap} {d p z:Nat} {F:Nat→Prop} {D:Dk} {n b l:List UInt8} (k:HD D) (hn:nOk n) (hb:cont D n=some b) (hl:(b.drop p).take z=l) (hp:p≤4611686018427387904) (hz:z≤4611686018427387904) (ok:Hp h F [dgI d F D] [] h) :
  HC Tryz.prog 180 #[.pointer (some ⟨d,0,none⟩),.string (BA n),.int .i64 (p:Int),.int .i64 (z:Int)] h (fun v h'=>∃w,v=.tuple #[w,.int .i64 0]∧Own h h' 1 5 w (l.map bv)):=by
 subst hl;exact hreadS_any k hn hb hp hz ok
theorem haold_any {h:Heap} {p i:Nat} {r:RHA} {D Fd cF:Nat→Prop} {S:Nat→Option (List UInt8)} {no:Int} {l:List UInt8} (hd:HD r.D) (hi:no=(i:Int)+1) (hib:i≤1048576) (hsz:r.size≤4096) (hl:l.length=r.size) (hSo:S i=some l) (src:SrcH r.D r.at_ r.size i l) (ok:Hp h D (haL p r Fd cF S) [] h) :
  HC Tryz.prog 283 #[.pointer (some ⟨p,0,none⟩),.int .i64 no] h (fun v h'=>∃(F':Nat→Prop) (a:Option Addr) (c:Nat),v=.tuple #[.slice a l.length c,.int .i64 0]∧Hp h D (capI 1 5 (a,l.length,c) (l.map bv)::haL p r Fd F' S) [] h'):=by
 have ok:Hp h D [boxI p 202 [.int .i64 (r.fr:Int),.int .i64 (r.nd:Int),.int .u64 (r.link:Int),.map (some r.am),.bool r.in_,.int .i64 (r.many:Int),.map r.bm,.pointer (some ⟨r.d,0,none⟩),.int .i64 (r.size:Int),.int .i64 (r.sure:Int),.pointer (some ⟨r.c,0,none⟩),.bool false],mapI (Value.int .i64) r.am (atE r.at_),nowI r.bm r.bs,dgI r.d Fd r.D,cacI r.c cF S] [] h:=ok;have hiz:i*r.size≤1048576*4096:=Nat.mul_le_mul hib hsz;refine HC.go Tryz.func283 69 ?_;refine .s<|.z .asS<|.z .asI<|.nil<|.seq<|.s<|.z .mvP<|.z .nil<|.z (.fa T.fd202_5)<|.z (.ldx T.ag194 ok.m0)<|.z .mvI<|.c' 20 .func (cget_any (no:=no) (ok.n4).m0) ?_;rintro _ η1 ⟨Fg1,(⟨ag1,cg1,lg1,rfl,h1g1,hsg1,q⟩ | ⟨ag1,ng1,cg1,rfl,q⟩)⟩
 ·
  have ok:=(ok.n4).lift2 q;rw [show (no-1).toNat=i by omega,hSo] at hsg1;injection hsg1 with hsg1;subst hsg1;refine .z .mvU<|.z .ex<|.z .ex<|.z .asS<|.z .asB<|.nil<|.s<|.z .mvB<|.nil<|.ct<|.s<|.z .mvS<|.z .asS<|.z .asI<|.nil<|.ret ⟨.tuple #[.slice ag1 l.length cg1,.int .i64 0],Res.two rfl rfl rfl,⟨Fg1,ag1,cg1,rfl,(ok.n1.n5.n5.n5.n5.n5).k6⟩⟩
 have ok:=(ok.n4).lift1 q;refine .z .mvU<|.z .ex<|.z .ex<|.z .asS<|.z .asB<|.nil<|.s<|.z .mvB<|.nil<|.cf<|.skip<|.seq<|?_;have hmz:=pg_mul (x:=no-1) (s:=r.size) (by omega) (by omega) hsz;refine .q (hm:=mixed)<|.z .mvI<|.z .sub<|.z .mvP<|.z .nil<|.z (.fa T.fd202_3)<|.z (.ldx T.ag3 ok.m1)<|.z .mul<|.z .asT<|.z .asI<|.nil<|.seq<|.s<|.z .mvP<|.z .nil<|.z (.fa T.fd202_0)<|.z (.fa T.fd198_3)<|.z (.ldx T.ag180 ok.m1)<|.z .mvI<|.z (.lk2 (KV.int .i64) no (v:=.int .i64 (((mget r.at_ no).getD 0:Nat):Int)) T.mp180 (inB_iff T.in3) T.zr3 ok.m2 (by exact at_get) (by exact at_is))<|.z .mvU<|.z .ex<|.z .ex<|.z .asI<|.z .asB<|.nil<|.s<|.z .mvB<|.nil<|.cond (fun C1=>?_) (fun C1=>?_)
 ·
  obtain ⟨k,hk1⟩:=Option.isSome_iff_exists.1 C1;unfold SrcH at src;rw [←hi,hk1] at src;obtain ⟨hkb,Lg,hLg,hLk⟩:=src;rw [show (mget r.at_ no).getD 0=k by rw [hk1];rfl];refine .r<|.z .mvI<|.z .asT<|.z .asI<|.nil<|.seq<|.a 10 (fun fl hh=>cond fl True (Hp h D [cacI r.c Fg1 S,boxI p 202 [.int .i64 (r.fr:Int),.int .i64 (r.nd:Int),.int .u64 (r.link:Int),.map (some r.am),.bool r.in_,.int .i64 (r.many:Int),.map r.bm,.pointer (some ⟨r.d,0,none⟩),.int .i64 (r.size:Int),.int .i64 (r.sure:Int),.pointer (some ⟨r.c,0,none⟩),.bool false],mapI (Value.int .i64) r.am (atE r.at_),nowI r.bm r.bs,dgI r.d Fd r.D] [] hh)) mixed ?_;have hS:=ok;refine .g 0 false rfl 45 hS (fun _=>.mvP)<|.g 1 false rfl 46 hS (fun _=>.nil)<|.g 2 false rfl 47 hS (fun _=>.fa T.fd202_2)<|.l 3 false rfl 48 hS (fun _ hS=>.ldx T.ag63 hS.m1)<|.g 4 false rfl 49 hS (fun _=>.mvT)<|.g 5 false rfl 50 hS (fun _=>.mvI)<|.g 6 false rfl 51 hS (fun _=>.mvP)<|.g 7 false rfl 52 hS (fun _=>.nil)<|.g 8 false rfl 53 hS (fun _=>.fa T.fd202_3)<|.l 9 false rfl 54 hS (fun _ hS=>.ldx T.ag3 hS.m1)<|.o1 10<|.c' true rfl 55 .func (hrdS_any (n:=nL) (b:=Lg) (p:=k) (z:=r.size) (l:=l) hd nL_h hLg hLk (by omega) (by omega) (ok.n4).loc0) ?_;rintro _ η2 ⟨w,rfl,own⟩;obtain ⟨ar1,cr1,rfl⟩:=own.formB;have ok:=ok.own own;refine ⟨trivial,?_⟩;refine .g 11 true rfl 44 trivial (fun _=>.mvU)<|.g 12 true rfl 56 trivial (fun _=>.ex)<|.g 13 true rfl 57 trivial (fun _=>.ex)<|.g 14 true rfl 12 trivial (fun _=>.asS)<|.g 15 true rfl 13 trivial (fun _=>.asI)<|.e ?_;refine .seq<|.s<|.z .mvI<|.z .neq<|.nil<|.cf<|.skip<|.s<|.z .mvP<|.z .nil<|.z (.fa T.fd202_5)<|.z (.ldx T.ag194 ok.m2)<|.z .mvI<|.z .mvS<|.c' 67 .func (cput_any (no:=no) (a:=ar1) (n:=cr1) (l:=l) (ok.n1).m0 (RdL.ofCapB (v:=(ar1,l.length,cr1)) (l:=l) (ok.n1).m1) (by omega) (by rw [show (no-1).toNat=i by omega];exact hSo) (by omega)) ?_;rintro vp1 η3 ⟨Fp1,q⟩;have ok:=(ok.n1).lift1 q;refine .nil ?_;refine .s<|.z .mvS<|.z .asS<|.z .asI<|.nil<|.ret ⟨.tuple #[.slice ar1 l.length cr1,.int .i64 0],Res.two rfl rfl rfl,⟨Fp1,ar1,cr1,rfl,(ok.n5.n5.n5.n5.n5).k6⟩⟩
 have hn1:mget r.at_ no=none:=by simpa using C1
 unfold SrcH at src;rw [←hi,hn1] at src;obtain ⟨fl,hfl,hfk⟩:=src;have epos:(no-1)*(r.size:Int)=((i*r.size:Nat):Int):=by rw [hi,Int.add_sub_cancel];exact (Int.natCast_mul _ _).symm
 rw [epos];refine .skip<|.seq<|.a 10 (fun fl hh=>cond fl True (Hp h D [cacI r.c Fg1 S,boxI p 202 [.int .i64 (r.fr:Int),.int .i64 (r.nd:Int),.int .u64 (r.link:Int),.map (some r.am),.bool r.in_,.int .i64 (r.many:Int),.map r.bm,.pointer (some ⟨r.d,0,none⟩),.int .i64 (r.size:Int),.int .i64 (r.sure:Int),.pointer (some ⟨r.c,0,none⟩),.bool false],mapI (Value.int .i64) r.am (atE r.at_),nowI r.bm r.bs,dgI r.d Fd r.D] [] hh)) mixed ?_;have hS:=ok;refine .g 0 false rfl 45 hS (fun _=>.mvP)<|.g 1 false rfl 46 hS (fun _=>.nil)<|.g 2 false rfl 47 hS (fun _=>.fa T.fd202_2)<|.l 3 false rfl 48 hS (fun _ hS=>.ldx T.ag63 hS.m1)<|.g 4 false rfl 49 hS (fun _=>.mvT)<|.g 5 false rfl 50 hS (fun _=>.mvI)<|.g 6 false rfl 51 hS (fun _=>.mvP)<|.g 7 false rfl 52 hS (fun _=>.nil)<|.g 8 false rfl 53 hS (fun _=>.fa T.fd202_3)<|.l 9 false rfl 54 hS (fun _ hS=>.ldx T.ag3 hS.m1)<|.o1 10<|.c' true rfl 55 .func (hrdS_any (n:=nT) (b:=fl) (p:=(i*r.size)) (z:=r.size) (l:=l) hd nT_h hfl hfk (by omega) (by omega) (ok.n4).loc0) ?_;rintro _ η4 ⟨w,rfl,own⟩;obtain ⟨ar2,cr2,rfl⟩:=own.formB;have ok:=ok.own own;refine ⟨trivial,?_⟩;refine .g 11 true rfl 44 trivial (fun _=>.mvU)<|.g 12 true rfl 56 trivial (fun _=>.ex)<|.g 13 true rfl 57 trivial (fun _=>.ex)<|.g 14 true rfl 12 trivial (fun _=>.asS)<|.g 15 true rfl 13 trivial (fun _=>.asI)<|.e ?_;refine .seq<|.s<|.z .mvI<|.z .neq<|.nil<|.cf<|.skip<|.s<|.z .mvP<|.z .nil<|.z (.fa T.fd202_5)<|.z (.ldx T.ag194 ok.m2)<|.z .mvI<|.z .mvS<|.c' 67 .func (cput_any (no:=no) (a:=ar2) (n:=cr2) (l:=l) (ok.n1).m0 (RdL.ofCapB (v:=(ar2,l.length,cr2)) (l:=l) (ok.n1).m1) (by omega) (by rw [show (no-1).toNat=i by omega];exact hSo) (by omega)) ?_;rintro vp2 η5 ⟨Fp2,q⟩;have ok:=(ok.n1).lift1 q;refine .nil ?_;refine .s<|.z .mvS<|.z .asS<|.z .asI<|.nil<|.ret ⟨.tuple #[.slice ar2 l.length cr2,.int .i64 0],Res.two rfl rfl rfl,⟨Fp2,ar2,cr2,rfl,(ok.n5.n5.n5.n5.n5).k6⟩⟩
theorem hapage_any {h:Heap} {p i:Nat} {r:RHA} {D Fd cF Q:Nat→Prop} {S:Nat→Option (List UInt8)} {no:Int} {l:List UInt8} (hd:HD r.D) (hi:no=(i:Int)+1) (hib:i≤1048576) (hsz:r.size≤4096) (hl:l.length=r.size) (hbm:r.in_=true→∃m,r.bm=some m) (hbs:r.in_=true→∀x,mget r.bs no=some x→x.l=l) (hsr:(mget r.bs no=none∨r.in_=false)→S i=some l∧SrcH r.D r.at_ r.size i l) (ok:Hp h D (haL p r Fd cF S) [pbsI Q r.bs] h) :
  HC Tryz.prog 281 #[.pointer (some ⟨p,0,none⟩),.int .i64 no] h (fun v h'=>∃(F':Nat→Prop) (a:Option Addr) (c:Nat),v=.tuple #[.slice a l.length c,.int .i64 0]∧Hp h D (capI 1 5 (a,l.length,c) (l.map bv)::haL p r Fd F' S) [] h'):=by
 have ok:Hp h D [boxI p 202 [.int .i64 (r.fr:Int),.int .i64 (r.nd:Int),.int .u64 (r.link:Int),.map (some r.am),.bool r.in_,.int .i64 (r.many:Int),.map r.bm,.pointer (some ⟨r.d,0,none⟩),.int .i64 (r.size:Int),.int .i64 (r.sure:Int),.pointer (some ⟨r.c,0,none⟩),.bool false],mapI (Value.int .i64) r.am (atE r.at_),nowI r.bm r.bs,dgI r.d Fd r.D,cacI r.c cF S] [pbsI Q r.bs] h:=ok;refine HC.go Tryz.func281 32 ?_;refine .s<|.z .asS<|.z .asI<|.nil<|.seq<|.s<|.z .mvP<|.z .nil<|.z (.fa T.fd202_1)<|.z (.fa T.fd200_0)<|.z (.ldx T.ag4 ok.m0)<|.nil<|.cond (fun C0=>?_) (fun C0=>?_)
 ·
  obtain ⟨mb,hbm⟩:=hbm C0;rw [hbm] at ok;try rw [hbm]
  have ok:=Hp.nowSome (ok.n2);refine .s<|.z .mvP<|.z .nil<|.z (.fa T.fd202_1)<|.z (.fa T.fd200_2)<|.z (.ldx T.ag118 ok.m1)<|.z .mvI<|.z (.lk2 (KV.int .i64) no (v:=.slice (bsA r.bs no) (bsN r.bs no) (bsC r.bs no)) T.mp118 (inB_iff T.in3) T.zr44 ok.m0 (by exact bs_get) (by exact bs_is))<|.z .mvU<|.z .ex<|.z .ex<|.z .asS<|.z .asB<|.nil<|.s<|.z .mvB<|.nil<|.cond (fun C1=>?_) (fun C1=>?_)
  ·
   obtain ⟨x,hx⟩:=Option.isSome_iff_exists.1 C1;have hxl:=hbs C0 x hx;have ok:=ok.d0 (rdI Q Q (bsA r.bs no,bsN r.bs no,bsC r.bs no) l) (Pbs.rd ok.r0 hx hxl) (fun _ h=>h.elim id id);refine .s<|.a' 24 (.lit [] (cs:=[]) T.el44 T.sz5 T.zr5 ok trivial) ?_;rintro _ η1 ⟨pb1,rfl,ok,xe⟩;have ok:=ok.cx (ys:=([]:List UInt8).map bv) rfl;refine .z .mvS<|.a' 26 (.app (news:=l.map bv) T.el44 T.sz5 T.by5 T.zr5 ok (ok.r0).by bv_all (by simp only [List.length_map,List.length_append,List.length_take,List.length_cons,List.length_nil,List.length_replicate,List.length_range,fixedN_len,sealN_len];omega)) ?_;rintro _ η2 ⟨ya1,yn1,yc1,rfl,ok,ap⟩;have ok:=ok.cx (ys:=(l).map bv) (by simp [bv]);obtain rfl:yn1=(l).length:=ok.lenB;refine .z .asS<|.z .asI<|.nil<|.ret ⟨.tuple #[.slice ya1 ((l).length) yc1,.int .i64 0],Res.two rfl rfl rfl,⟨cF,ya1,yc1,rfl,(by have o:=(ok.n5.n5.n3.n5.n5.n5).k6.e0;unfold haL haboxI;rw [hbm];exact o)⟩⟩
  have hSp:=hsr (.inl (by simpa using C1));refine .skip<|.s<|.z .mvP<|.z .mvI<|.c' 29 .func (haold_any (p:=p) (r:=({ r with bm:=(some mb) } : RHA)) (i:=i) (no:=no) (l:=l) hd hi hib hsz hl hSp.1 hSp.2 ((Hp.lc5 (ok.n4.n4.n2.n4.n4)).e0)) ?_;rintro _ η3 ⟨Fo1,ao1,co1,rfl,q⟩;have ok:=Hp.lf5 (ok.n4.n4.n2.n4.n4) q;refine .z .ex<|.z .ex<|.z .asS<|.z .asI<|.nil<|.ret ⟨.tuple #[.slice ao1 l.length co1,.int .i64 0],Res.two rfl rfl rfl,⟨Fo1,ao1,co1,rfl,(by have o:=(ok).k6.e0;unfold haL haboxI;rw [hbm];exact o)⟩⟩
 have hSp:=hsr (.inr (by simpa using C0));refine .skip<|.s<|.z .mvP<|.z .mvI<|.c' 29 .func (haold_any (p:=p) (r:=r) (i:=i) (no:=no) (l:=l) hd hi hib hsz hl hSp.1 hSp.2 ((Hp.lc5 (ok)).e0)) ?_;rintro _ η4 ⟨Fo2,ao2,co2,rfl,q⟩;have ok:=Hp.lf5 (ok) q;refine .z .ex<|.z .ex<|.z .asS<|.z .asI<|.nil<|.ret ⟨.tuple #[.slice ao2 l.length co2,.int .i64 0],Res.two rfl rfl rfl,⟨Fo2,ao2,co2,rfl,(ok).k6.e0⟩⟩
end Go.Proofs.YtndlpekckpdncaaGreat
namespace Go.HL
open Go
theorem Hp.thaw {h0 h:Heap} {D:Nat→Prop} {M:List Itm} {a:Itm} (ok:Hp h0 D M [a] h) (ha:∀j,a.F j→D j∨h0.size≤j):Hp h0 D (a::M) [] h:=
 ⟨ok.chg,fun i hi=>by
  rcases List.mem_cons.1 hi with rfl | hi
  ·have:=ok.r _ List.mem_cons_self;exact ⟨this.1,fun j hj=>⟨this.2 j hj,ha j hj⟩⟩
  ·exact ok.m i hi,by simp,List.pairwise_cons.2 ⟨fun b hb j hj hb2=>ok.mr b hb a List.mem_cons_self j hb2 hj,ok.mm⟩,by simp⟩
end Go.HL
namespace Go.Proofs.YtndlpekckpdncaaGreat
open Go Go.HL
def LogH (fr nd link:Nat) (at_:List (Int × Nat)) (D:Dk) (z:Nat) (S:List (List UInt8)):Prop:=
 (fr=0∧nd=0∧at_=[]∧cont D nL=none∧cont D nM=none∧(cont D nT).getD []=S.flatten)∨
 ∃salt fs,fr=fs.length∧nd=20+fs.length*(16+z)∧link=linkL (nextN salt (headN z salt)) fs∧salt<18446744073709551616∧okL z fs∧EndsC fs∧nd≤16777216∧cont D nL=some (logB z salt fs)∧(∃b,cont D nM=some b∧b.length=1+fs.length)∧
  ovB fs z ((cont D nT).getD [])=S.flatten∧latF fs≠[]
structure HAh (r:RHA) (S N:List (List UInt8)):Prop where
 sz:okSz r.size=true
 hd:HD r.D
 su:r.sure=S.length
 mn:r.in_=true→r.many=N.length
 sl:∀l∈S,l.length=r.size
 nl:∀l∈N,l.length=r.size
 sf:S.length*r.size≤16777216
 nf:N.length*r.size≤16777216
 ak:∀x∈r.at_,1≤x.1∧x.1≤(S.length:Int)
 src:∀i l,S[i]? = some l→SrcH r.D r.at_ r.size i l
 lg:LogH r.fr r.nd r.link r.at_ r.D r.size S
 bm:r.in_=true→∃m,r.bm=some m
 nw:r.in_=true→∀i l,N[i]? = some l→NowOk r.bs S i l
 ks:r.in_=true→∀x∈r.bs,1≤x.1∧x.1≤(N.length:Int)
 out:r.in_=false→N=S∧r.bm=none∧r.bs=[]
 hh:S≠[]→hdOk (S.getD 0 []) r.size=true
section
variable {r:RHA} {S N:List (List UInt8)}
theorem HAh.zc (k:HAh r S N):256≤r.size∧r.size≤4096:=by have:=okSz_c k.sz;omega
theorem HAh.few (k:HAh r S N):S.length≤65536∧N.length≤65536:=by
 have h1:=k.sf;have h2:=k.nf;have h3:=k.zc;have h4:S.length*256≤S.length*r.size:=Nat.mul_le_mul_left _ h3.1;have h5:N.length*256≤N.length*r.size:=Nat.mul_le_mul_left _ h3.1;omega
theorem HAh.pgs (k:HAh r S N):pgsH r=N.length:=by
 unfold pgsH;split
 ·rename_i h;exact k.mn h
 ·rename_i h;rw [(k.out (by simpa using h)).1];exact k.su
theorem HAh.pgS (k:HAh r S N):PgOk r.size S:=⟨k.sz,k.sl,k.sf,k.hh⟩
theorem HAh.page (k:HAh r S N) {i:Nat} {l:List UInt8} (h:N[i]? = some l):l.length=r.size∧(r.in_=true→∀x,mget r.bs ((i:Int)+1)=some x→x.l=l)∧((mget r.bs ((i:Int)+1)=none∨r.in_=false)→S[i]? = some l∧SrcH r.D r.at_ r.size i l):=by
 refine ⟨k.nl _ (List.mem_of_getElem? h),fun hi x hx=>?_,fun hc=>?_⟩
 ·have h1:=k.nw hi i l h;unfold NowOk at h1;rw [hx] at h1;exact h1
 ·have h2:S[i]? = some l:=by
   cases hi:r.in_ with
   | false=>rw [←(k.out hi).1];exact h
   | true=>
    have h1:=k.nw hi i l h;have h3:=hc.resolve_right (by rw [hi];decide);unfold NowOk at h1;rw [h3] at h1;exact h1
  exact ⟨h2,k.src i l h2⟩
theorem HAh.begin (k:HAh r S N) (m:Nat):HAh { r with in_:=true,many:=r.sure,bm:=some m,bs:=[] } S S:=
 ⟨k.sz,k.hd,k.su,fun _=>k.su,k.sl,k.sl,k.sf,k.sf,k.ak,k.src,k.lg,fun _=>⟨m,rfl⟩,fun _ i l h=>by unfold NowOk;exact h,fun _ x hx=>(by cases hx),fun h=>(by cases h),k.hh⟩
theorem HAh.drop (k:HAh r S N):HAh { r with in_:=false,many:=0,bm:=none,bs:=[] } S S:=
 ⟨k.sz,k.hd,k.su,fun h=>(by cases h),k.sl,k.sl,k.sf,k.sf,k.ak,k.src,k.lg,fun h=>(by cases h),fun h=>(by cases h),fun h=>(by cases h),fun _=>⟨rfl,rfl,rfl⟩,k.hh⟩
theorem HAh.write (k:HAh r S N) (hi:r.in_=true) {no m:Nat} {x:RB} (h1:1≤no) (h2:no≤N.length) (hx:x.l.length=r.size):HAh { r with bm:=some m,bs:=mput r.bs (no:Int) x } S (N.set (no-1) x.l):=by
 refine ⟨k.sz,k.hd,k.su,fun h=>by rw [List.length_set];exact k.mn h,k.sl,fun l hl=>?_,k.sf,by rw [List.length_set];exact k.nf,k.ak,k.src,k.lg,fun _=>⟨m,rfl⟩,fun _ i l h=>?_,fun _ y hy=>?_,fun h=>(by rw [show r.in_=false from h] at hi;cases hi),k.hh⟩
 ·rcases List.mem_or_eq_of_mem_set hl with h | h
  ·exact k.nl l h
  ·rw [h];exact hx
 ·unfold NowOk;rw [List.getElem?_set] at h;rw [mget_mput];by_cases e:no-1=i
  ·rw [if_pos e,if_pos (by omega)] at h;rw [if_pos (by omega)];injection h
  ·rw [if_neg e] at h;rw [if_neg (by omega)];exact k.nw hi i l h
 ·rw [List.length_set];rcases mem_mput hy with rfl | hy
  ·simp only;omega
  ·exact k.ks hi y hy
theorem HAh.resize (k:HAh r S N) (hi:r.in_=true) {n m:Nat} {k0 k1:Int} {bj:List (Int × RB)} (hk:(n:Int)+1≤k0∧(N.length:Int)<k0) (hg:GrowI (delR r.bs n k0) bj N.length r.size k1) (hk1:(n:Int)<k1) (hkx:k1≤(n:Int)+1∨k1≤(N.length:Int)+1) (h2:n*r.size≤16777216) :
  HAh { r with many:=n,bm:=some m,bs:=bj } S (rszP N n r.size):=by
 refine ⟨k.sz,k.hd,k.su,fun _=>rszP_len.symm,k.sl,fun l hl=>?_,k.sf,by rw [rszP_len];exact h2,k.ak,k.src,k.lg,fun _=>⟨m,rfl⟩,fun _ i l h=>?_,fun _ y hy=>?_,fun h=>(by rw [show r.in_=false from h] at hi;cases hi),k.hh⟩
 ·unfold rszP at hl;rcases List.mem_append.1 hl with h | h
  ·exact k.nl l (List.mem_of_mem_take h)
  ·rw [List.eq_of_mem_replicate h];exact List.length_replicate
 ·have hin:i<n:=by have:=(List.getElem?_eq_some_iff.1 h).1;rwa [rszP_len] at this
  have e:=rszP_get (P:=N) (z:=r.size) hin;rw [List.getD_eq_getElem?_getD,h,Option.getD_some] at e;unfold NowOk;by_cases h3:i<N.length
  ·rw [if_pos h3] at e;have h4:N[i]? = some l:=by rw [e,List.getD_eq_getElem?_getD,List.getElem?_eq_getElem h3];rfl
   rw [show mget ({ r with many:=n,bm:=some m,bs:=bj } : RHA).bs ((i:Int)+1)=mget r.bs ((i:Int)+1) from (hg.old _ (by omega)).trans (mget_delR (by omega))];exact k.nw hi i l h4
  ·rw [if_neg h3] at e;obtain ⟨x,e1,e2⟩:=hg.new ((i:Int)+1) (by omega) (by omega);rw [show mget ({ r with many:=n,bm:=some m,bs:=bj } : RHA).bs ((i:Int)+1)=some x from e1];exact e2.trans e.symm
 ·rw [rszP_len];rcases hg.keys y hy with h3 | h3
  ·have h4:=List.mem_filter.1 h3;have h5:=k.ks hi y h4.1;have h6:¬((n:Int)<y.1∧y.1<k0):=of_decide_eq_true h4.2;omega
  ·omega
end
open Go Go.HL
theorem habegin_any {h:Heap} {p:Nat} {r:RHA} {D Fd cF Q:Nat→Prop} {S N:List (List UInt8)} (k:HAh r S N) (hin:r.in_=false) (ok:Hp h D (pbsI Q r.bs::haL p r Fd cF (fun i=>S[i]?)) [] h) :
  HC Tryz.prog 269 #[.pointer (some ⟨p,0,none⟩)] h (fun v h'=>v=.int .i64 0∧∃m,Hp h D (pbsI Q []::haL p { r with in_:=true,many:=r.sure,bm:=some m,bs:=[] } Fd cF (fun i=>S[i]?)) [] h'):=by
 have hzc:=k.zc;have hsz:=hzc.2;have hfw:=k.few;have hd:=k.hd;have hQD:∀j,Q j→D j∨h.size≤j:=fun j hj=>((ok.m (pbsI Q r.bs) List.mem_cons_self).2 j hj).2;have ok:Hp h D [boxI p 202 [.int .i64 (r.fr:Int),.int .i64 (r.nd:Int),.int .u64 (r.link:Int),.map (some r.am),.bool r.in_,.int .i64 (r.many:Int),.map r.bm,.pointer (some ⟨r.d,0,none⟩),.int .i64 (r.size:Int),.int .i64 (r.sure:Int),.pointer (some ⟨r.c,0,none⟩),.bool false],mapI (Value.int .i64) r.am (atE r.at_),nowI r.bm r.bs,dgI r.d Fd r.D,cacI r.c cF (fun i=>S[i]?)] [pbsI Q r.bs] h:=ok.frz;refine HC.go Tryz.func269 23 ?_;refine .s<|.z .asI<|.nil<|.seq<|.s<|.z .mvP<|.k 5 .func (hlook_any (r:=r) ok.m0)<|.z .asI<|.nil<|.s<|.z .mvI<|.z .neq<|.nil<|.cf<|.skip<|.seq<|.s<|.z .mvP<|.z .nil<|.z (.fa T.fd202_1)<|.z (.fa T.fd200_0)<|.z (.ldx T.ag4 ok.m0)<|.nil<|.cond (fun C1=>?_) (fun C1=>?_)
 ·
  rw [hin] at C1;cases C1
 refine .skip<|.s<|.z .mvP<|.z .mvP<|.z .nil<|.z (.fa T.fd202_4)<|.z (.ldx T.ag3 ok.m0)<|.a' 19 (.mkm (Value.int .i64) ok) ?_;rintro _ η1 ⟨mb1,rfl,ok⟩;refine .z (.bd #[.bool true,.int .i64 (r.sure:Int),.map (some mb1)] T.zr200 T.pl200 rfl)<|.z .nil<|.z (.fa T.fd202_1)<|.ur' (.stA (vs:=[.bool true,.int .i64 (r.sure:Int),.map (some mb1)]) T.sz200 ok.n1 (oneL rfl)) ?_;rintro η2 ⟨ok,cg⟩;refine .nil ?_;refine .s<|.z .asI<|.nil ?_;have ok:=Hp.pbsNil (ok);refine .ret ⟨.int .i64 0,Res.one rfl rfl,⟨rfl,mb1,(Hp.thaw (ok.n5.n5.n3.n4.n4).k5 hQD)⟩⟩
theorem haread_any {h:Heap} {p:Nat} {r:RHA} {D Fd cF Q:Nat→Prop} {S N:List (List UInt8)} {no:Nat} {l:List UInt8} (k:HAh r S N) (h1:1≤no) (hg:N[no-1]? = some l) (ok:Hp h D (pbsI Q r.bs::haL p r Fd cF (fun i=>S[i]?)) [] h) :
  HC Tryz.prog 272 #[.pointer (some ⟨p,0,none⟩),.int .i64 (no:Int)] h (fun v h'=>∃(F':Nat→Prop) (a:Option Addr) (c:Nat),v=.tuple #[.slice a l.length c,.int .i64 0]∧Hp h D (capI 1 5 (a,l.length,c) (l.map bv)::pbsI Q r.bs::haL p r Fd F' (fun i=>S[i]?)) [] h'):=by
 have hzc:=k.zc;have hsz:=hzc.2;have hfw:=k.few;have hd:=k.hd;have hQD:∀j,Q j→D j∨h.size≤j:=fun j hj=>((ok.m (pbsI Q r.bs) List.mem_cons_self).2 j hj).2;have ok:Hp h D [boxI p 202 [.int .i64 (r.fr:Int),.int .i64 (r.nd:Int),.int .u64 (r.link:Int),.map (some r.am),.bool r.in_,.int .i64 (r.many:Int),.map r.bm,.pointer (some ⟨r.d,0,none⟩),.int .i64 (r.size:Int),.int .i64 (r.sure:Int),.pointer (some ⟨r.c,0,none⟩),.bool false],mapI (Value.int .i64) r.am (atE r.at_),nowI r.bm r.bs,dgI r.d Fd r.D,cacI r.c cF (fun i=>S[i]?)] [pbsI Q r.bs] h:=ok.frz;have hpgs:=k.pgs;have hlt0:=(List.getElem?_eq_some_iff.1 hg).1;refine HC.go Tryz.func272 32 ?_;refine .s<|.z .asS<|.z .asI<|.nil<|.seq<|.s<|.z .mvP<|.k 10 .func (hlook_any (r:=r) ok.m0)<|.z .asI<|.nil<|.s<|.z .mvI<|.z .neq<|.nil<|.cf<|.skip<|.seq<|.s<|.z .mvI<|.z .lss<|.z .mvB<|.sd (fun G16=>?_) (fun G16=>?_)
 ·
  omega
 refine .z .mvI<|.z .mvP<|.k 19 .func (hapgs_any (r:=r) ok.m0)<|.z .gtr<|.z .pkf<|.nil<|.cd (fun C1=>?_) (fun C1=>?_)
 ·
  omega
 refine .skip<|.seq<|?_;obtain ⟨i,hi⟩:∃i:Nat,no=i+1:=⟨no-1,by omega⟩;have hl:N[i]? = some l:=by rw [show i=no-1 by omega];exact hg
 obtain ⟨p1,p3,p4⟩:=k.page hl;have hlt:=(List.getElem?_eq_some_iff.1 hl).1;rw [show ((i:Int)+1)=(no:Int) by omega] at p3 p4;refine .r<|.z .mvP<|.z .mvI<|.c' 25 .func (hapage_any (p:=p) (r:=r) (i:=i) (no:=(no:Int)) (l:=l) hd (by omega) (by omega) hsz p1 k.bm p3 p4 (Hp.lc5 (ok))) ?_;rintro _ η1 ⟨Fo1,ao1,co1,rfl,q⟩;have ok:=Hp.lf5 (ok) q;refine .z .mvU<|.z .ex<|.z .ex<|.z .asS<|.z .asI<|.nil<|.s<|.z .mvS<|.z .mvP<|.z .mvI<|.k 31 .func (hatold_any (r:=r) ok.m1)<|.z .asS<|.z .asI<|.nil<|.ret ⟨.tuple #[.slice ao1 l.length co1,.int .i64 0],Res.two rfl rfl rfl,⟨Fo1,ao1,co1,rfl,((Hp.thaw (ok).k6 hQD)).n1⟩⟩
theorem hawrite_any {h:Heap} {p:Nat} {r:RHA} {D Fd cF Q F2 E2:Nat→Prop} {S N:List (List UInt8)} {no:Nat} {a:Option Addr} {c:Nat} {b:List UInt8} (k:HAh r S N) (hin:r.in_=true) (h1:1≤no) (h2:no≤N.length) (hb:b.length=r.size) (ok:Hp h D (pbsI Q r.bs::haL p r Fd cF (fun i=>S[i]?)) [rdI F2 E2 (a,b.length,c) b] h) :
  HC Tryz.prog 275 #[.pointer (some ⟨p,0,none⟩),.int .i64 (no:Int),.slice a b.length c] h (fun v h'=>v=.int .i64 0∧∃(Q':Nat→Prop) (m:Nat) (x:Option Addr) (c2:Nat),Hp h D (pbsI Q' (mput r.bs (no:Int) ⟨x,c2,b⟩)::haL p { r with bm:=some m,bs:=mput r.bs (no:Int) ⟨x,c2,b⟩ } Fd cF (fun i=>S[i]?)) [] h'):=by
 have hzc:=k.zc;have hsz:=hzc.2;have hfw:=k.few;have hd:=k.hd;have hQD:∀j,Q j→D j∨h.size≤j:=fun j hj=>((ok.m (pbsI Q r.bs) List.mem_cons_self).2 j hj).2;have ok:Hp h D [boxI p 202 [.int .i64 (r.fr:Int),.int .i64 (r.nd:Int),.int .u64 (r.link:Int),.map (some r.am),.bool r.in_,.int .i64 (r.many:Int),.map r.bm,.pointer (some ⟨r.d,0,none⟩),.int .i64 (r.size:Int),.int .i64 (r.sure:Int),.pointer (some ⟨r.c,0,none⟩),.bool false],mapI (Value.int .i64) r.am (atE r.at_),nowI r.bm r.bs,dgI r.d Fd r.D,cacI r.c cF (fun i=>S[i]?)] [pbsI Q r.bs,rdI F2 E2 (a,b.length,c) b] h:=ok.frz;have hlc:=ok.r1.c;have hlm:=ok.r1.m;simp only at hlc hlm;have hmn:=k.mn hin;refine HC.go Tryz.func275 50 ?_;refine .s<|.z .asI<|.nil<|.seq<|.s<|.z .mvP<|.k 9 .func (hlook_any (r:=r) ok.m0)<|.z .asI<|.nil<|.s<|.z .mvI<|.z .neq<|.nil<|.cf<|.skip<|.seq<|.block fun K0 hK0=>.s<|.z .mvP<|.z .nil<|.z (.fa T.fd202_1)<|.z (.fa T.fd200_0)<|.z (.ldx T.ag4 ok.m0)<|.z .not<|.z .asB<|.nil<|.cond (fun C1=>?_) (fun C1=>?_)
 ·
  rw [hin] at C1;simp at C1
 refine .s<|.z .mvI<|.z .lss<|.z .mvB<|.sd (fun G23=>?_) (fun G23=>?_)
 ·
  omega
 refine .z .mvI<|.z .mvP<|.z .nil<|.z (.fa T.fd202_1)<|.z (.fa T.fd200_1)<|.z (.ldx T.ag3 ok.m0)<|.z .gtr<|.z .pkf<|.z .mvB<|.sd (fun G32=>?_) (fun G32=>?_)
 ·
  omega
 refine .z .mvS<|.z (.len T.el44)<|.z .mvP<|.z .nil<|.z (.fa T.fd202_3)<|.z (.ldx T.ag3 ok.m0)<|.z .neq<|.z .pkf<|.z .asB<|.nil<|.cd (fun C2=>?_) (fun C2=>?_)
 ·
  omega
 refine .skip<|.end<|hK0 _ _<|.seq<|?_;obtain ⟨mb,hbm⟩:=k.bm hin;rw [hbm] at ok;try rw [hbm]
 have ok:=Hp.nowSome (ok.n2);refine .a 9 (fun fl hh=>cond fl True (Hp h D [mapI (Value.int .i64) mb (bsE r.bs),boxI p 202 [.int .i64 (r.fr:Int),.int .i64 (r.nd:Int),.int .u64 (r.link:Int),.map (some r.am),.bool r.in_,.int .i64 (r.many:Int),.map (some mb),.pointer (some ⟨r.d,0,none⟩),.int .i64 (r.size:Int),.int .i64 (r.sure:Int),.pointer (some ⟨r.c,0,none⟩),.bool false],mapI (Value.int .i64) r.am (atE r.at_),dgI r.d Fd r.D,cacI r.c cF (fun i=>S[i]?)] [pbsI Q r.bs,rdI F2 E2 (a,b.length,c) b] hh)) mixed ?_;have hS:=ok;refine .g 0 false rfl 41 hS (fun _=>.mvP)<|.g 1 false rfl 42 hS (fun _=>.nil)<|.g 2 false rfl 43 hS (fun _=>.fa T.fd202_1)<|.g 3 false rfl 44 hS (fun _=>.fa T.fd200_2)<|.l 4 false rfl 45 hS (fun _ hS=>.ldx T.ag118 hS.m1)<|.g 5 false rfl 46 hS (fun _=>.mvI)<|.g 7 false rfl 48 hS (fun _=>.mvS)<|.o1 6<|.a' false rfl 47 (.lit [] (cs:=[]) T.el44 T.sz5 T.zr5 ok trivial) ?_;rintro _ η1 ⟨pb1,rfl,ok,xe⟩;have ok:=ok.cx (ys:=([]:List UInt8).map bv) rfl;refine ⟨ok.n5.n5.n5.n5.n5.k5,?_⟩;have hS:=ok.n5.n5.n5.n5.n5.k5;refine .o1 8<|.a' false rfl 49 (.app (news:=b.map bv) T.el44 T.sz5 T.by5 T.zr5 ok (ok.r1).by bv_all (by simp only [List.length_map,List.length_append,List.length_take,List.length_cons,List.length_nil,List.length_replicate,List.length_range,fixedN_len,sealN_len];omega)) ?_;rintro _ η2 ⟨ya1,yn1,yc1,rfl,ok,ap⟩;have ok:=ok.cx (ys:=(b).map bv) (by simp [bv]);obtain rfl:yn1=(b).length:=ok.lenB;refine ⟨ok.n5.n5.n5.n5.n5.k5,?_⟩;have hS:=ok.n5.n5.n5.n5.n5.k5;refine .o1 9<|.ur' true rfl (.mpu (KV.int .i64) V.sbI (no:Int) (v:=.slice ya1 ((b).length) yc1) T.mp118 (inB_iff T.in3) ok.n1) ?_;rintro η3 ok;rw [show aput (bsE r.bs) (no:Int) (.slice ya1 ((b).length) yc1)=bsE (mput r.bs (no:Int) ⟨ya1,yc1,b⟩) from (by rw [←bs_put];simp only [bsV,List.length_replicate])] at ok;refine ⟨trivial,?_⟩;refine .e ?_;refine .s<|.z .asI<|.nil ?_;have hf1:∀j,blkC (sv (ya1,(b).length,yc1)) j→D j∨h.size≤j:=fun j hj=>(((ok.n1).m _ List.mem_cons_self).2 j hj).2;have ok:=(ok.n1).pbsPut (k:=(no:Int));refine .ret ⟨.int .i64 0,Res.one rfl rfl,⟨rfl,_,mb,ya1,yc1,by have o:=(Hp.thaw (ok.n4.n4.n2.n4.n4).k5.e1 (fun j h=>h.elim (hQD j) (hf1 j)));unfold haL haboxI;exact o⟩⟩
theorem haresize_any {h:Heap} {p:Nat} {r:RHA} {D Fd cF Q:Nat→Prop} {S N:List (List UInt8)} {n:Nat} (k:HAh r S N) (hin:r.in_=true) (hn:n≤1048576) (hnz:n*r.size≤16777216) (ok:Hp h D (pbsI Q r.bs::haL p r Fd cF (fun i=>S[i]?)) [] h) :
  HC Tryz.prog 273 #[.pointer (some ⟨p,0,none⟩),.int .i64 (n:Int)] h (fun v h'=>v=.int .i64 0∧∃(Q':Nat→Prop) (m:Nat) (bj:List (Int × RB)) (k0 k1:Int),((n:Int)+1≤k0∧(N.length:Int)<k0)∧GrowI (delR r.bs n k0) bj N.length r.size k1∧(n:Int)<k1∧(k1≤(n:Int)+1∨k1≤(N.length:Int)+1)∧Hp h D (pbsI Q' bj::haL p { r with many:=n,bm:=some m,bs:=bj } Fd cF (fun i=>S[i]?)) [] h'):=by
 have hzc:=k.zc;have hsz:=hzc.2;have hfw:=k.few;have hd:=k.hd;have hQD:∀j,Q j→D j∨h.size≤j:=fun j hj=>((ok.m (pbsI Q r.bs) List.mem_cons_self).2 j hj).2;have ok:Hp h D [boxI p 202 [.int .i64 (r.fr:Int),.int .i64 (r.nd:Int),.int .u64 (r.link:Int),.map (some r.am),.bool r.in_,.int .i64 (r.many:Int),.map r.bm,.pointer (some ⟨r.d,0,none⟩),.int .i64 (r.size:Int),.int .i64 (r.sure:Int),.pointer (some ⟨r.c,0,none⟩),.bool false],mapI (Value.int .i64) r.am (atE r.at_),nowI r.bm r.bs,dgI r.d Fd r.D,cacI r.c cF (fun i=>S[i]?)] [pbsI Q r.bs] h:=ok.frz;have hmn:=k.mn hin;have hnzi:(n:Int)*(r.size:Int)≤16777216:=by have h2:((n*r.size:Nat):Int)=(n:Int)*(r.size:Int):=Int.natCast_mul _ _;omega
 refine HC.go Tryz.func273 79 ?_;refine .s<|.z .asI<|.nil<|.seq<|.s<|.z .mvP<|.k 9 .func (hlook_any (r:=r) ok.m0)<|.z .asI<|.nil<|.s<|.z .mvI<|.z .neq<|.nil<|.cf<|.skip<|.seq<|.block fun K0 hK0=>.s<|.z .mvP<|.z .nil<|.z (.fa T.fd202_1)<|.z (.fa T.fd200_0)<|.z (.ldx T.ag4 ok.m0)<|.z .not<|.z .asB<|.nil<|.cond (fun C1=>?_) (fun C1=>?_)
 ·
  rw [hin] at C1;simp at C1
 refine .s<|.z .mvI<|.z .lss<|.z .asB<|.nil<|.cd (fun C2=>?_) (fun C2=>?_)
 ·
  omega
 refine .s<|.z .mvI<|.z .gtr<|.z .mvB<|.sd (fun G26=>?_) (fun G26=>?_)
 ·
  omega
 have hmz:=pg_mul (x:=(n:Int)) (s:=r.size) (by omega) (by omega) (by omega);refine .z .mvI<|.z .mvP<|.z .nil<|.z (.fa T.fd202_3)<|.z (.ldx T.ag3 ok.m0)<|.z .mulI<|.z .gtr<|.z .pkf<|.z .asB<|.nil<|.cd (fun C3=>?_) (fun C3=>?_)
 ·
  omega
 refine .skip<|.end<|hK0 _ _<|.seq<|.seq<|?_;obtain ⟨mb,hbm⟩:=k.bm hin;rw [hbm] at ok;try rw [hbm]
 have ok:=Hp.nowSome (ok.n2);refine .r<|.z .mvI<|.z (.addI (b:=1))<|.z .asI<|.nil<|.block fun K1 hK1=>.loop (fun m s hh=>∃(k0:Int) (bk:List (Int × RB)),Has s [(0,.pointer (some ⟨p,0,none⟩)),(1,.int .i64 (n:Int)),(6,.int .i64 k0)]∧Hp h D [mapI (Value.int .i64) mb (bsE bk),boxI p 202 [.int .i64 (r.fr:Int),.int .i64 (r.nd:Int),.int .u64 (r.link:Int),.map (some r.am),.bool r.in_,.int .i64 (r.many:Int),.map (some mb),.pointer (some ⟨r.d,0,none⟩),.int .i64 (r.size:Int),.int .i64 (r.sure:Int),.pointer (some ⟨r.c,0,none⟩),.bool false],mapI (Value.int .i64) r.am (atE r.at_),dgI r.d Fd r.D,cacI r.c cF (fun i=>S[i]?)] [pbsI Q r.bs] hh∧(n:Int)+1≤k0∧(k0≤(n:Int)+1∨k0≤(r.many:Int)+1)∧bk=delR r.bs n k0∧m=((r.many:Int)+1-k0).toNat) ?_ ?_
 ·exact ⟨_,(n:Int)+1,r.bs,⟨rfl,rfl,rfl,trivial⟩,ok.n4.n4.n4.n4.n4,Int.le_refl _,.inl (Int.le_refl _),delR_0.symm,rfl⟩
 rintro _ _ η1 ⟨k0,bk,hs,ok,hk1,hk2,hbk,rfl⟩ J0 hJ0;refine .frame hs fun τ=>?_;refine .seq<|.s<|.z .mvI<|.z .mvP<|.z .nil<|.z (.fa T.fd202_1)<|.z (.fa T.fd200_1)<|.z (.ldx T.ag3 ok.m1)<|.z .leq<|.nil<|.cdr (fun C4=>?_) (fun C4=>?_)
 ·
  refine .exit<|hK1 _ _<|.seq<|.s<|.z .mvP<|.z .nil<|.z (.fa T.fd202_1)<|.z (.fa T.fd200_1)<|.z (.ldx T.ag3 ok.m1)<|.z (.addI (b:=1))<|?_;have ok:=ok.d0 (pbsI Q bk) (Pbs.sub ok.r0 (by rw [hbk];exact delR_sub)) (fun _ h=>h);refine .z .asI<|.nil<|.block fun K3 hK3=>.loop (fun m s hh=>∃(k1:Int) (bj:List (Int × RB)) (Qj:Nat→Prop),Has s [(0,.pointer (some ⟨p,0,none⟩)),(1,.int .i64 (n:Int)),(7,.int .i64 k1)]∧Hp h D [mapI (Value.int .i64) mb (bsE bj),boxI p 202 [.int .i64 (r.fr:Int),.int .i64 (r.nd:Int),.int .u64 (r.link:Int),.map (some r.am),.bool r.in_,.int .i64 (r.many:Int),.map (some mb),.pointer (some ⟨r.d,0,none⟩),.int .i64 (r.size:Int),.int .i64 (r.sure:Int),.pointer (some ⟨r.c,0,none⟩),.bool false],mapI (Value.int .i64) r.am (atE r.at_),dgI r.d Fd r.D,cacI r.c cF (fun i=>S[i]?)] [pbsI Qj bj] hh∧(r.many:Int)+1≤k1∧(k1≤(n:Int)+1∨k1≤(r.many:Int)+1)∧GrowI bk bj r.many r.size k1∧(∀j,Qj j→D j∨h.size≤j)∧m=((n:Int)+1-k1).toNat) ?_ ?_
  ·exact ⟨_,(r.many:Int)+1,bk,Q,⟨rfl,rfl,rfl,trivial⟩,ok.n4.n4.n4.n4.n4.e1,Int.le_refl _,.inr (Int.le_refl _),GrowI.nil,hQD,rfl⟩
  rintro _ _ η2 ⟨k1,bj,Qj,hs,ok,hj1,hj2,hgj,hnj,rfl⟩ J1 hJ1;refine .frame hs fun τ=>?_;refine .seq<|.s<|.z .mvI<|.z .mvI<|.z .leq<|.nil<|.cdr (fun C5=>?_) (fun C5=>?_)
  ·
   refine .exit<|hK3 _ _<|.s<|.z .mvP<|.z .mvI<|.z .nil<|.z (.fa T.fd202_1)<|.z (.fa T.fd200_1)<|.ur' (.stI T.sz3 ok.n1) ?_;rintro η3 ⟨ok,cg⟩;refine .nil ?_;refine .s<|.z .asI<|.nil<|.ret ⟨.int .i64 0,Res.one rfl rfl,⟨rfl,_,mb,bj,k0,k1,⟨hk1,by omega⟩,(by rw [hbk,hmn] at hgj;exact hgj),by omega,by omega,by have o:=(Hp.thaw (ok.n4.n4.n3.n4.n4).k5 hnj);unfold haL haboxI;exact o⟩⟩
  refine .skip<|.seq<|.block fun K4 hK4=>.a 11 (fun fl hh=>cond fl True (Hp h D [mapI (Value.int .i64) mb (bsE bj),boxI p 202 [.int .i64 (r.fr:Int),.int .i64 (r.nd:Int),.int .u64 (r.link:Int),.map (some r.am),.bool r.in_,.int .i64 (r.many:Int),.map (some mb),.pointer (some ⟨r.d,0,none⟩),.int .i64 (r.size:Int),.int .i64 (r.sure:Int),.pointer (some ⟨r.c,0,none⟩),.bool false],mapI (Value.int .i64) r.am (atE r.at_),dgI r.d Fd r.D,cacI r.c cF (fun i=>S[i]?)] [pbsI Qj bj] hh)) mixed ?_;have hS:=ok;refine .g 0 false rfl 63 hS (fun _=>.mvP)<|.g 1 false rfl 64 hS (fun _=>.nil)<|.g 2 false rfl 65 hS (fun _=>.fa T.fd202_1)<|.g 3 false rfl 66 hS (fun _=>.fa T.fd200_2)<|.l 4 false rfl 67 hS (fun _ hS=>.ldx T.ag118 hS.m1)<|.g 5 false rfl 68 hS (fun _=>.mvI)<|.g 6 false rfl 69 hS (fun _=>.mvP)<|.g 7 false rfl 70 hS (fun _=>.nil)<|.g 8 false rfl 71 hS (fun _=>.fa T.fd202_3)<|.l 9 false rfl 72 hS (fun _ hS=>.ldx T.ag3 hS.m1)<|.o1 10<|.a' false rfl 73 (.mks r.size r.size T.el44 T.sz5 T.by5 T.zr5 ok) ?_;rintro _ η4 ⟨pb1,rfl,ok,xe⟩;have ok:=ok.cx (ys:=(List.replicate r.size (0:UInt8)).map bv) (zeros8 _);refine ⟨ok.n5.n5.n5.n5.n5.k5,?_⟩;have hS:=ok.n5.n5.n5.n5.n5.k5;refine .o1 11<|.ur' true rfl (.mpu (KV.int .i64) V.sbI k1 (v:=.slice (some ⟨pb1,0,none⟩) r.size r.size) T.mp118 (inB_iff T.in3) ok.n1) ?_;rintro η5 ok;rw [show aput (bsE bj) k1 (.slice (some ⟨pb1,0,none⟩) r.size r.size)=bsE (mput bj k1 ⟨some ⟨pb1,0,none⟩,r.size,List.replicate r.size (0:UInt8)⟩) from (by rw [←bs_put];simp only [bsV,List.length_replicate])] at ok;refine ⟨trivial,?_⟩;refine .e ?_;refine .end<|hK4 _ _<|.r<|.z .mvI<|.z .add<|.z .asI<|.nil<|.end<|?_;have hf1:∀j,blkC (sv (some ⟨pb1,0,none⟩,r.size,r.size)) j→D j∨h.size≤j:=fun j hj=>(((ok.n1).m _ List.mem_cons_self).2 j hj).2;have ok:=Hp.pbsPutN (k:=k1) (l:=List.replicate r.size (0:UInt8)) (by simp) (ok.n1);refine hJ1 _ _ _ ⟨k1+1,mput bj k1 ⟨some ⟨pb1,0,none⟩,r.size,List.replicate r.size (0:UInt8)⟩,(fun j=>Qj j∨blkC (sv (some ⟨pb1,0,none⟩,r.size,r.size)) j),⟨rfl,rfl,rfl,trivial⟩,ok.n4.n4.n4.n4.n4,by omega,by omega,hgj.step hj1 rfl,(fun j h=>h.elim (hnj j) (hf1 j)),rfl⟩ (by omega)
 refine .skip<|.seq<|.block fun K2 hK2=>.r<|.z .mvP<|.z .nil<|.z (.fa T.fd202_1)<|.z (.fa T.fd200_2)<|.z (.ldx T.ag118 ok.m1)<|.z .mvI<|.a0' (.del (KV.int .i64) k0 T.mp118 (inB_iff T.in3) ok) ?_;rintro _ η6 ⟨rfl,ok⟩;rw [bs_del] at ok;refine .nil ?_;refine .end<|hK2 _ _<|.r<|.z .mvI<|.z .add<|.z .asI<|.nil<|.end<|hJ0 _ _ _ ⟨k0+1,mdel bk k0,⟨rfl,rfl,rfl,trivial⟩,ok.n4.n4.n4.n4.n4,by omega,by omega,by rw [hbk];exact delR_s hk1,rfl⟩ (by omega)
def atF (l:List (Int × Nat)) (m:Nat):List (Int × Nat):=l.filter fun p=>decide (p.1≤(m:Int))
def dnS (S:Nat→Option (List UInt8)) (ks:List Int) (m:Nat) (k:Int):Nat→Option (List UInt8):=fun i=>if ((i:Int)+1∈ks)∨((m:Int)<(i:Int)+1∧(i:Int)+1<k) then none else S i
theorem dnS_0 {S:Nat→Option (List UInt8)} {ks:List Int} {m:Nat} : ks≠[]→∀i:Nat,((i:Int)+1)∉ks→∀l,S i=some l→dnS S ks m ((m:Int)+1) i=some l:=fun _ i hi l hl=>by
 unfold dnS;rw [if_neg,hl];rintro (h | h)
 ·exact hi h
 ·omega
theorem dnS_s {S:Nat→Option (List UInt8)} {ks:List Int} {m:Nat} {k:Int} : [k]≠[]→∀i:Nat,((i:Int)+1)∉[k]→∀l,dnS S ks m k i=some l→dnS S ks m (k+1) i=some l:=fun _ i hi l hl=>by
 unfold dnS at hl⊢;split at hl
 ·cases hl
 ·rename_i h;rw [if_neg,hl];rintro (h1 | h1)
  ·exact h (.inl h1)
  ·exact h (.inr ⟨h1.1,by simp at hi;omega⟩)
theorem dnS_e {S S':Nat→Option (List UInt8)} {ks:List Int} {m su:Nat} {k:Int} (hk:(su:Int)<k) (hS:∀i:Nat,((i:Int)+1)∉ks→(i<m∨su≤i)→∀l,S i=some l→S' i=some l):∀i l,dnS S ks m k i=some l→S' i=some l:=fun i l hl=>by
 unfold dnS at hl;split at hl
 ·cases hl
 ·rename_i h;refine hS i (fun h1=>h (.inl h1)) ?_ l hl;by_cases h2:i<m
  ·exact .inl h2
  ·by_cases h3:su≤i
   ·exact .inr h3
   ·exact absurd (.inr ⟨by omega,by omega⟩) h
theorem cacI_mono {h:Heap} {c:Nat} {F:Nat→Prop} {S S':Nat→Option (List UInt8)} (hS:∀i l,S i=some l→S' i=some l) (hc:(cacI c F S).p h):(cacI c F S').p h:=
 let ⟨room,L,q⟩:=hc
 ⟨room,L,⟨q.rep,q.r1,q.r2,q.len,fun x hx=>⟨(q.ok x hx).1,hS _ _ (q.ok x hx).2⟩⟩⟩
theorem at_filt2 {L:List (Int × Nat)} {k:Int} {m:Nat} (h:(m:Int)<k):atF (mdel L k) m=atF L m:=filt2 h
theorem ap_of {p:Int × Value} {q:Int × Nat} (h:(q.1,iv' q.2)=p):p.1=q.1:=by rw [←h]
theorem int_uniq:∀ {l m:List Int},l.Pairwise (· < ·)→m.Pairwise (· < ·)→(∀x,x∈l↔x∈m)→l=m
 | [],[],_,_,_=>rfl
 | [],b::m,_,_,h=>absurd ((h b).2 List.mem_cons_self) (by simp)
 | a::l,[],_,_,h=>absurd ((h a).1 List.mem_cons_self) (by simp)
 | a::l,b::m,hl,hm,h=>by
  have h1:=List.pairwise_cons.1 hl;have h2:=List.pairwise_cons.1 hm;have hab:a=b:=by
   rcases List.mem_cons.1 ((h a).1 List.mem_cons_self) with e | e
   ·exact e
   ·rcases List.mem_cons.1 ((h b).2 List.mem_cons_self) with f | f
    ·exact f.symm
    ·have:=h2.1 a e;have:=h1.1 b f;omega
  subst hab;congr 1;refine int_uniq h1.2 h2.2 fun x=>⟨fun hx=>?_,fun hx=>?_⟩
  ·rcases List.mem_cons.1 ((h x).1 (List.mem_cons_of_mem _ hx)) with e | e
   ·have:=h1.1 x hx;omega
   ·exact e
  ·rcases List.mem_cons.1 ((h x).2 (List.mem_cons_of_mem _ hx)) with e | e
   ·have:=h2.1 x hx;omega
   ·exact e
def unK (now sure:List (List UInt8)) (k:Int):Bool:=decide (now[(k-1).toNat]?≠sure[(k-1).toNat]?)
theorem unl_eq {now sure:List (List UInt8)} {S:List Int} (hn:S.Nodup) (hs:S.Pairwise (·≤·)) (hk:∀k∈S,1≤k∧k≤now.length) (hS:∀i:Nat,i<now.length→(i:Int)+1∉S→sure[i]? = now[i]?):S.filter (unK now sure)=pgL (unlN now sure):=by
 apply int_uniq
 ·exact List.Pairwise.filter _ ((hs.and hn).imp fun h=>by omega)
 ·unfold pgL unlN;rw [List.pairwise_map];exact List.Pairwise.filter _ (List.pairwise_lt_range.imp fun h=>by omega)
 ·intro x;unfold pgL unlN unK;simp only [List.mem_filter,List.mem_map,List.mem_range,decide_eq_true_eq];constructor
  ·rintro ⟨h1,h2⟩;have:=hk x h1;exact ⟨(x-1).toNat,⟨by omega,h2⟩,by omega⟩
  ·rintro ⟨i,⟨h1,h2⟩,rfl⟩;have e:((i:Int)+1-1).toNat=i:=by omega
   rw [e];refine ⟨?_,h2⟩;by_cases h3:(i:Int)+1∈S
   ·exact h3
   ·exact absurd (hS i h1 h3).symm h2
theorem Cap.lenI {h:Heap} {e:TypeId} {a:Option Addr} {n c:Nat} {l:List Int} (r:Cap h 1 e (.slice a n c) (l.map iv)):n=l.length:=by
 obtain ⟨a',n',c',hv,_,_,h3,_⟩:=r;injection hv with _ h2 _;rw [List.length_map,Nat.mul_one] at h3;omega
theorem perm_erase {td:List (Int × RB)} {i:Nat} {q:Int × RB} (h:td[i]? = some q):td.Perm (q::td.eraseIdx i):=by
 induction td generalizing i with
 | nil=>simp at h
 | cons a td ih=>
  cases i with
  | zero=>simp at h;subst h;exact .refl _
  | succ i=>rw [List.getElem?_cons_succ] at h;exact ((ih h).cons a).trans (.swap q a _)
theorem coll_step {ks:List Int} {td bs:List (Int × RB)} {i:Nat} {q:Int × RB} (h:td[i]? = some q) (hp:(ks++td.map (·.1)).Perm (bs.map (·.1))):((ks++[q.1])++(td.eraseIdx i).map (·.1)).Perm (bs.map (·.1)):=by
 refine List.Perm.trans ?_ hp;rw [List.append_assoc];exact (((perm_erase h).map (·.1)).symm).append_left ks
theorem bsE_keys {bs:List (Int × RB)} : (bsE bs).map (·.1)=bs.map (·.1):=by simp [bsE]
section
variable {r:RA} {A:Ah}
theorem filt_take {S:List Int} {P:Int→Bool} {i:Nat} (h:i<S.length):(S.take (i+1)).filter P=(S.take i).filter P++if P S[i]=true then [S[i]] else []:=by
 rw [List.take_succ_eq_append_getElem h,List.filter_append];congr 1;by_cases hp:P S[i]=true<;>simp [hp]
end
theorem nd_len:∀(n:Nat) (l:List Int),l.Nodup→(∀x∈l,1≤x∧x≤(n:Int))→l.length≤n
 | 0,[],_,_=>Nat.le_refl _
 | 0,a::l,_,h=>by have:=h a List.mem_cons_self;omega
 | n+1,l,hn,h=>by
  have key:∀x∈l.erase ((n:Int)+1),1≤x∧x≤(n:Int):=fun x hx=>by
   have h1:=(List.Nodup.mem_erase_iff hn).1 hx;have h2:=h x h1.2;have h3:=h1.1;omega
  have h4:=nd_len n _ (hn.erase _) key;have h5:l.length≤(l.erase ((n:Int)+1)).length+1:=by
   rw [List.length_erase];split<;>omega
  omega
theorem unl_len {bs:List (Int × RB)} {n:Nat} (hn:(bs.map (·.1)).Nodup) (hk:∀x∈bs,1≤x.1∧x.1≤(n:Int)):bs.length≤n:=by
 have:=nd_len n (bs.map (·.1)) hn fun x hx=>by
  obtain ⟨y,hy,rfl⟩:=List.mem_map.1 hx;exact hk y hy
 simpa using this
open Go Go.HL
section
variable {r:RHA} {S N:List (List UInt8)}
theorem HAh.sfact (k:HAh r S N) (hin:r.in_=true) (hnd:(r.bs.map (·.1)).Nodup) {Sk:List Int} (hp:Sk.Perm (r.bs.map (·.1))):∀y∈Sk,∃i:Nat,y=(i:Int)+1∧i<N.length∧∃x,mget r.bs y=some x∧N[i]? = some x.l:=fun y hy=>by
 obtain ⟨q,hq,rfl⟩:=List.mem_map.1 (hp.mem_iff.1 hy);have h1:=k.ks hin q hq;have hg:=mget_of_mem hnd (show (q.1,q.2)∈r.bs from hq);have hlt:(q.1-1).toNat<N.length:=by omega
 refine ⟨(q.1-1).toNat,by omega,hlt,q.2,hg,?_⟩;have h2:=k.nw hin (q.1-1).toNat _ (List.getElem?_eq_getElem hlt);unfold NowOk at h2;rw [show (((q.1-1).toNat:Nat):Int)+1=q.1 by omega,hg] at h2;rw [List.getElem?_eq_getElem hlt];exact congrArg some h2.symm
theorem HAh.sout (k:HAh r S N) (hin:r.in_=true) (hnd:(r.bs.map (·.1)).Nodup) {Sk:List Int} (hp:Sk.Perm (r.bs.map (·.1))) (hs:Sk.Pairwise (·≤·)):Sk.filter (unK N S)=pgL (unlN N S):=by
 refine unl_eq (hp.nodup_iff.2 hnd) hs (fun y hy=>?_) fun i hi hni=>?_
 ·obtain ⟨i,h1,h2,_⟩:=k.sfact hin hnd hp y hy;omega
 ·have h2:=k.nw hin i _ (List.getElem?_eq_getElem hi);unfold NowOk at h2;cases hg:mget r.bs ((i:Int)+1) with
  | none=>rw [hg] at h2;rw [h2,List.getElem?_eq_getElem hi]
  | some x=>exact absurd (hp.mem_iff.2 (List.mem_map.2 ⟨_,mget_mem hg,rfl⟩)) hni
end
theorem hamay_any {h:Heap} {p:Nat} {r:RHA} {D Fd cF Q:Nat→Prop} {S N:List (List UInt8)} (k:HAh r S N) (hin:r.in_=true) (hN:1≤N.length) (hh:hdOk (N.getD 0 []) r.size=true) (ok:Hp h D (pbsI Q r.bs::haL p r Fd cF (fun i=>S[i]?)) [] h) :
  HC Tryz.prog 276 #[.pointer (some ⟨p,0,none⟩)] h (fun v h'=>∃F',v=.int .i64 0∧Hp h D (pbsI Q r.bs::haL p r Fd F' (fun i=>S[i]?)) [] h'):=by
 have hzc:=k.zc;have hsz:=hzc.2;have hfw:=k.few;have hd:=k.hd;have hQD:∀j,Q j→D j∨h.size≤j:=fun j hj=>((ok.m (pbsI Q r.bs) List.mem_cons_self).2 j hj).2;have ok:Hp h D [boxI p 202 [.int .i64 (r.fr:Int),.int .i64 (r.nd:Int),.int .u64 (r.link:Int),.map (some r.am),.bool r.in_,.int .i64 (r.many:Int),.map r.bm,.pointer (some ⟨r.d,0,none⟩),.int .i64 (r.size:Int),.int .i64 (r.sure:Int),.pointer (some ⟨r.c,0,none⟩),.bool false],mapI (Value.int .i64) r.am (atE r.at_),nowI r.bm r.bs,dgI r.d Fd r.D,cacI r.c cF (fun i=>S[i]?)] [pbsI Q r.bs] h:=ok.frz;have hmn:=k.mn hin;have hl:N[0]? = some (N.getD 0 []):=by rw [List.getD_eq_getElem?_getD,List.getElem?_eq_getElem (by omega)];rfl
 obtain ⟨p1,p3,p4⟩:=k.page hl;rw [show ((0:Nat):Int)+1=1 from rfl] at p3 p4;refine HC.go Tryz.func276 31 ?_;refine .s<|.z .asI<|.nil<|.seq<|.s<|.z .mvP<|.z .nil<|.z (.fa T.fd202_1)<|.z (.fa T.fd200_1)<|.z (.ldx T.ag3 ok.m0)<|.z .eql<|.nil<|.cd (fun C0=>?_) (fun C0=>?_)
 ·
  omega
 refine .skip<|.s<|.z .mvP<|.c' 18 .func (hapage_any (p:=p) (r:=r) (i:=0) (no:=1) (l:=(N.getD 0 [])) hd rfl (by omega) hsz p1 k.bm p3 p4 (Hp.lc5 (ok))) ?_;rintro _ η1 ⟨Fo1,ao1,co1,rfl,q⟩;have ok:=Hp.lf5 (ok) q;refine .z .mvU<|.z .ex<|.z .ex<|.z .asS<|.z .asI<|.nil<|.seq<|.s<|.z .mvI<|.z .neq<|.nil<|.cf<|.skip<|.seq<|.s<|.z .mvS<|.z .mvP<|.z .nil<|.z (.fa T.fd202_3)<|.z (.ldx T.ag3 ok.m1)<|.c' 29 .func (headed_any (n:=r.size) (a:=ao1) (c:=co1) (l:=(N.getD 0 [])) (RdL.ofCapB (v:=(ao1,(N.getD 0 []).length,co1)) (l:=(N.getD 0 [])) ok.m0)) ?_;rintro _ η2 ⟨rfl,hx⟩;have ok:=ok.ext hx;refine .z .not<|.nil<|.cond (fun C3=>?_) (fun C3=>?_)
 ·
  exact absurd hh (by simpa using C3)
 refine .skip<|.s<|.z .asI<|.nil<|.ret ⟨.int .i64 0,Res.one rfl rfl,⟨Fo1,rfl,(Hp.thaw (ok.n5.n5.n5.n5.n5).k5 hQD)⟩⟩
theorem haunlike_any {h:Heap} {p:Nat} {r:RHA} {D Fd cF Q:Nat→Prop} {S N:List (List UInt8)} (k:HAh r S N) (hin:r.in_=true) (ok:Hp h D (pbsI Q r.bs::haL p r Fd cF (fun i=>S[i]?)) [] h) :
  HC Tryz.prog 277 #[.pointer (some ⟨p,0,none⟩)] h (fun v h'=>∃(F':Nat→Prop) (a:Option Addr) (c:Nat),v=.tuple #[.slice a (pgL (unlN N S)).length c,.int .i64 0]∧Hp h D (capI 1 3 (a,(pgL (unlN N S)).length,c) ((pgL (unlN N S)).map iv)::pbsI Q r.bs::haL p r Fd F' (fun i=>S[i]?)) [] h'):=by
 have hzc:=k.zc;have hsz:=hzc.2;have hfw:=k.few;have hd:=k.hd;have hQD:∀j,Q j→D j∨h.size≤j:=fun j hj=>((ok.m (pbsI Q r.bs) List.mem_cons_self).2 j hj).2;have ok:Hp h D [boxI p 202 [.int .i64 (r.fr:Int),.int .i64 (r.nd:Int),.int .u64 (r.link:Int),.map (some r.am),.bool r.in_,.int .i64 (r.many:Int),.map r.bm,.pointer (some ⟨r.d,0,none⟩),.int .i64 (r.size:Int),.int .i64 (r.sure:Int),.pointer (some ⟨r.c,0,none⟩),.bool false],mapI (Value.int .i64) r.am (atE r.at_),nowI r.bm r.bs,dgI r.d Fd r.D,cacI r.c cF (fun i=>S[i]?)] [pbsI Q r.bs] h:=ok.frz;have hsuR:=k.su;refine HC.go Tryz.func277 65 ?_;refine .s<|.z .asS<|.z .asI<|.nil<|.s<|.z .asS<|?_;have ok:=ok.nilC (k:=1) (e:=3);refine .nil ?_;refine .seq<|.seq<|?_;obtain ⟨mb,hbm⟩:=k.bm hin;rw [hbm] at ok;try rw [hbm]
 have ok:=Hp.nowSome (ok.n3);have hnd:(r.bs.map (·.1)).Nodup:=by have:=MapT.nodup ok.m0;rwa [bsE_keys] at this
 have hbl:r.bs.length≤1048576:=Nat.le_trans (unl_len hnd (k.ks hin)) (by omega);refine .r<|.z .mvP<|.z .nil<|.z (.fa T.fd202_1)<|.z (.fa T.fd200_2)<|.z (.ldx T.ag118 ok.m2)<|.a' 16 (.rng T.mp118 ok) ?_;rintro _ η1 ⟨ib1,rfl,ok⟩;refine .nil ?_;refine .block fun K0 hK0=>.loop (fun m s hh=>∃(ks:List Int) (td:List (Int × RB)) (a4:Option Addr) (n4 c4:Nat),Has s [(0,.pointer (some ⟨p,0,none⟩)),(4,.slice a4 n4 c4),(16,.pointer (some ⟨ib1,0,none⟩))]∧Hp h D [capI 1 3 (a4,n4,c4) (ks.map iv),itI (Value.int .i64) ib1 mb (bsE r.bs) (bsE td),boxI p 202 [.int .i64 (r.fr:Int),.int .i64 (r.nd:Int),.int .u64 (r.link:Int),.map (some r.am),.bool r.in_,.int .i64 (r.many:Int),.map (some mb),.pointer (some ⟨r.d,0,none⟩),.int .i64 (r.size:Int),.int .i64 (r.sure:Int),.pointer (some ⟨r.c,0,none⟩),.bool false],mapI (Value.int .i64) r.am (atE r.at_),dgI r.d Fd r.D,cacI r.c cF (fun i=>S[i]?)] [pbsI Q r.bs] hh∧(ks++td.map (·.1)).Perm (r.bs.map (·.1))∧m=td.length) ?_ ?_
 ·exact ⟨_,[],r.bs,none,0,0,⟨rfl,rfl,rfl,trivial⟩,ok.n5.n5.n5.n5.n4.n5.cx (by simp),.refl _,rfl⟩
 rintro _ _ η2 ⟨ks,td,a4,n4,c4,hs,ok,hcp,rfl⟩ J0 hJ0;refine .frame hs fun τ=>?_;refine .s<|.a' 17 (.nxt ok.n1) ?_;rintro _ η3 (⟨hnil,rfl,ok⟩ | ⟨ipq1,pq1,hpq1,rfl,ok⟩)
 ·
  have htd:td=[]:=by simpa [bsE] using hnil
  rw [htd,List.map_nil,List.append_nil] at hcp;have ok:=(ok).itm;obtain rfl:n4=ks.length:=Cap.lenI ok.m1;have hkl:ks.length≤1048576:=by have:=hcp.length_eq;simp at this;omega
  refine .z .ex<|.nil<|.seq<|.cf<|.exit<|hK0 _ _<|.s<|.z .mvS<|.c' 26 .func (sortI_any (ok.n1) (by omega)) ?_;rintro _ η4 ⟨Sk,rfl,hSq,hSs,ok⟩;have ok:=ok.frzI rfl;have hSp:=hSq.trans hcp;have hSl:Sk.length=ks.length:=hSq.length_eq;have hSm:=ok.r0.m;have hSc:=ok.r0.c;simp only at hSm hSc;have hfs:=k.sfact hin hnd hSp;rw [show ks.length=Sk.length from hSl.symm];refine .nil ?_;refine .s<|.z .asS<|?_;have ok:=ok.nilC (k:=1) (e:=3);refine .nil ?_;refine .seq<|.s<|.z .mvS<|.z (.len T.el24)<|.z .mvI<|.nil<|.block fun K2 hK2=>.loop (fun m s hh=>∃(i:Nat) (cFi:Nat→Prop) (a6:Option Addr) (n6 c6:Nat),Has s [(0,.pointer (some ⟨p,0,none⟩)),(6,.slice a6 n6 c6),(27,.slice a4 Sk.length c4),(28,.int .i64 (Sk.length:Int)),(29,.int .i64 (i:Int))]∧Hp h D [capI 1 3 (a6,n6,c6) (((Sk.take i).filter (unK N S)).map iv),boxI p 202 [.int .i64 (r.fr:Int),.int .i64 (r.nd:Int),.int .u64 (r.link:Int),.map (some r.am),.bool r.in_,.int .i64 (r.many:Int),.map (some mb),.pointer (some ⟨r.d,0,none⟩),.int .i64 (r.size:Int),.int .i64 (r.sure:Int),.pointer (some ⟨r.c,0,none⟩),.bool false],mapI (Value.int .i64) r.am (atE r.at_),mapI (Value.int .i64) mb (bsE r.bs),dgI r.d Fd r.D,cacI r.c cFi (fun i=>S[i]?)] [rdI (blkC (sv (a4,Sk.length,c4))) none_ (a4,Sk.length,c4) Sk,pbsI Q r.bs] hh∧i≤Sk.length∧m=Sk.length-i) ?_ ?_
  ·exact ⟨_,0,cF,none,0,0,⟨rfl,rfl,rfl,rfl,rfl,trivial⟩,ok.n5.n5.n3.n5.n5.n5.cx (by simp),Nat.zero_le _,rfl⟩
  rintro _ _ η5 ⟨i,cFi,a6,n6,c6,hs,ok,hi,rfl⟩ J1 hJ1;refine .frame hs fun τ=>?_;refine .s<|.z .lss<|.nil<|.seq<|.cdr (fun C1=>?_) (fun C1=>?_)
  ·
   refine .exit<|hK2 _ _<|.seq<|?_;have hfin:((Sk.take i).filter (unK N S))=pgL (unlN N S):=by rw [show i=Sk.length by omega,List.take_length];exact k.sout hin hnd hSp hSs
   obtain rfl:n6=(((Sk.take i).filter (unK N S))).length:=Cap.lenI ok.m0;refine .r<|.z .mvS<|.z .asS<|.z .asI<|.nil<|.ret ⟨.tuple #[.slice a6 ((((Sk.take i).filter (unK N S))).length) c6,.int .i64 0],Res.two rfl rfl rfl,⟨cFi,a6,c6,by rw [hfin],by have o:=((Hp.thaw (ok.f1).k6.e1 hQD)).n1;rw [hfin] at o;unfold haL haboxI;rw [hbm];exact o⟩⟩
  refine .skip<|.seq<|.block fun K3 hK3=>.seq<|?_;have hiS:i<Sk.length:=by omega
  obtain ⟨w,hkw,hwn,x,hx,hnl⟩:=hfs Sk[i] (List.getElem_mem hiS);refine .r<|?_;obtain ⟨bb1,oo1,rfl,fb1⟩:=ok.r0.pos (by omega);refine .z (.ix1 i T.el24 T.sz3)<|.z (.ld T.ag3 (ok.r0.i64 (i:=i) (by omega)))<|.z .asI<|.nil<|.seq<|.s<|.z .mvI<|.z .mvP<|.z .nil<|.z (.fa T.fd202_4)<|.z (.ldx T.ag3 ok.m1)<|.z .leq<|.nil<|.cd (fun C2=>?_) (fun C2=>?_)
  ·
   have hws:w<S.length:=by omega
   have hSw:S[w]? = some (S.getD w []):=by rw [List.getD_eq_getElem?_getD,List.getElem?_eq_getElem hws];rfl
   have hsrc:=k.src w _ hSw;have hsl:(S.getD w []).length=r.size:=k.sl _ (List.mem_of_getElem? hSw);refine .s<|.z .mvP<|.z .mvI<|.c' 42 .func (haold_any (p:=p) (r:=({ r with bm:=(some mb) } : RHA)) (i:=w) (no:=Sk[i]) (l:=(S.getD w [])) hd hkw (by omega) hsz hsl hSw hsrc ((Hp.lc5 (ok.n5.n5.n5.n5.n5)).e0)) ?_;rintro _ η6 ⟨Fo1,ao1,co1,rfl,q⟩;have ok:=Hp.lf5 (ok.n5.n5.n5.n5.n5) q;refine .z .mvU<|.z .ex<|.z .ex<|.z .asS<|.z .asI<|.nil<|.seq<|.s<|.z .mvI<|.z .neq<|.nil<|.cf<|.skip<|.seq<|?_;have ok:=ok.d1 (rdI Q Q (bsA r.bs Sk[i],bsN r.bs Sk[i],bsC r.bs Sk[i]) x.l) (Pbs.rd ok.r1 hx rfl) (fun _ h=>h.elim id id);refine .q (hm:=mixed)<|.z .mvS<|.z (.bts T.el44 T.in5 T.st9 (ok.m0).sl)<|.z .mvP<|.z .nil<|.z (.fa T.fd202_1)<|.z (.fa T.fd200_2)<|.z (.ldx T.ag118 ok.m1)<|.z .mvI<|.z (.lk (KV.int .i64) (Sk[i]) (v:=.slice (bsA r.bs Sk[i]) (bsN r.bs Sk[i]) (bsC r.bs Sk[i])) T.mp118 (inB_iff T.in3) T.zr44 ok.m3 (by exact bs_get))<|.z (.bts T.el44 T.in5 T.st9 (ok.r0).by)<|.z .tEqB<|.nil<|.cd (fun C4=>?_) (fun C4=>?_)
   ·
    have hun:unK N S Sk[i]=false:=by unfold unK;rw [show (Sk[i]-1).toNat=w by omega,hnl,hSw,←C4];simp
    refine .exit<|hK3 _ _<|.r<|.z (.addI (b:=1))<|.z .mvI<|.nil<|.end<|hJ1 _ _ _ ⟨i+1,Fo1,a6,n6,c6,⟨rfl,rfl,rfl,rfl,rfl,trivial⟩,ok.n5.n5.n5.n5.n5.n6.k6.tR.cx (by rw [filt_take (by omega)];simp [hun,iv]),by omega,rfl⟩ (by omega)
   have hun:unK N S Sk[i]=true:=by unfold unK;rw [show (Sk[i]-1).toNat=w by omega,hnl,hSw];exact decide_eq_true (fun e=>C4 (by injection e with e;exact e.symm))
   refine .skip<|.r<|.z .mvS<|.z .mvI<|.a' 61 (.lit [.tmp 60] (cs:=[.int .i64 (Sk[i])]) T.el24 T.sz3 T.zr3 ok ⟨rfl,trivial⟩) ?_;rintro _ η7 ⟨pb1,rfl,ok,xe⟩;refine .a' 62 (.app (news:=[.int .i64 (Sk[i])]) T.el24 T.sz3 T.by3 T.zr3 ok.n7 (ok.n7.m1).sl (oneL rfl) (by have:=List.length_filter_le (unK N S) (Sk.take i);simp only [List.length_map,List.length_take,List.length_cons,List.length_nil] at this⊢;omega)) ?_;rintro _ η8 ⟨ya1,yn1,yc1,rfl,ok,ap⟩;refine .z .asS<|.nil<|.end<|hK3 _ _<|.r<|.z (.addI (b:=1))<|.z .mvI<|.nil<|.end<|hJ1 _ _ _ ⟨i+1,Fo1,ya1,yn1,yc1,⟨rfl,rfl,rfl,rfl,rfl,trivial⟩,ok.n7.n7.n7.n7.n7.n5.k6.tR.cx (by rw [filt_take (by omega)];simp [hun,iv]),by omega,rfl⟩ (by omega)
  have hun:unK N S Sk[i]=true:=by unfold unK;rw [show (Sk[i]-1).toNat=w by omega,hnl,List.getElem?_eq_none (by omega)];rfl
  refine .skip<|.r<|.z .mvS<|.z .mvI<|.a' 61 (.lit [.tmp 60] (cs:=[.int .i64 (Sk[i])]) T.el24 T.sz3 T.zr3 ok ⟨rfl,trivial⟩) ?_;rintro _ η9 ⟨pb2,rfl,ok,xe⟩;refine .a' 62 (.app (news:=[.int .i64 (Sk[i])]) T.el24 T.sz3 T.by3 T.zr3 ok.n1 (ok.n1.m1).sl (oneL rfl) (by have:=List.length_filter_le (unK N S) (Sk.take i);simp only [List.length_map,List.length_take,List.length_cons,List.length_nil] at this⊢;omega)) ?_;rintro _ η10 ⟨ya2,yn2,yc2,rfl,ok,ap⟩;refine .z .asS<|.nil<|.end<|hK3 _ _<|.r<|.z (.addI (b:=1))<|.z .mvI<|.nil<|.end<|hJ1 _ _ _ ⟨i+1,cFi,ya2,yn2,yc2,⟨rfl,rfl,rfl,rfl,rfl,trivial⟩,ok.n6.n6.n6.n6.n6.n5.k6.cx (by rw [filt_take (by omega)];simp [hun,iv]),by omega,rfl⟩ (by omega)
 obtain ⟨q,hq,hpe⟩:=map_some (f:=fun p:Int × RB=>(p.1,bsV p.2)) hpq1;have hk1:pq1.1=q.1:=by rw [←hpe]
 rw [show (bsE td).eraseIdx ipq1=bsE (td.eraseIdx ipq1) from (map_erase _ _ _).symm] at ok;refine .z .ex<|.nil<|.seq<|.ct<|.skip<|.block fun K1 hK1=>.s<|.z (.ent (ok.m0).2)<|.z .ex<|.z .asI<|.nil ?_;have hkl0:ks.length≤1048576:=by have:=hcp.length_eq;simp at this;omega
 refine .r<|.z .mvS<|.z .mvI<|.a' 23 (.lit [.tmp 22] (cs:=[.int .i64 pq1.1]) T.el24 T.sz3 T.zr3 ok ⟨rfl,trivial⟩) ?_;rintro _ η11 ⟨pb3,rfl,ok,xe⟩;refine .a' 24 (.app (news:=[.int .i64 pq1.1]) T.el24 T.sz3 T.by3 T.zr3 ok.n2 (ok.n2.m1).sl (oneL rfl) (by simp;omega)) ?_;rintro _ η12 ⟨ya3,yn3,yc3,rfl,ok,ap⟩;refine .z .asS<|.nil<|.end<|hK1 _ _<|.end<|?_;have ok:=(ok.n2).itc;refine hJ0 _ _ _ ⟨ks++[q.1],td.eraseIdx ipq1,ya3,yn3,yc3,⟨rfl,rfl,rfl,trivial⟩,ok.n6.n6.n6.n6.n4.n5.k6.cx (by simp [iv,hk1]),coll_step hq hcp,rfl⟩ (by rw [List.length_eraseIdx_of_lt (List.getElem?_eq_some_iff.1 hq).1];have:=(List.getElem?_eq_some_iff.1 hq).1;omega)
open Go Go.HL
theorem frame_s {h:Heap} {D:Nat→Prop} {r n c pos size prev salt:Nat} {a:Option Addr} (ok:Hp h D [boxI r 275 [.slice a n c,.int .i64 (pos:Int),.int .i64 (size:Int),.int .u64 (prev:Int),.int .u64 (salt:Int)]] [] h) (hn:n<pos+16+size) (hb:pos+16+size≤1000000000000) :
  HC Tryz.prog 204 #[.pointer (some ⟨r,0,none⟩)] h (fun v h'=>v=.tuple #[.agg #[.int .i64 0,.int .i64 0,.slice none 0 0],.bool false]∧Hp h D [boxI r 275 [.slice a n c,.int .i64 (pos:Int),.int .i64 (size:Int),.int .u64 (prev:Int),.int .u64 (salt:Int)]] [] h'):=by
 refine HC.go Tryz.func204 83 ?_;refine .s<|.a' 2 (.alA T.zr277 ok) ?_;rintro _ η1 ⟨pb1,rfl,ok,xe⟩;refine .z .asB<|.nil<|.seq<|.q (hm:=mixed)<|.z .mvP<|.z .nil<|.z (.fa T.fd275_1)<|.z (.ldx T.ag3 ok.m1)<|.z (.addI (b:=16))<|.z .mvP<|.z .nil<|.z (.fa T.fd275_2)<|.z (.ldx T.ag3 ok.m1)<|.z .addI<|.z .asI<|.nil<|.seq<|.s<|.z .mvI<|.z .mvP<|.z .nil<|.z (.fa T.fd275_0)<|.z (.ldx T.ag44 ok.m1)<|.z (.len T.el44)<|.z .gtr<|.nil<|.cd (fun C0=>?_) (fun C0=>?_)
 ·
  refine .s<|.z (.bd #[.int .i64 0,.int .i64 0,.slice none 0 0] T.zr277 T.pl277 rfl)<|.ur' (.stW (vs:=[.int .i64 0,.int .i64 0,.slice none 0 0]) T.sz277 ok (oneL rfl)) ?_;rintro η2 ⟨ok,cg⟩;refine .z .asB<|.nil<|.ret ⟨.tuple #[.agg #[.int .i64 0,.int .i64 0,.slice none 0 0],.bool false],Res.many (vs:=[.agg #[.int .i64 0,.int .i64 0,.slice none 0 0],.bool false]) rfl ⟨⟨_,rfl,load_ag T.ag277 ok.m0 T.sz277⟩,rfl,trivial⟩ rfl,⟨rfl,(ok.n1).k1⟩⟩
 omega
theorem scanH_any {h:Heap} {F E:Nat→Prop} {a:Option Addr} {c:Nat} {l:List UInt8} (hl:RdL h F E (a,l.length,c) l) (hlen:l.length=20) (hk:okZ ((rdN l 4 4:Nat):Int)=true) (hh:headN (rdN l 4 4) (rdN l 8 8)=l.take 20) :
  HC Tryz.prog 177 #[.slice a l.length c] h (fun v h'=>v=.tuple #[.int .i64 ((rdN l 4 4:Nat):Int),.slice none 0 0,.int .u64 ((firstN l:Nat):Int),.int .i64 20,.int .i64 0]∧Ext h h'):=by
 have hc2:=hl.m;have hc1:l.length≤c:=hl.c;simp only at hc2;have ok:=(Hp.nil h none_).arg hl;have h20:20≤l.length:=by omega
 have h41:=rdN_lt4 l 4;refine HC.go Tryz.func177 63 ?_;refine .s<|.z .asI<|.z .asS<|.z .asI<|.z .asI<|.z .asI<|.nil<|.s<|.z .mvS<|.z (.bd #[.slice a l.length c,.int .i64 0,.int .i64 0,.int .u64 0,.int .u64 0] T.zr275 T.pl275 rfl)<|.a' 13 (.bxA (cs:=[.slice a l.length c,.int .i64 0,.int .i64 0,.int .u64 0,.int .u64 0]) ok) ?_;rintro _ η1 ⟨pb1,rfl,ok,xe⟩;refine .z .asP<|.nil<|.seq<|.s<|.z .mvP<|.c' 15 .func (head_ok ok.r0 ok.m0 (fun j hj e=>(ok).mr _ List.mem_cons_self _ List.mem_cons_self j e hj) h20 hk hh) ?_;rintro _ η2 ⟨rfl,cg,hbx⟩;have ok:=(ok).boxUp cg hbx;refine .z .asI<|.nil<|.s<|.z .mvI<|.z .neq<|.nil<|.cf<|.skip<|.seq<|.q (hm:=mixed)<|.z .mvP<|.z .nil<|.z (.fa T.fd275_3)<|.z (.ldx T.ag130 ok.m0)<|.z .mvP<|.z .nil<|.z (.fa T.fd275_1)<|.z (.ldx T.ag3 ok.m0)<|.z .asI<|.z .asI<|.nil<|.s<|.z .asS<|.nil<|.seq<|.s<|.z .mvP<|.c' 29 .func (frame_s (n:=l.length) (pos:=20) (size:=rdN l 4 4) (prev:=firstN l) (salt:=rdN l 8 8) (ok).loc0 (by omega) (by omega)) ?_;rintro _ η3 ⟨rfl,q⟩;have ok:=(ok).lift1 q;refine .z .mvU<|.z .ex<|.z .ex<|.a' 9 (.alA T.zr277 ok) ?_;rintro _ η4 ⟨pb2,rfl,ok,xe⟩;refine .ur' (.stW (vs:=[.int .i64 0,.int .i64 0,.slice none 0 0]) T.sz277 ok (oneL rfl)) ?_;rintro η5 ⟨ok,cg⟩;refine .z .asB<|.nil<|.block fun K0 hK0=>.loop (fun m s hh=>∃(u:Unit),Has s [(3,.slice none 0 0),(4,.int .u64 ((firstN l:Nat):Int)),(5,.int .i64 20),(7,.pointer (some ⟨pb1,0,none⟩)),(8,.slice none 0 0),(9,.pointer (some ⟨pb2,0,none⟩)),(10,.bool false)]∧Hp h none_ [boxI pb2 277 [.int .i64 0,.int .i64 0,.slice none 0 0],boxI pb1 275 [.slice a l.length c,.int .i64 20,.int .i64 ((rdN l 4 4:Nat):Int),.int .u64 ((firstN l:Nat):Int),.int .u64 ((rdN l 8 8:Nat):Int)]] [rdI (fun j=>F j∧j<h.size) (fun j=>E j∧j<h.size) (a,l.length,c) l] hh∧True∧m=0) ?_ ?_
 ·exact ⟨_,(),⟨rfl,rfl,rfl,rfl,rfl,rfl,rfl,trivial⟩,(ok),trivial,rfl⟩
 rintro _ _ η6 ⟨u,hs,ok,hu,rfl⟩ J0 hJ0;refine .frame hs fun τ=>?_;refine .seq<|.s<|.z .mvB<|.nil<|.cf<|.exit<|hK0 _ _<|.s<|.z .mvP<|.z .nil<|.z (.fa T.fd275_2)<|.z (.ldx T.ag3 ok.m1)<|.z .mvS<|.z .mvI<|.z .mvI<|.z .asI<|.z .asS<|.z .asI<|.z .asI<|.z .asI<|.nil<|.ret ⟨.tuple #[.int .i64 ((rdN l 4 4:Nat):Int),.slice none 0 0,.int .u64 ((firstN l:Nat):Int),.int .i64 20,.int .i64 0],Res.many (vs:=[.int .i64 ((rdN l 4 4:Nat):Int),.slice none 0 0,.int .u64 ((firstN l:Nat):Int),.int .i64 20,.int .i64 0]) rfl ⟨rfl,rfl,rfl,rfl,rfl,trivial⟩ rfl,⟨rfl,ok.chg⟩⟩
def Beg (r:RHA) (D':Dk) (nd' link':Nat):Prop:=
 (0<r.nd∧D'=r.D∧nd'=r.nd∧link'=r.link)∨(r.nd=0∧nd'=20∧∃salt,salt<18446744073709551616∧link'=nextN salt (headN r.size salt)∧HUp r.D D' nL (some (headN r.size salt)) 1)
section
variable {r:RHA} {S N:List (List UInt8)} {D':Dk} {nd' link':Nat}
theorem HAh.nl0 (k:HAh r S N) (h:r.nd=0):cont r.D nL=none:=by
 rcases k.lg with h1 | ⟨s,fs,_,h2,_⟩
 ·exact h1.2.2.2.1
 ·omega
theorem HAh.ndb (k:HAh r S N):r.nd≤16777216:=by
 rcases k.lg with h1 | ⟨s,fs,_,_,_,_,_,_,h2,_⟩
 ·rw [h1.2.1];decide
 ·exact h2
structure BegK (r:RHA) (D':Dk) (nd' link':Nat) (L0:List UInt8):Prop where
 hd:HD D'
 L:cont D' nL=some L0
 Ll:L0.length=nd'
 T:cont D' nT=cont r.D nT
 M:cont D' nM=cont r.D nM
 chg:D'.chg≤r.D.chg+1
 lk:link'<18446744073709551616
 ml:((cont r.D nM).getD []).length≤1+r.fr
 fb:r.fr*272≤16777216
 nd:nd'=if r.nd=0 then 20 else r.nd
theorem HAh.beg (k:HAh r S N) (b:Beg r D' nd' link'):∃L0,BegK r D' nd' link' L0:=by
 have hm:((cont r.D nM).getD []).length≤1+r.fr∧r.fr*272≤16777216:=by
  rcases k.lg with ⟨h1,_,_,_,h5,_⟩ | ⟨s,fs,h1,h2,_,_,_,_,h8,_,⟨b,h9,h10⟩,_⟩
  ·rw [h5,h1];exact ⟨by simp,by decide⟩
  ·rw [h9,h1];refine ⟨by rw [Option.getD_some,h10];omega,?_⟩;have h3:fs.length*272≤fs.length*(16+r.size):=Nat.mul_le_mul_left _ (by have:=k.zc;omega);omega
 rcases b with ⟨h0,rfl,rfl,rfl⟩ | ⟨h0,rfl,salt,hs,rfl,u⟩
 ·rcases k.lg with h1 | ⟨s,fs,h1,h2,h3,h4,h5,h6,h8,h9,h10,_⟩
  ·have:=h1.2.1;omega
  ·exact ⟨_,k.hd,h9,by rw [logB_len h5];exact h2.symm,rfl,rfl,by omega,by rw [h3];exact linkL_lt (nextN_lt h4 _) fs,hm.1,hm.2,by rw [if_neg (by omega)]⟩
 ·exact ⟨_,u.hd,u.at_,headN_len _ _,u.ne _ (by decide),u.ne _ (by decide),u.chg,nextN_lt hs _,hm.1,hm.2,by rw [if_pos h0]⟩
theorem HAh.srcBeg (k:HAh r S N) (b:Beg r D' nd' link') {i:Nat} {l:List UInt8} (h:SrcH r.D r.at_ r.size i l):SrcH D' r.at_ r.size i l:=by
 rcases b with ⟨_,rfl,_⟩ | ⟨h0,_,salt,_,_,u⟩
 ·exact h
 ·have ha:r.at_=[]:=by
   rcases k.lg with h1 | ⟨s,fs,_,h2,_⟩
   ·exact h1.2.2.1
   ·omega
  unfold SrcH at h⊢;rw [ha] at h⊢;simp only [mget,List.find?_nil,Option.map_none] at h⊢;rw [u.ne nT (by decide)];exact h
end
theorem habeg_any {h:Heap} {p:Nat} {r:RHA} {D Fd:Nat→Prop} (hd:HD r.D) (hokz:okSz r.size=true) (hcg:r.D.chg<500000000) (hnl:r.nd=0→cont r.D nL=none) (ok:Hp h D [haboxI p r,dgI r.d Fd r.D] [] h) :
  HC Tryz.prog 284 #[.pointer (some ⟨p,0,none⟩)] h (fun v h'=>v=.int .i64 0∧∃(Fd':Nat→Prop) (D':Dk) (nd' link':Nat),Beg r D' nd' link'∧Hp h D [haboxI p { r with D:=D',nd:=nd',link:=link' },dgI r.d Fd' D'] [] h'):=by
 have hcs:=okSz_c hokz;have hkz:okZ (r.size:Int)=true:=decide_eq_true (by omega);have hc0:0≤r.D.chg:=hd.dk.chg;have hro:=headOk_headN (n:=r.size) (salt:=r.D.chg.toNat) (by omega) (by omega) hokz [];rw [List.append_nil] at hro;have hro:okZ ((rdN (headN r.size r.D.chg.toNat) 4 4:Nat):Int)=true∧headN (rdN (headN r.size r.D.chg.toNat) 4 4) (rdN (headN r.size r.D.chg.toNat) 8 8)=((headN r.size r.D.chg.toNat)).take 20:=by
  unfold headOk at hro;rw [Bool.and_eq_true] at hro;exact ⟨by rw [okZ_nat];exact hro.1,of_decide_eq_true hro.2⟩
 refine HC.go Tryz.func284 59 ?_;refine .s<|.z .asI<|.nil<|.seq<|.s<|.z .mvP<|.z .nil<|.z (.fa T.fd202_0)<|.z (.fa T.fd198_1)<|.z (.ldx T.ag3 ok.m0)<|.z .gtr<|.nil<|.cd (fun C0=>?_) (fun C0=>?_)
 ·
  refine .s<|.z .asI<|.nil<|.ret ⟨.int .i64 0,Res.one rfl rfl,⟨rfl,Fd,r.D,r.nd,r.link,.inl ⟨by omega,rfl,rfl,rfl⟩,(ok).k2⟩⟩
 refine .skip<|.seq<|.a 16 (fun fl hh=>Hp h D [boxI p 202 [.int .i64 (r.fr:Int),.int .i64 (r.nd:Int),.int .u64 (r.link:Int),.map (some r.am),.bool r.in_,.int .i64 (r.many:Int),.map r.bm,.pointer (some ⟨r.d,0,none⟩),.int .i64 (r.size:Int),.int .i64 (r.sure:Int),.pointer (some ⟨r.c,0,none⟩),.bool false]] [] hh) mixed ?_;have hS:=ok.k1;refine .g 0 false rfl 18 hS (fun _=>.mvP)<|.g 1 false rfl 19 hS (fun _=>.nil)<|.g 2 false rfl 20 hS (fun _=>.fa T.fd202_3)<|.lw 3 false rfl 21 hS (fun _ _ hS=>.ldx T.ag3 hS.m0)<|.g 4 false rfl 22 hS (fun _=>.mvP)<|.g 5 false rfl 23 hS (fun _=>.nil)<|.g 6 false rfl 24 hS (fun _=>.fa T.fd202_2)<|.lw 7 false rfl 25 hS (fun _ _ hS=>.ldx T.ag63 hS.m0)<|.o1 8<|.k false rfl 26 .func (dgchanges_any (ok.n1).loc0) hS<|.g 9 false rfl 27 hS (fun _=>.cvz T.in130 T.in3)<|?_;rw [show (r.D.chg%18446744073709551616).toNat=r.D.chg.toNat from by omega];refine .o1 10<|.c' false rfl 28 .func (start_ok (n:=r.size) (salt:=r.D.chg.toNat) (by omega) (by omega) (by exact hkz)) ?_;rintro _ η1 ⟨yw1,rfl,own⟩;obtain ⟨ya1,yc1,rfl⟩:=own.formB;have ok:=ok.own own;refine ⟨ok.n1.k1,?_⟩;have hS:=ok.n1.k1;refine .g 11 false rfl 17 hS (fun _=>.mvU)<|.g 12 false rfl 29 hS (fun _=>.ex)<|.g 13 false rfl 30 hS (fun _=>.ex)<|.g 14 false rfl 3 hS (fun _=>.asS)<|.g 15 false rfl 4 hS (fun _=>.asI)<|.e ?_;refine .seq<|.s<|.z .mvP<|.z .nil<|.z (.fa T.fd202_2)<|.z (.ldx T.ag63 ok.m1)<|.z .mvS<|.c' 36 .func (hwrite_any (D:=r.D) (n:=nL) (p:=0) (l:=(headN r.size r.D.chg.toNat)) hd (by omega) nL_h (by rw [headN_len];omega) (ok.n2).locW) ?_;rintro _ η2 ⟨rfl,Fy1,Dy1,uy1,q⟩;have ok:=(ok.n2).lift1 q;have hcy1:=uy1.chg;refine .z .asI<|.nil<|.s<|.z .mvI<|.z .neq<|.nil<|.cf<|.skip<|.s<|.z .mvS<|.c' 42 .func (scanH_any (a:=ya1) (c:=yc1) (l:=(headN r.size r.D.chg.toNat)) (RdL.ofCapB (v:=(ya1,(headN r.size r.D.chg.toNat).length,yc1)) (l:=(headN r.size r.D.chg.toNat)) ok.m1) (headN_len _ _) hro.1 hro.2) ?_;rintro _ η3 ⟨rfl,hx⟩;have ok:=ok.ext hx;refine .z .mvU<|.z .ex<|.z .ex<|.z .ex<|.z .ex<|.z .ex<|.z .asI<|.z .asS<|.z .asI<|.z .asI<|.z .asI<|.nil<|.s<|.z .mvP<|.z .mvP<|.z .mvI<|.z .mvS<|.z (.len T.el44)<|?_;rw [show (headN r.size r.D.chg.toNat).length=20 from headN_len _ _];refine .z .nil<|.z (.fa T.fd202_0)<|.z (.fa T.fd198_2)<|.ur' (.stI T.sz130 ok.n2) ?_;rintro η4 ⟨ok,cg⟩;refine .z .nil<|.z (.fa T.fd202_0)<|.z (.fa T.fd198_1)<|.ur' (.stI T.sz3 ok) ?_;rintro η5 ⟨ok,cg⟩;refine .nil ?_;refine .s<|.z .asI<|.nil<|.ret ⟨.int .i64 0,Res.one rfl rfl,⟨rfl,Fy1,Dy1,20,firstN (headN r.size r.D.chg.toNat),.inr ⟨by omega,rfl,r.D.chg.toNat,by omega,by have:=firstN_headN (n:=r.size) (salt:=r.D.chg.toNat) (by omega) [];rwa [List.append_nil] at this,by have u:=uy1;rw [hnl (by omega),show wrB (Option.getD none []) 0 (headN r.size r.D.chg.toNat)=(headN r.size r.D.chg.toNat) from wrB_nil] at u;exact u⟩,(ok).k2⟩⟩
theorem frK_okH {r:RHA} {S N:List (List UInt8)} (k:HAh r S N) {ns:List Nat} {j:Nat} (hj:ns.getD j 0<N.length):okF (frK N ns j)=true∧(frK N ns j).b.length=r.size:=by
 have e:N.getD (ns.getD j 0) []=N[ns.getD j 0]:=by rw [List.getD_eq_getElem?_getD,List.getElem?_eq_getElem hj];rfl
 have h3:(N.getD (ns.getD j 0) []).length=r.size:=by rw [e];exact k.nl _ (List.getElem_mem hj)
 have hf:=k.few;refine ⟨okF_iff.2 ⟨?_,?_⟩,h3⟩
 ·unfold frK;simp only;split<;>omega
 ·show okSz (N.getD (ns.getD j 0) []).length=true;rw [h3];exact k.sz
theorem hagetD_at {l:List (List UInt8)} {m:Nat} (h:m<l.length):l[m]? = some (l.getD m []):=by rw [List.getD_eq_getElem?_getD,List.getElem?_eq_getElem h];rfl
theorem putsN_K {p:Nat} {N:List (List UInt8)} {ns:List Nat} {i:Nat} (hi:i<ns.length):putsN p ((frmsN N ns).take (i+1))=putsN p ((frmsN N ns).take i)++putN (linkL p ((frmsN N ns).take i)) (frK N ns i):=by
 rw [List.take_succ_eq_append_getElem (by rw [frmsN_len];exact hi),putsN_snoc,frK_at hi]
theorem linkL_K {p:Nat} {N:List (List UInt8)} {ns:List Nat} {i:Nat} (hi:i<ns.length):linkL p ((frmsN N ns).take (i+1))=linkN (linkL p ((frmsN N ns).take i)) (frK N ns i):=by
 rw [List.take_succ_eq_append_getElem (by rw [frmsN_len];exact hi),linkL_snoc,frK_at hi]
structure PutH (r:RHA) (N:List (List UInt8)) (ns:List Nat) (link':Nat) (L0:List UInt8) (D':Dk):Prop where
 hd:HD D'
 L:cont D' nL=some (L0++putsN link' (frmsN N ns))
 T:cont D' nT=cont r.D nT
 M:∃b,cont D' nM=some b∧b.length=1+(r.fr+ns.length)
 chg:D'.chg≤r.D.chg+10+ns.length
theorem haput_any {h:Heap} {p:Nat} {r:RHA} {D Fd cF Q Fl El:Nat→Prop} {S N:List (List UInt8)} {ns:List Nat} {a:Option Addr} {c:Nat} (k:HAh r S N) (hin:r.in_=true) (hlt:∀j,j<ns.length→ns.getD j 0<N.length) (hmis:∀j,j<ns.length→mget r.bs ((ns.getD j 0+1:Nat):Int)=none→j=0) (hne:0<ns.length) (hcg:r.D.chg<400000000) (hfit:(if r.nd=0 then 20 else r.nd)+ns.length*(16+r.size)≤16777216) (ok:Hp h D (pbsI Q r.bs::haL p r Fd cF (fun i=>S[i]?)) [rdI Fl El (a,(pgL ns).length,c) (pgL ns)] h) :
  HC Tryz.prog 278 #[.pointer (some ⟨p,0,none⟩),.slice a (pgL ns).length c] h (fun v h'=>v=.int .i64 0∧∃(Fd' F':Nat→Prop) (D':Dk) (nd' link':Nat) (L0:List UInt8) (D1:Dk),Beg r D1 nd' link'∧BegK r D1 nd' link' L0∧PutH r N ns link' L0 D'∧Hp h D (pbsI Q r.bs::haL p { r with D:=D',fr:=r.fr+ns.length,nd:=nd'+ns.length*(16+r.size),link:=linkL link' (frmsN N ns),at_:=atsN r.size r.at_ nd' ns } Fd' F' (fun i=>S[i]?)) [] h'):=by
 have hzc:=k.zc;have hsz:=hzc.2;have hfw:=k.few;have hd:=k.hd;have hQD:∀j,Q j→D j∨h.size≤j:=fun j hj=>((ok.m (pbsI Q r.bs) List.mem_cons_self).2 j hj).2;have ok:Hp h D [boxI p 202 [.int .i64 (r.fr:Int),.int .i64 (r.nd:Int),.int .u64 (r.link:Int),.map (some r.am),.bool r.in_,.int .i64 (r.many:Int),.map r.bm,.pointer (some ⟨r.d,0,none⟩),.int .i64 (r.size:Int),.int .i64 (r.sure:Int),.pointer (some ⟨r.c,0,none⟩),.bool false],mapI (Value.int .i64) r.am (atE r.at_),nowI r.bm r.bs,dgI r.d Fd r.D,cacI r.c cF (fun i=>S[i]?)] [pbsI Q r.bs,rdI Fl El (a,(pgL ns).length,c) (pgL ns)] h:=ok.frz;have hlc:=ok.r1.c;have hlm:=ok.r1.m;simp only at hlc hlm;have hpl:(pgL ns).length=ns.length:=pgL_len;have hmn:=k.mn hin;have hc0:0≤r.D.chg:=k.hd.dk.chg;have hnn:ns.length*272≤ns.length*(16+r.size):=Nat.mul_le_mul_left _ (by omega);refine HC.go Tryz.func278 171 ?_;refine .s<|.z .asI<|.nil<|.seq<|.s<|.z .mvP<|.c' 23 .func (habeg_any (r:=r) hd k.sz (by omega) k.nl0 (Hp.lc2 (ok.n3.n1).e0)) ?_;rintro _ η1 ⟨rfl,Fd1,D1,nd1,lk1,hbeg,q⟩;have ok:=Hp.lf2 (ok.n3.n1) q;obtain ⟨L0,bk⟩:=k.beg hbeg;have hlk:=bk.lk;have hLl:=bk.Ll;have hml:=bk.ml;have hfb:=bk.fb;have hbc:=bk.chg;have hnd:=bk.nd;refine .z .asI<|.nil<|.s<|.z .mvI<|.z .neq<|.nil<|.cf<|.skip<|.seq<|.q (hm:=mixed)<|.z .mvP<|.z .nil<|.z (.fa T.fd202_0)<|.z (.fa T.fd198_1)<|.z (.ldx T.ag3 ok.m0)<|.z .mvP<|.z .nil<|.z (.fa T.fd202_0)<|.z (.fa T.fd198_2)<|.z (.ldx T.ag130 ok.m0)<|.z .asI<|.z .asI<|.nil<|.seq<|.s<|.z .mvS<|.z (.len T.el24)<|.z .mvI<|.nil<|.block fun K0 hK0=>.loop (fun m s hh=>∃(i:Nat) (Fdi:Nat→Prop) (Di:Dk) (ati:List (Int × Nat)) (cFi:Nat→Prop) (ei pi:Nat),Has s [(0,.pointer (some ⟨p,0,none⟩)),(1,.slice a ((pgL ns).length) c),(6,.int .i64 (ei:Int)),(7,.int .u64 (pi:Int)),(37,.slice a ((pgL ns).length) c),(38,.int .i64 (((pgL ns).length:Nat):Int)),(39,.int .i64 (i:Int))]∧Hp h D [boxI p 202 [.int .i64 (r.fr:Int),.int .i64 (nd1:Int),.int .u64 (lk1:Int),.map (some r.am),.bool r.in_,.int .i64 (r.many:Int),.map r.bm,.pointer (some ⟨r.d,0,none⟩),.int .i64 (r.size:Int),.int .i64 (r.sure:Int),.pointer (some ⟨r.c,0,none⟩),.bool false],mapI (Value.int .i64) r.am (atE ati),nowI r.bm r.bs,dgI r.d Fdi Di,cacI r.c cFi (fun i=>S[i]?)] [pbsI Q r.bs,rdI Fl El (a,(pgL ns).length,c) (pgL ns)] hh∧i≤ns.length∧HD Di∧cont Di nL=some (L0++putsN lk1 ((frmsN N ns).take i))∧(L0++putsN lk1 ((frmsN N ns).take i)).length=ei∧cont Di nT=cont r.D nT∧cont Di nM=cont r.D nM∧ei=nd1+i*(16+r.size)∧ati=atsN r.size r.at_ nd1 (ns.take i)∧pi=linkL lk1 ((frmsN N ns).take i)∧pi<18446744073709551616∧Di.chg≤r.D.chg+1+i∧(i=0→Di=D1)∧m=ns.length-i) ?_ ?_
 ·exact ⟨_,0,Fd1,D1,r.at_,cF,nd1,lk1,⟨rfl,rfl,rfl,rfl,rfl,rfl,rfl,trivial⟩,ok.n4.n2.n4.n4.n4,Nat.zero_le _,bk.hd,by simpa [putsN] using bk.L,by simpa [putsN] using hLl,bk.T,bk.M,by omega,rfl,rfl,hlk,by omega,fun _=>rfl,rfl⟩
 rintro _ _ η2 ⟨i,Fdi,Di,ati,cFi,ei,pi,hs,ok,hi,hdi,hLi,hLn,hTi,hMi,hei,hati,hpe,hpi,hci,hDi,rfl⟩ J0 hJ0;refine .frame hs fun τ=>?_;refine .s<|.z .lss<|.nil<|.seq<|.cdr (fun C1=>?_) (fun C1=>?_)
 ·
  refine .exit<|hK0 _ _<|.seq<|.seq<|?_;have hend1:ei=nd1+ns.length*(16+r.size):=by rw [hei,show i=ns.length by omega]
  have hend2:pi=linkL lk1 (frmsN N ns):=by rw [hpe,List.take_of_length_le (by rw [frmsN_len];omega)]
  have hend3:ati=atsN r.size r.at_ nd1 ns:=by rw [hati,List.take_of_length_le (by omega)]
  refine .r<|.z .mvP<|.z .nil<|.z (.fa T.fd202_2)<|.z (.ldx T.ag63 ok.m0)<|.c' 109 .func (hsync_any (D:=Di) (n:=nL) (b:=(L0++putsN lk1 ((frmsN N ns).take i))) hdi (by omega) nL_h hLi (ok.n3).loc0) ?_;rintro _ η3 ⟨rfl,Fy1,Dy1,uy1,q⟩;have ok:=(ok.n3).lift1 q;have hcy1:=uy1.chg;refine .z .asI<|.nil<|.s<|.z .mvI<|.z .neq<|.nil<|.cf<|.skip<|.seq<|?_;have hmD:cont Dy1 nM=cont r.D nM:=(uy1.ne _ (by decide)).trans hMi;have hmv:((cont Dy1 nM).getD []).length≤1+r.fr:=by rw [hmD];exact hml
  refine .r<|.z .mvP<|.z .nil<|.z (.fa T.fd202_2)<|.z (.ldx T.ag63 ok.m1)<|.k 118 .func (hysizeX_any (n:=nM) uy1.hd (ok).loc0)<|.z .mvU<|.z .ex<|.z .ex<|.z .asI<|.z .asB<|.nil<|.seq<|.seq<|.a 19 (fun fl hh=>Hp h D [boxI p 202 [.int .i64 (r.fr:Int),.int .i64 (nd1:Int),.int .u64 (lk1:Int),.map (some r.am),.bool r.in_,.int .i64 (r.many:Int),.map r.bm,.pointer (some ⟨r.d,0,none⟩),.int .i64 (r.size:Int),.int .i64 (r.sure:Int),.pointer (some ⟨r.c,0,none⟩),.bool false]] [] hh) mixed ?_;have hS:=ok.n1.k1.tR.tR;refine .g 0 false rfl 121 hS (fun _=>.mvP)<|.g 1 false rfl 122 hS (fun _=>.nil)<|.g 2 false rfl 123 hS (fun _=>.fa T.fd202_2)<|.lw 3 false rfl 124 hS (fun _ _ hS=>.ldx T.ag63 hS.m0)<|.g 4 false rfl 125 hS (fun _=>.mvI)<|.g 5 false rfl 126 hS (fun _=>.mvP)<|.g 6 false rfl 127 hS (fun _=>.nil)<|.g 7 false rfl 128 hS (fun _=>.fa T.fd202_0)<|.g 8 false rfl 129 hS (fun _=>.fa T.fd198_0)<|.lw 9 false rfl 130 hS (fun _ _ hS=>.ldx T.ag3 hS.m0)<|.g 10 false rfl 131 hS (fun _=>.addI (a:=1))<|.g 11 false rfl 132 hS (fun _=>.mvS)<|.g 12 false rfl 133 hS (fun _=>.len T.el24)<|?_;rw [show (pgL ns).length=ns.length from hpl];refine .g 13 false rfl 134 hS (fun _=>.addI)<|.g 14 false rfl 135 hS (fun _=>.mvI)<|.g 15 false rfl 136 hS (fun _=>.sub)<|?_;rw [show ((((1+r.fr)+ns.length:Nat):Int)-(((cont Dy1 nM).getD []).length:Int))=(((1+r.fr+ns.length-((cont Dy1 nM).getD []).length):Nat):Int) from by omega];refine .o1 16<|.a' false rfl 137 (.mks (1+r.fr+ns.length-((cont Dy1 nM).getD []).length) (1+r.fr+ns.length-((cont Dy1 nM).getD []).length) T.el44 T.sz5 T.by5 T.zr5 ok) ?_;rintro _ η4 ⟨pb1,rfl,ok,xe⟩;have ok:=ok.cx (ys:=(List.replicate (1+r.fr+ns.length-((cont Dy1 nM).getD []).length) (0:UInt8)).map bv) (zeros8 _);obtain ⟨zl,hzl,hzn⟩:∃zl:List UInt8,List.replicate (1+r.fr+ns.length-((cont Dy1 nM).getD []).length) (0:UInt8)=zl∧(1+r.fr+ns.length-((cont Dy1 nM).getD []).length)=zl.length:=⟨_,rfl,by simp⟩;rw [hzl,hzn] at ok;rw [hzn];refine ⟨ok.n2.k1.tR.tR,?_⟩;have hS:=ok.n2.k1.tR.tR;refine .o1 17<|.c' false rfl 138 .func (hwrite_any (D:=Dy1) (n:=nM) (p:=((cont Dy1 nM).getD []).length) (l:=zl) uy1.hd (by omega) nM_h (by rw [←hzn];omega) (ok.n1).locW) ?_;rintro _ η5 ⟨rfl,Fy2,Dy2,uy2,q⟩;have ok:=(ok.n1).lift1 q;have hcy2:=uy2.chg;refine ⟨ok.n2.k1.tR.tR,?_⟩;have hS:=ok.n2.k1.tR.tR;refine .g 18 false rfl 20 hS (fun _=>.asI)<|.e ?_;refine .s<|.z .mvI<|.z .neq<|.nil<|.cf<|.skip<|.seq<|.s<|.z .mvP<|.z .nil<|.z (.fa T.fd202_2)<|.z (.ldx T.ag63 ok.m2)<|.c' 146 .func (hsync_any (D:=Dy2) (n:=nM) (b:=wrB ((cont Dy1 nM).getD []) (((cont Dy1 nM).getD []).length) zl) uy2.hd (by omega) nM_h uy2.at_ (ok).loc0) ?_;rintro _ η6 ⟨rfl,Fy3,Dy3,uy3,q⟩;have ok:=(ok).lift1 q;have hcy3:=uy3.chg;refine .z .asI<|.nil<|.s<|.z .mvI<|.z .neq<|.nil<|.cf<|.skip<|.s<|.z .mvP<|.z .mvP<|.z .mvI<|.z .mvI<|.z .nil<|.z (.fa T.fd202_0)<|.z (.fa T.fd198_1)<|.ur' (.stI T.sz3 ok.n2) ?_;rintro η7 ⟨ok,cg⟩;refine .z .nil<|.z (.fa T.fd202_0)<|.z (.fa T.fd198_2)<|.ur' (.stI T.sz130 ok) ?_;rintro η8 ⟨ok,cg⟩;refine .nil ?_;refine .s<|.z .mvP<|.z .nil<|.z (.fa T.fd202_0)<|.z (.fa T.fd198_0)<|.z (.ldx T.ag3 ok.m0)<|.z .mvS<|.z (.len T.el24)<|.z .addI<|.z .nil<|.z (.fa T.fd202_0)<|.z (.fa T.fd198_0)<|.ur' (.stI T.sz3 ok) ?_;rintro η9 ⟨ok,cg⟩;refine .nil ?_;refine .s<|.z .asI<|.nil<|.ret ⟨.int .i64 0,Res.one rfl rfl,⟨rfl,Fy3,cFi,Dy3,nd1,lk1,L0,D1,hbeg,bk,⟨uy3.hd,(((uy3.ne _ (by decide)).trans ((uy2.ne _ (by decide)).trans uy1.at_))).trans (by rw [List.take_of_length_le (by rw [frmsN_len];omega)]),(uy3.ne _ (by decide)).trans ((uy2.ne _ (by decide)).trans ((uy1.ne _ (by decide)).trans hTi)),⟨_,uy3.at_,by rw [wrB_end,List.length_append,←hzn];omega⟩,by omega⟩,by have o:=(Hp.thaw (ok.n5.n2.n5.n5.n4).k5.e1 hQD);rw [hend1,hend2,hend3] at o;exact o⟩⟩
 refine .skip<|.seq<|.block fun K1 hK1=>.seq<|?_;have hin2:i<ns.length:=by omega
 have hnl:=hlt i hin2;have hfk:=frK_okH k (ns:=ns) (j:=i) hnl;have hmul:i*(16+r.size)+(16+r.size)≤ns.length*(16+r.size):=by rw [←Nat.succ_mul];exact Nat.mul_le_mul_right _ hin2
 have hpL:(N.getD (ns.getD i 0) []).length=r.size:=hfk.2;have hei2:ei+(16+r.size)≤16777216:=by rw [hei];omega
 have hNi:N[(ns.getD i 0)]? = some (N.getD (ns.getD i 0) []):=hagetD_at hnl;obtain ⟨_,p3,p4⟩:=k.page hNi;rw [show (((ns.getD i 0):Int)+1)=(((ns.getD i 0)+1:Nat):Int) by omega] at p3 p4;refine .r<|.z .mvI<|?_;obtain ⟨bb1,oo1,rfl,fb1⟩:=ok.r1.pos (by omega);refine .z (.ix1 i T.el24 T.sz3)<|.z (.ld T.ag3 (ok.r1.i64 (i:=i) (by omega)))<|?_;rw [pgL_at (by omega)];refine .z .asI<|.z .asI<|.nil<|.s<|.z .mvP<|.z .mvI<|.c' 47 .func (hapage_any (p:=p) (r:=({ r with nd:=nd1,link:=lk1,at_:=ati,D:=Di } : RHA)) (i:=(ns.getD i 0)) (no:=(((ns.getD i 0)+1:Nat):Int)) (l:=(N.getD (ns.getD i 0) [])) hdi (show (((ns.getD i 0)+1:Nat):Int)=((ns.getD i 0):Int)+1 from by omega) (by omega) hsz hpL k.bm p3 (fun hz=>by rcases hz with hz | hz;(have h0:=hmis i hin2 hz;have h4:=p4 (.inl hz);refine ⟨h4.1,?_⟩;rw [show Di=D1 from hDi h0,show ati=r.at_ by rw [hati,h0];rfl];exact k.srcBeg hbeg h4.2);exact absurd (show r.in_=false from hz) (by rw [hin];decide)) ((Hp.lc5 (ok)).e1)) ?_;rintro _ η10 ⟨Fo1,ao1,co1,rfl,q⟩;have ok:=Hp.lf5 (ok) q;refine .z .mvU<|.z .ex<|.z .ex<|.z .asS<|.z .asI<|.nil<|.seq<|.seq<|?_;have ok:Hp h D [capI 1 5 (ao1,(N.getD (ns.getD i 0) []).length,co1) ((N.getD (ns.getD i 0) []).map bv),boxI p 202 [.int .i64 (r.fr:Int),.int .i64 (nd1:Int),.int .u64 (lk1:Int),.map (some r.am),.bool r.in_,.int .i64 (r.many:Int),.map r.bm,.pointer (some ⟨r.d,0,none⟩),.int .i64 (r.size:Int),.int .i64 (r.sure:Int),.pointer (some ⟨r.c,0,none⟩),.bool false],mapI (Value.int .i64) r.am (atE ati),nowI r.bm r.bs,dgI r.d Fdi Di,cacI r.c Fo1 (fun i=>S[i]?)] [pbsI Q r.bs,rdI Fl El (some ⟨bb1,oo1,none⟩,(pgL ns).length,c) (pgL ns)] η10:=ok;refine .r<|.z .mvI<|.z .neq<|.nil<|.cf<|.skip<|.s<|.z .mvI<|.z .mvS<|.z (.bd #[.int .i64 (((ns.getD i 0)+1:Nat):Int),.int .i64 0,.slice ao1 ((N.getD (ns.getD i 0) []).length) co1] T.zr277 T.pl277 rfl)<|.a' 12 (.alA T.zr277 ok) ?_;rintro _ η11 ⟨pb2,rfl,ok,xe⟩;refine .ur' (.stW (vs:=[.int .i64 (((ns.getD i 0)+1:Nat):Int),.int .i64 0,.slice ao1 ((N.getD (ns.getD i 0) []).length) co1]) T.sz277 ok (oneL rfl)) ?_;rintro η12 ⟨ok,cg⟩;refine .nil ?_;refine .seq<|.s<|.z .mvI<|.z .mvS<|.z (.len T.el24)<|.z .sub<|.z .eql<|.nil<|.cd (fun C3=>?_) (fun C3=>?_)
 ·
  refine .r<|.z .mvP<|.z .nil<|.z (.fa T.fd202_1)<|.z (.fa T.fd200_1)<|.z (.ldx T.ag3 ok.m2)<|.z (.fa T.fd277_1)<|.ur' (.stI T.sz3 ok) ?_;rintro η13 ⟨ok,cg⟩;refine .nil ?_;refine .seq<|?_;have hfxx1:(⟨(((ns.getD i 0)+1:Nat):Int),((r.many:Nat):Int),(N.getD (ns.getD i 0) [])⟩:Fr)=(frK N ns i):=by unfold frK;rw [if_pos (by omega)];rw [←hmn]
  refine .r<|.z .mvI<|.z (.ldb T.ag277 ok.m0 T.sz277)<|.c' 70 .func (put_ok (p:=((ns.getD i 0)+1)) (q:=r.many) (r:=pi) (by omega) (by omega) hpi (by rw [hfxx1];exact hfk.1) (by omega) (a:=ao1) (c:=co1) (l:=(N.getD (ns.getD i 0) [])) (RdL.ofCapB (v:=(ao1,(N.getD (ns.getD i 0) []).length,co1)) (l:=(N.getD (ns.getD i 0) [])) ok.m1)) ?_;rintro _ η14 ⟨yw1,rfl,own⟩;rw [hfxx1] at own⊢;obtain ⟨ya1,yc1,rfl⟩:=own.formB;have ok:=ok.own own;refine .z .mvU<|.z .ex<|.z .ex<|.z .ex<|.z .asS<|.z .asI<|.z .asI<|.nil<|.seq<|.s<|.z .mvP<|.z .nil<|.z (.fa T.fd202_2)<|.z (.ldx T.ag63 ok.m3)<|.z .mvI<|.z .mvS<|.c' 80 .func (hwrite_any (D:=Di) (n:=nL) (p:=ei) (l:=(putN pi (frK N ns i))) hdi (by omega) nL_h (by rw [putN_len,hfk.2];exact hei2) (ok.n6).locW) ?_;rintro _ η15 ⟨rfl,Fy4,Dy4,uy4,q⟩;have ok:=(ok.n6).lift1 q;have hcy4:=uy4.chg;refine .z .asI<|.nil<|.s<|.z .mvI<|.z .neq<|.nil<|.cf<|.skip<|.seq<|.t 15 mixed ?_;simp only [List.take_succ_cons,List.take_zero,List.drop_succ_cons,List.drop_zero];refine .z .mvP<|.z .nil<|.z (.fa T.fd202_0)<|.z (.fa T.fd198_3)<|.z (.ldx T.ag180 ok.m4)<|.z .mvI<|.z .mvI<|.z .mvS<|.z (.len T.el44)<|?_;rw [show (putN pi (frK N ns i)).length=(16+r.size) from (putN_len _ _).trans (by rw [hfk.2])];refine .z .addI<|.z .mvP<|.z .nil<|.z (.fa T.fd202_3)<|.z (.ldx T.ag3 ok.m4)<|.z .sub<|?_;rw [show (((ei+(16+r.size):Nat):Int)-(r.size:Int))=((ei+16:Nat):Int) from by omega];refine .nil ?_;refine .ur' (.mpu (KV.int .i64) V.sbI (((ns.getD i 0)+1:Nat):Int) (v:=.int .i64 ((ei+16:Nat):Int)) T.mp180 (inB_iff T.in3) ok.n5) ?_;rintro η16 ok;rw [at_put] at ok;refine .nil ?_;refine .r<|.z .mvI<|.z .mvS<|.z (.len T.el44)<|.z .addI<|.z .mvI<|.z .asI<|.z .asI<|.nil<|.end<|hK1 _ _<|.r<|.z (.addI (b:=1))<|.z .mvI<|.nil<|.end<|?_;have hLj:cont Dy4 nL=some (L0++putsN lk1 ((frmsN N ns).take (i+1))):=by rw [putsN_K hin2,←hpe,←List.append_assoc];have h2:=uy4.at_;rw [hLi,Option.getD_some,←hLn,wrB_end] at h2;exact h2
  have hLjn:(L0++putsN lk1 ((frmsN N ns).take (i+1))).length=ei+(16+r.size):=by rw [putsN_K hin2,←hpe,←List.append_assoc,List.length_append,hLn,putN_len,hfk.2]
  refine hJ0 _ _ _ ⟨i+1,Fy4,Dy4,mput ati (((ns.getD i 0)+1:Nat):Int) (ei+16),Fo1,(ei+(16+r.size)),linkN pi (frK N ns i),⟨rfl,rfl,rfl,rfl,rfl,rfl,rfl,trivial⟩,ok.n7.n2.n7.n3.n7.k5,by omega,uy4.hd,hLj,hLjn,(uy4.ne _ (by decide)).trans hTi,(uy4.ne _ (by decide)).trans hMi,by rw [hei,Nat.add_mul];omega,by rw [hati,hei];exact (atsN_K hin2).symm,by rw [hpe];exact (linkL_K hin2).symm,nextN_lt hpi _,by omega,fun h=>by omega,rfl⟩ (by omega)
 refine .skip<|.seq<|?_;have hfxx2:(⟨(((ns.getD i 0)+1:Nat):Int),((0:Nat):Int),(N.getD (ns.getD i 0) [])⟩:Fr)=(frK N ns i):=by unfold frK;rw [if_neg (by omega)]
 refine .r<|.z .mvI<|.z (.ldb T.ag277 ok.m0 T.sz277)<|.c' 70 .func (put_ok (p:=((ns.getD i 0)+1)) (q:=0) (r:=pi) (by omega) (by omega) hpi (by rw [hfxx2];exact hfk.1) (by omega) (a:=ao1) (c:=co1) (l:=(N.getD (ns.getD i 0) [])) (RdL.ofCapB (v:=(ao1,(N.getD (ns.getD i 0) []).length,co1)) (l:=(N.getD (ns.getD i 0) [])) ok.m1)) ?_;rintro _ η17 ⟨yw2,rfl,own⟩;rw [hfxx2] at own⊢;obtain ⟨ya2,yc2,rfl⟩:=own.formB;have ok:=ok.own own;refine .z .mvU<|.z .ex<|.z .ex<|.z .ex<|.z .asS<|.z .asI<|.z .asI<|.nil<|.seq<|.s<|.z .mvP<|.z .nil<|.z (.fa T.fd202_2)<|.z (.ldx T.ag63 ok.m3)<|.z .mvI<|.z .mvS<|.c' 80 .func (hwrite_any (D:=Di) (n:=nL) (p:=ei) (l:=(putN pi (frK N ns i))) hdi (by omega) nL_h (by rw [putN_len,hfk.2];exact hei2) (ok.n6).locW) ?_;rintro _ η18 ⟨rfl,Fy5,Dy5,uy5,q⟩;have ok:=(ok.n6).lift1 q;have hcy5:=uy5.chg;refine .z .asI<|.nil<|.s<|.z .mvI<|.z .neq<|.nil<|.cf<|.skip<|.seq<|.t 15 mixed ?_;simp only [List.take_succ_cons,List.take_zero,List.drop_succ_cons,List.drop_zero];refine .z .mvP<|.z .nil<|.z (.fa T.fd202_0)<|.z (.fa T.fd198_3)<|.z (.ldx T.ag180 ok.m4)<|.z .mvI<|.z .mvI<|.z .mvS<|.z (.len T.el44)<|?_;rw [show (putN pi (frK N ns i)).length=(16+r.size) from (putN_len _ _).trans (by rw [hfk.2])];refine .z .addI<|.z .mvP<|.z .nil<|.z (.fa T.fd202_3)<|.z (.ldx T.ag3 ok.m4)<|.z .sub<|?_;rw [show (((ei+(16+r.size):Nat):Int)-(r.size:Int))=((ei+16:Nat):Int) from by omega];refine .nil ?_;refine .ur' (.mpu (KV.int .i64) V.sbI (((ns.getD i 0)+1:Nat):Int) (v:=.int .i64 ((ei+16:Nat):Int)) T.mp180 (inB_iff T.in3) ok.n5) ?_;rintro η19 ok;rw [at_put] at ok;refine .nil ?_;refine .r<|.z .mvI<|.z .mvS<|.z (.len T.el44)<|.z .addI<|.z .mvI<|.z .asI<|.z .asI<|.nil<|.end<|hK1 _ _<|.r<|.z (.addI (b:=1))<|.z .mvI<|.nil<|.end<|?_;have hLj:cont Dy5 nL=some (L0++putsN lk1 ((frmsN N ns).take (i+1))):=by rw [putsN_K hin2,←hpe,←List.append_assoc];have h2:=uy5.at_;rw [hLi,Option.getD_some,←hLn,wrB_end] at h2;exact h2
 have hLjn:(L0++putsN lk1 ((frmsN N ns).take (i+1))).length=ei+(16+r.size):=by rw [putsN_K hin2,←hpe,←List.append_assoc,List.length_append,hLn,putN_len,hfk.2]
 refine hJ0 _ _ _ ⟨i+1,Fy5,Dy5,mput ati (((ns.getD i 0)+1:Nat):Int) (ei+16),Fo1,(ei+(16+r.size)),linkN pi (frK N ns i),⟨rfl,rfl,rfl,rfl,rfl,rfl,rfl,trivial⟩,ok.n7.n2.n7.n3.n7.k5,by omega,uy5.hd,hLj,hLjn,(uy5.ne _ (by decide)).trans hTi,(uy5.ne _ (by decide)).trans hMi,by rw [hei,Nat.add_mul];omega,by rw [hati,hei];exact (atsN_K hin2).symm,by rw [hpe];exact (linkL_K hin2).symm,nextN_lt hpi _,by omega,fun h=>by omega,rfl⟩ (by omega)
open Go Go.HL
theorem hadone_any {h:Heap} {p:Nat} {r:RHA} {D Fd cF Fl El:Nat→Prop} {a:Option Addr} {c:Nat} {ks:List Int} {S0 S':Nat→Option (List UInt8)} (hks:ks≠[]) (hN:ks.length≤1000000000) (hmn:r.many≤1048576) (hsn:r.sure≤1048576) (hS:∀i:Nat,((i:Int)+1)∉ks→(i<r.many∨r.sure≤i)→∀l,S0 i=some l→S' i=some l) (ok:Hp h D (haL p r Fd cF S0) [rdI Fl El (a,ks.length,c) ks] h) :
  HC Tryz.prog 279 #[.pointer (some ⟨p,0,none⟩),.slice a ks.length c] h (fun v h'=>∃F',v=.tuple #[]∧Hp h D (haL p { r with at_:=atF r.at_ r.many,in_:=false,many:=0,bm:=none,bs:=[],sure:=r.many } Fd F' S') [] h'):=by
 have ok:Hp h D [boxI p 202 [.int .i64 (r.fr:Int),.int .i64 (r.nd:Int),.int .u64 (r.link:Int),.map (some r.am),.bool r.in_,.int .i64 (r.many:Int),.map r.bm,.pointer (some ⟨r.d,0,none⟩),.int .i64 (r.size:Int),.int .i64 (r.sure:Int),.pointer (some ⟨r.c,0,none⟩),.bool false],mapI (Value.int .i64) r.am (atE r.at_),nowI r.bm r.bs,dgI r.d Fd r.D,cacI r.c cF S0] [rdI Fl El (a,ks.length,c) ks] h:=ok;have hlc:=ok.r0.c;have hlm:=ok.r0.m;simp only at hlc hlm;refine HC.go Tryz.func279 68 ?_;refine .s<|.z .mvP<|.z .nil<|.z (.fa T.fd202_5)<|.z (.ldx T.ag194 ok.m0)<|.z .mvS<|.c' 11 .func (cdrop_any (S':=(dnS S0 ks r.many ((r.many:Int)+1))) (ks:=ks) (ok.n4).m0 (ok.n4).r0 (by omega) (fun j hj hf=>(ok.n4).mr _ List.mem_cons_self (rdI Fl El (a,ks.length,c) ks) (by simp) j hf (.inl hj)) dnS_0) ?_;rintro _ η1 ⟨Fd1,rfl,q⟩;have ok:=(ok.n4).lift1 q;refine .nil ?_;refine .seq<|.s<|.z .mvP<|.z .nil<|.z (.fa T.fd202_0)<|.z (.fa T.fd198_3)<|.z (.ldx T.ag180 ok.m1)<|.a' 17 (.rng T.mp180 ok.n2) ?_;rintro _ η2 ⟨ib1,rfl,ok⟩;refine .nil ?_;refine .block fun K0 hK0=>.loop (fun m s hh=>∃(L td:List (Int × Nat)),Has s [(0,.pointer (some ⟨p,0,none⟩)),(17,.pointer (some ⟨ib1,0,none⟩))]∧Hp h D [itI (Value.int .i64) ib1 r.am (atE L) (atE td),cacI r.c Fd1 (dnS S0 ks r.many ((r.many:Int)+1)),boxI p 202 [.int .i64 (r.fr:Int),.int .i64 (r.nd:Int),.int .u64 (r.link:Int),.map (some r.am),.bool r.in_,.int .i64 (r.many:Int),.map r.bm,.pointer (some ⟨r.d,0,none⟩),.int .i64 (r.size:Int),.int .i64 (r.sure:Int),.pointer (some ⟨r.c,0,none⟩),.bool false],nowI r.bm r.bs,dgI r.d Fd r.D] [rdI Fl El (a,ks.length,c) ks] hh∧atF L r.many=atF r.at_ r.many∧(∀p∈L,p.1≤(r.many:Int)∨p∈td)∧m=td.length) ?_ ?_
 ·exact ⟨_,r.at_,r.at_,⟨rfl,rfl,trivial⟩,ok.n4.n4.n4.n4.n4,rfl,fun p h=>.inr h,rfl⟩
 rintro _ _ η3 ⟨L,td,hs,ok,hLf,hLt,rfl⟩ J0 hJ0;refine .frame hs fun τ=>?_;refine .s<|.a' 18 (.nxt ok) ?_;rintro _ η4 (⟨hnil,rfl,ok⟩ | ⟨ipq1,pq1,hpq1,rfl,ok⟩)
 ·
  have htd:td=[]:=by simpa [atE] using hnil
  have hLe:atF L r.many=L:=List.filter_eq_self.2 fun p hp=>decide_eq_true ((hLt p hp).resolve_right (by rw [htd];simp));rw [hLf] at hLe;have ok:=(ok).itm;rw [←hLe] at ok;refine .z .ex<|.nil<|.seq<|.cf<|.exit<|hK0 _ _<|.seq<|.s<|.z .mvP<|.z .nil<|.z (.fa T.fd202_1)<|.z (.fa T.fd200_1)<|.z (.ldx T.ag3 ok.m2)<|.z (.addI (b:=1))<|.z .asI<|.nil<|.block fun K2 hK2=>.loop (fun m s hh=>∃(k:Int) (cFi:Nat→Prop),Has s [(0,.pointer (some ⟨p,0,none⟩)),(5,.int .i64 k)]∧Hp h D [boxI p 202 [.int .i64 (r.fr:Int),.int .i64 (r.nd:Int),.int .u64 (r.link:Int),.map (some r.am),.bool r.in_,.int .i64 (r.many:Int),.map r.bm,.pointer (some ⟨r.d,0,none⟩),.int .i64 (r.size:Int),.int .i64 (r.sure:Int),.pointer (some ⟨r.c,0,none⟩),.bool false],mapI (Value.int .i64) r.am (atE (atF r.at_ r.many)),nowI r.bm r.bs,dgI r.d Fd r.D,cacI r.c cFi (dnS S0 ks r.many k)] [rdI Fl El (a,ks.length,c) ks] hh∧(r.many:Int)+1≤k∧(k≤(r.sure:Int)+1∨k≤(r.many:Int)+1)∧m=((r.sure:Int)+1-k).toNat) ?_ ?_
  ·exact ⟨_,(r.many:Int)+1,Fd1,⟨rfl,rfl,trivial⟩,ok.n1.n4.n4.n3.n4,Int.le_refl _,.inr (Int.le_refl _),rfl⟩
  rintro _ _ η5 ⟨k,cFi,hs,ok,hk1,hk2,rfl⟩ J1 hJ1;refine .frame hs fun τ=>?_;refine .seq<|.s<|.z .mvI<|.z .mvP<|.z .nil<|.z (.fa T.fd202_4)<|.z (.ldx T.ag3 ok.m0)<|.z .leq<|.nil<|.cdr (fun C2=>?_) (fun C2=>?_)
  ·
   refine .exit<|hK2 _ _<|.s<|.z .mvP<|.z .mvP<|.z .nil<|.z (.fa T.fd202_1)<|.z (.fa T.fd200_1)<|.z (.ldx T.ag3 ok.m0)<|.z .nil<|.z (.fa T.fd202_4)<|.ur' (.stI T.sz3 ok) ?_;rintro η6 ⟨ok,cg⟩;refine .nil ?_;refine .r<|.z .mvP<|.z (.bd #[.bool false,.int .i64 0,.map none] T.zr200 T.pl200 rfl)<|.z .nil<|.z (.fa T.fd202_1)<|.ur' (.stA (vs:=[.bool false,.int .i64 0,.map none]) T.sz200 ok (oneL rfl)) ?_;rintro η7 ⟨ok,cg⟩;refine .nil ?_;refine .end<|?_;have ok:=(ok.n4).re (cacI r.c cFi S') (cacI_mono (dnS_e (k:=k) (by omega) hS) (ok.n4).m0) (fun _ h=>h);have ok:=ok.nowNil (bs:=[]);refine ⟨.tuple #[],Res.none rfl,⟨cFi,rfl,(ok.n1.n5.n2.n4.n4).k5.e0⟩⟩
  refine .skip<|.seq<|.block fun K3 hK3=>.r<|.z .mvP<|.z .nil<|.z (.fa T.fd202_5)<|.z (.ldx T.ag194 ok.m0)<|.z .mvI<|.a' 54 (.lit [.tmp 53] (cs:=[.int .i64 k]) T.el24 T.sz3 T.zr3 ok ⟨rfl,trivial⟩) ?_;rintro _ η8 ⟨pb1,rfl,ok,xe⟩;refine .c' 55 .func (cdrop_any (Eb:=none_) (S':=(dnS S0 ks r.many (k+1))) (ks:=[k]) (ok.n5).m0 (RdL.of_cap1 (f:=iv) (x:=(some ⟨pb1,0,none⟩,1,1)) (l:=[k]) rfl (fun _ _ _=>rfl) (ok.n5).m1) (by simp) (fun j hj hf=>(List.pairwise_cons.1 (ok.n5).mm).1 _ List.mem_cons_self j hf hj) dnS_s) ?_;rintro _ η9 ⟨Fd2,rfl,q⟩;have ok:=(ok.n5).lift1 q;refine .nil ?_;refine .end<|hK3 _ _<|.r<|.z .mvI<|.z .add<|.z .asI<|.nil<|.end<|hJ1 _ _ _ ⟨k+1,Fd2,⟨rfl,rfl,trivial⟩,ok.n5.n5.n5.n5.k5,by omega,by omega,rfl⟩ (by omega)
 obtain ⟨q,hq,hpe⟩:=map_some (f:=fun p:Int × Nat=>(p.1,iv' p.2)) hpq1;have hk1:pq1.1=q.1:=ap_of hpe;rw [show (atE td).eraseIdx ipq1=atE (td.eraseIdx ipq1) from (map_erase _ _ _).symm] at ok;refine .z .ex<|.nil<|.seq<|.ct<|.skip<|.block fun K1 hK1=>.s<|.z (.ent (ok.m0).2)<|.z .ex<|.z .asI<|.nil<|.s<|.z .mvI<|.z .mvP<|.z .nil<|.z (.fa T.fd202_1)<|.z (.fa T.fd200_1)<|.z (.ldx T.ag3 ok.m2)<|.z .gtr<|.nil<|.cd (fun C1=>?_) (fun C1=>?_)
 ·
  refine .r<|.z .mvP<|.z .nil<|.z (.fa T.fd202_0)<|.z (.fa T.fd198_3)<|.z (.ldx T.ag180 ok.m2)<|.z .mvI<|.a0' (.delC (KV.int .i64) T.mp180 (inB_iff T.in3) ok) ?_;rintro _ η10 ⟨rfl,ok⟩;rw [at_del,hk1] at ok;refine .nil ?_;refine .end<|hK1 _ _<|.end<|hJ0 _ _ _ ⟨mdel L q.1,td.eraseIdx ipq1,⟨rfl,rfl,trivial⟩,ok.n4.n4.n4.n4.n4,by rw [at_filt2 (by omega)];exact hLf,fun p hp=>(hLt p (List.mem_filter.1 hp).1).imp id fun h=>erase_mem h hq (fun e=>by have:=(List.mem_filter.1 hp).2;rw [e] at this;simp at this),rfl⟩ (by rw [List.length_eraseIdx_of_lt (List.getElem?_eq_some_iff.1 hq).1];have:=(List.getElem?_eq_some_iff.1 hq).1;omega)
 have ok:=(ok).itc;refine .skip<|.end<|hK1 _ _<|.end<|hJ0 _ _ _ ⟨L,td.eraseIdx ipq1,⟨rfl,rfl,trivial⟩,ok.n4.n4.n4.n4.n4,hLf,fun p hp=>(hLt p hp).elim .inl fun h=>if e:p=q then .inl (by rw [e];omega) else .inr (erase_mem h hq e),rfl⟩ (by rw [List.length_eraseIdx_of_lt (List.getElem?_eq_some_iff.1 hq).1];have:=(List.getElem?_eq_some_iff.1 hq).1;omega)
theorem listN_srt {now sure:List (List UInt8)} : (listN now sure).Pairwise (· < ·):=by
 unfold listN;split
 ·exact List.pairwise_singleton _ _
 ·exact List.Pairwise.filter _ List.pairwise_lt_range
theorem listN_lt {now sure:List (List UInt8)} (h:now≠[]):∀i∈listN now sure,i<now.length:=by
 intro i hi;unfold listN at hi;split at hi
 ·rw [List.mem_singleton.1 hi];exact List.length_pos_iff.2 h
 ·exact List.mem_range.1 (List.mem_filter.1 hi).1
theorem listN_not {now sure:List (List UInt8)} {i:Nat} (hi:i<now.length) (h:i∉listN now sure):sure[i]? = some now[i]:=by
 have h1:i∉unlN now sure:=by
  unfold listN at h;split at h
  ·rename_i h2;rw [h2.1];simp
  ·exact h
 unfold unlN at h1;simp only [List.mem_filter,List.mem_range,decide_eq_true_eq,not_and] at h1;have h2:now[i]? = sure[i]?:=Classical.not_not.1 (h1 hi);rw [←h2,List.getElem?_eq_getElem hi]
section
variable {z:Nat} {now sure:List (List UInt8)} (hp:PgOk z now) (hn:now≠[])
include hp hn
theorem frms_ok {ns:List Nat} (h:∀i∈ns,i<now.length):okL z (frmsN now ns):=fun f hf=>by
 obtain ⟨k,hk,rfl⟩:=List.mem_iff_getElem.1 hf;rw [frmsN_len] at hk;rw [frmsN_at hk];have h1:=h _ (List.getElem_mem hk);have h2:=hp.many;have e:now.getD ns[k] []=now[ns[k]]:=by simp [h1]
 have h3:(frmN now (decide (k+1=ns.length)) ns[k]).b.length=z:=by show (now.getD ns[k] []).length=z;rw [e];exact hp.len _ (List.getElem_mem h1)
 refine ⟨okF_iff.2 ⟨?_,by rw [h3];exact hp.sz⟩,h3⟩;unfold frmN;simp only;split<;>omega
theorem frms_com {ns:List Nat} {j:Nat} (hj:j<ns.length):(frN (frmsN now ns) j).commit=if j+1=ns.length then (now.length:Int) else 0:=by
 have e:frN (frmsN now ns) j=(frmsN now ns)[j]'(by rw [frmsN_len];exact hj):=by unfold frN;rw [List.getElem?_eq_getElem (by rw [frmsN_len];exact hj)];rfl
 rw [e,frmsN_at hj];by_cases h:j+1=ns.length
 ·rw [if_pos h,decide_eq_true h];rfl
 ·rw [if_neg h,decide_eq_false h];rfl
theorem frms_find {ns:List Nat} {i:Nat} : (frmsN now ns).find? (fun f=>decide (f.page=(i:Int)+1))=none∧i∉ns∨∃f,(frmsN now ns).find? (fun f=>decide (f.page=(i:Int)+1))=some f∧i∈ns∧f.b=now.getD i []:=by
 cases hf:(frmsN now ns).find? fun f=>decide (f.page=(i:Int)+1) with
 | none=>
  left;refine ⟨rfl,fun hi=>?_⟩;rw [List.find?_eq_none] at hf;obtain ⟨k,hk,rfl⟩:=List.mem_iff_getElem.1 hi;have h1:=hf _ (List.getElem_mem (l:=frmsN now ns) (n:=k) (by rw [frmsN_len];exact hk));rw [frmsN_at hk] at h1;simp [frmN] at h1
 | some f=>
  right;have h1:=List.mem_of_find?_eq_some hf;have h2:=List.find?_some hf;simp only [decide_eq_true_eq] at h2;obtain ⟨k,hk,rfl⟩:=List.mem_iff_getElem.1 h1;rw [frmsN_len] at hk;rw [frmsN_at hk] at h2⊢;have e:ns[k]=i:=by unfold frmN at h2;simp only at h2;omega
  exact ⟨_,rfl,e▸List.getElem_mem hk,by unfold frmN;simp only;rw [e]⟩
theorem frms_dis {ns:List Nat} (h:ns.Pairwise (· < ·)):(frmsN now ns).Pairwise fun a b=>a.page≠b.page:=by
 rw [List.pairwise_iff_getElem];intro i j hi hj hij;rw [frmsN_len] at hi hj;rw [frmsN_at hi,frmsN_at hj];have:=(List.pairwise_iff_getElem.1 h) i j hi hj hij;unfold frmN;simp only;omega
theorem commit_ov {fs:List Fr} {T:List UInt8} (hs:PgOk z sure) (hl:listN now sure≠[]) (ht:tgt fs z T=sure.flatten):ovB (fs++frmsN now (listN now sure)) z T=now.flatten∧EndsC (fs++frmsN now (listN now sure)):=by
 have hz:=(okSz_b hp.sz).1;have hnl:(frmsN now (listN now sure)).length=(listN now sure).length:=frmsN_len;have hp0:0<(listN now sure).length:=List.length_pos_iff.2 hl;have hn1:0<now.length:=List.length_pos_iff.2 hn;have hgs:frmsN now (listN now sure)≠[]:=List.length_pos_iff.1 (by omega);have hlast:(frN (frmsN now (listN now sure)) ((frmsN now (listN now sure)).length-1)).commit=(now.length:Int):=by
  rw [frms_com hp hn (by omega),if_pos (by omega)]
 have h0:∀j,j+1<(frmsN now (listN now sure)).length→(frN (frmsN now (listN now sure)) j).commit=0:=fun j hj=>by
  rw [frms_com hp hn (by omega),if_neg (by omega)]
 have he:EndsC (fs++frmsN now (listN now sure)):=by
  refine ⟨by simp [hgs],?_⟩;have e:frN (fs++frmsN now (listN now sure)) ((fs++frmsN now (listN now sure)).length-1)=frN (frmsN now (listN now sure)) ((frmsN now (listN now sure)).length-1):=by
   unfold frN;rw [List.length_append,List.getElem?_append_right (by omega)];congr 2;omega
  rw [e,hlast];omega
 have hmy:manyN (fs++frmsN now (listN now sure))=now.length:=by
  unfold manyN;have e2:(fs++frmsN now (listN now sure)).length=fs.length+((frmsN now (listN now sure)).length-1)+1:=by rw [List.length_append];omega
  have e:frN (fs++frmsN now (listN now sure)) (fs.length+((frmsN now (listN now sure)).length-1))=frN (frmsN now (listN now sure)) ((frmsN now (listN now sure)).length-1):=by
   unfold frN;rw [List.getElem?_append_right (by omega),Nat.add_sub_cancel_left]
  rw [e2,latC_succ];unfold stepC;rw [e,hlast,if_neg (by omega)];omega
 refine ⟨?_,he⟩;have hfl:=flat_lenZ hp.len;refine ext_gd (by rw [ovB_len,hmy,hfl]) fun i hi=>?_;rw [ovB_len] at hi;rw [gd_ovB hi,gd_flat hp.len (by omega),latQ_app (m:=now.length) hgs h0 hlast hn1 (frms_dis hp hn listN_srt)];rw [hmy] at hi;have hiz:i / z<now.length:=(Nat.div_lt_iff_lt_mul (by omega)).2 hi;rw [if_pos (by omega)];rcases frms_find hp hn (ns:=listN now sure) (i:=i / z) with ⟨e1,e2⟩ | ⟨f,e1,e2,e3⟩
 ·rw [e1];have h1:=listN_not hiz e2;obtain ⟨h2,h3⟩:=List.getElem?_eq_some_iff.1 h1;have e4:now.getD (i / z) []=sure.getD (i / z) []:=by
   rw [List.getD_eq_getElem?_getD,List.getD_eq_getElem?_getD,h1,List.getElem?_eq_getElem hiz]
  rw [e4,←gd_flat hs.len (by omega),←ht];simp only;unfold tgt;by_cases h4:fs=[]
  ·rw [if_pos h4];subst h4;have:latQ [] (((i / z:Nat):Int)+1)=none:=rfl;rw [this]
  ·rw [if_neg h4,gd_ovB];have h5:=congrArg List.length ht;unfold tgt at h5;rw [if_neg h4,ovB_len,flat_lenZ hs.len] at h5;rw [h5];have h6:=(Nat.div_lt_iff_lt_mul (show 0<z by omega)).1 h2;exact h6
 ·rw [e1];simp only;rw [e3]
end
open Go Go.HL
theorem hagone_any {h:Heap} {d:Nat} {F:Nat→Prop} {D:Dk} {n:List UInt8} (k:HD D) (hc:D.chg<890000000) (hn:nOk n) (ok:Hp h F [dgI d F D] [] h) :
  HC Tryz.prog 179 #[.pointer (some ⟨d,0,none⟩),.string (BA n)] h (fun v h'=>v=.int .i64 0∧∃F' D',HUp D D' n none 2∧Hp h F [dgI d F' D'] [] h'):=by
 obtain ⟨r,E,rfl,o,hf,he⟩:=dg_open ok;refine (gone_any (n:=n) o k.dk (by show r.chg<_;have:r.chg<890000000:=hc;omega)).mono fun v h' ⟨r',E',hv,ha,up⟩=>?_;obtain ⟨F',hp⟩:=dg_up up hf he;rw [ha] at hp;exact ⟨by rw [hv,(k.gone hn).1];rfl,F',_,(k.gone hn).2,hp⟩
structure ClrH (D0 D':Dk):Prop where
 hd:HD D'
 T:cont D' nT=cont D0 nT
 L:cont D' nL=none
 M:cont D' nM=none
 chg:D'.chg≤D0.chg+4
theorem haclear_any {h:Heap} {p:Nat} {r:RHA} {D Fd:Nat→Prop} (hd:HD r.D) (hcg:r.D.chg<700000000) (ok:Hp h D [haboxI p r,dgI r.d Fd r.D] [] h) :
  HC Tryz.prog 138 #[.pointer (some ⟨p,0,none⟩)] h (fun v h'=>v=.int .i64 0∧∃(m:Nat) (Fd':Nat→Prop) (D':Dk),ClrH r.D D'∧Hp h D [haboxI p { r with D:=D',fr:=0,nd:=0,link:=0,am:=m,at_:=[] },mapI (Value.int .i64) m [],dgI r.d Fd' D'] [] h'):=by
 have ok:Hp h D [boxI p 202 [.int .i64 (r.fr:Int),.int .i64 (r.nd:Int),.int .u64 (r.link:Int),.map (some r.am),.bool r.in_,.int .i64 (r.many:Int),.map r.bm,.pointer (some ⟨r.d,0,none⟩),.int .i64 (r.size:Int),.int .i64 (r.sure:Int),.pointer (some ⟨r.c,0,none⟩),.bool false],dgI r.d Fd r.D] [] h:=ok;refine HC.go Tryz.func138 23 ?_;refine .s<|.z .asI<|.nil<|.seq<|.s<|.z .mvP<|.z .nil<|.z (.fa T.fd202_2)<|.z (.ldx T.ag63 ok.m0)<|.c' 9 .func (hagone_any (D:=r.D) (n:=nM) hd (show r.D.chg<890000000 by omega) nM_h (ok.n1).loc0) ?_;rintro _ η1 ⟨rfl,Fy1,Dy1,uy1,q⟩;have ok:=(ok.n1).lift1 q;have hcy1:=uy1.chg;refine .z .asI<|.nil<|.s<|.z .mvI<|.z .neq<|.nil<|.cf<|.skip<|.seq<|.s<|.z .mvP<|.z .nil<|.z (.fa T.fd202_2)<|.z (.ldx T.ag63 ok.m1)<|.c' 17 .func (hagone_any (D:=Dy1) (n:=nL) uy1.hd (show Dy1.chg<890000000 by omega) nL_h (ok).loc0) ?_;rintro _ η2 ⟨rfl,Fy2,Dy2,uy2,q⟩;have ok:=(ok).lift1 q;have hcy2:=uy2.chg;refine .z .asI<|.nil<|.s<|.z .mvI<|.z .neq<|.nil<|.cf<|.skip<|.s<|.z .mvP<|.c' 22 .func (fresh_any (ok.n1).loc0) ?_;rintro _ η3 ⟨mf1,rfl,q⟩;have ok:=(ok.n1).lift2 q;refine .nil ?_;refine .s<|.z .asI<|.nil<|.ret ⟨.int .i64 0,Res.one rfl rfl,⟨rfl,mf1,Fy2,Dy2,⟨uy2.hd,(uy2.ne _ (by decide)).trans (uy1.ne _ (by decide)),uy2.at_,(uy2.ne _ (by decide)).trans uy1.at_,by omega⟩,(ok).k3⟩⟩
section
variable {r:RA} {A:Ah}
theorem listN_pg {now sure:List (List UInt8)} (hn:now≠[]) {k:Nat} (hk:k<(listN now sure).length):(listN now sure).getD k 0<now.length∧(now[(listN now sure).getD k 0]?≠sure[(listN now sure).getD k 0]?∨k=0∧(listN now sure).getD k 0=0):=by
 have e:(listN now sure).getD k 0=(listN now sure)[k]:=by simp [hk]
 rw [e];refine ⟨listN_lt hn _ (List.getElem_mem hk),?_⟩;have hm:=List.getElem_mem hk;generalize hx:(listN now sure)[k]=x at hm⊢;unfold listN at hm hk hx;split at hm
 ·right;rename_i h;have hx0:=List.mem_singleton.1 hm;rw [if_pos h] at hk;exact ⟨by simpa using hk,hx0⟩
 ·left;exact of_decide_eq_true (List.mem_filter.1 hm).2
theorem atsN_get {size:Nat} {m:List (Int × Nat)} {e:Nat} {ns:List Nat} (hs:ns.Pairwise (· < ·)) {i:Nat} :
  (∃k,∃hk:k<ns.length,ns[k]=i∧mget (atsN size m e ns) ((i:Int)+1)=some (e+k*(16+size)+16))∨(i∉ns∧mget (atsN size m e ns) ((i:Int)+1)=mget m ((i:Int)+1)):=by
 induction ns generalizing m e with
 | nil=>exact .inr ⟨by simp,rfl⟩
 | cons a ns ih=>
  have hs':=List.pairwise_cons.1 hs;show (∃k,∃hk:k<(a::ns).length,(a::ns)[k]=i∧mget (atsN size (mput m ((a:Int)+1) (e+16)) (e+(16+size)) ns) _=_)∨(_∧mget (atsN size (mput m ((a:Int)+1) (e+16)) (e+(16+size)) ns) _=_);rcases ih (m:=mput m ((a:Int)+1) (e+16)) (e:=e+(16+size)) hs'.2 with ⟨k,hk,h1,h2⟩ | ⟨h1,h2⟩
  ·exact .inl ⟨k+1,by simpa using hk,by simpa using h1,by rw [h2,Nat.succ_mul];congr 1;omega⟩
  ·rw [h2,mget_mput];by_cases h3:i=a
   ·subst h3;exact .inl ⟨0,by simp,rfl,by rw [if_pos rfl];simp⟩
   ·refine .inr ⟨fun h=>(List.mem_cons.1 h).elim h3 h1,by rw [if_neg (by omega)]⟩
theorem log_page {z salt k:Nat} {fs gs:List Fr} {f:Fr} (hf:okL z fs) (hg:okL z gs) (hk:gs[k]? = some f):((logB z salt (fs++gs)).drop (20+fs.length*(16+z)+k*(16+z)+16)).take z=f.b:=by
 obtain ⟨hk1,hk2⟩:=List.getElem?_eq_some_iff.1 hk;have hfl:f.b.length=z:=(hg f (by rw [←hk2];exact List.getElem_mem hk1)).2;have e:fs++gs=(fs++gs.take k)++([f]++gs.drop (k+1)):=by
  rw [←hk2,List.append_assoc,←List.append_assoc (gs.take k),←List.take_succ_eq_append_getElem hk1,List.take_append_drop]
 have hfk:okL z (fs++gs.take k):=fun g h=>(List.mem_append.1 h).elim (hf g) fun h=>hg g (List.mem_of_mem_take h);have hl:=logB_len (salt:=salt) hfk;rw [List.length_append,List.length_take,Nat.min_eq_left (by omega),Nat.add_mul] at hl;unfold logB at hl⊢;rw [e,putsN_app];rw [show ([f]++gs.drop (k+1))=f::gs.drop (k+1) from rfl,putsN,←List.append_assoc];rw [List.drop_append,List.drop_of_length_le (by omega),hl];rw [show 20+fs.length*(16+z)+k*(16+z)+16-(20+(fs.length*(16+z)+k*(16+z)))=16 by omega,List.nil_append];unfold putN;rw [List.append_assoc,List.drop_left' (by simp [fixedN_len])];exact List.take_left' hfl
end
theorem list_one {now sure:List (List UInt8)} (h:unlN now sure=[]) (h2:now.length≠sure.length):listN now sure=[0]:=if_pos ⟨h,h2⟩
open Go Go.HL
section
variable {r:RHA} {S N:List (List UInt8)}
theorem HAh.log (k:HAh r S N) (h0:0<r.nd):∃salt fs,r.fr=fs.length∧r.nd=20+fs.length*(16+r.size)∧r.link=linkL (nextN salt (headN r.size salt)) fs∧salt<18446744073709551616∧okL r.size fs∧EndsC fs∧cont r.D nL=some (logB r.size salt fs)∧ovB fs r.size ((cont r.D nT).getD [])=S.flatten∧latF fs≠[]∧manyN fs*r.size≤16777216:=by
 rcases k.lg with h1 | ⟨salt,fs,h1,h2,h3,h4,h5,h6,h7,h8,_,h10,h11⟩
 ·have:=h1.2.1;omega
 ·refine ⟨salt,fs,h1,h2,h3,h4,h5,h6,h8,h10,h11,?_⟩;have e:=congrArg List.length h10;rw [ovB_len,flat_lenZ k.sl] at e;rw [e];exact k.sf
theorem latF_ne {z:Nat} {now sure:List (List UInt8)} (hp:PgOk z now) (hn:now≠[]) (hl:listN now sure≠[]) (fs:List Fr):latF (fs++frmsN now (listN now sure))≠[]:=by
 have hnl:(frmsN now (listN now sure)).length=(listN now sure).length:=frmsN_len;have hp0:0<(listN now sure).length:=List.length_pos_iff.2 hl;have hn1:0<now.length:=List.length_pos_iff.2 hn;have hgs:frmsN now (listN now sure)≠[]:=List.length_pos_iff.1 (by omega);have hlast:(frN (frmsN now (listN now sure)) ((frmsN now (listN now sure)).length-1)).commit=(now.length:Int):=by
  rw [frms_com hp hn (by omega),if_pos (by omega)]
 have h0:∀j,j+1<(frmsN now (listN now sure)).length→(frN (frmsN now (listN now sure)) j).commit=0:=fun j hj=>by
  rw [frms_com hp hn (by omega),if_neg (by omega)]
 have hi:=listN_lt hn (sure:=sure) _ (List.getElem_mem hp0);have e:=latQ_app (fs:=fs) hgs h0 hlast hn1 (frms_dis hp hn listN_srt) ((((listN now sure)[0]:Nat):Int)+1);rw [if_pos (by omega)] at e;rcases frms_find hp hn (ns:=listN now sure) (i:=(listN now sure)[0]) with ⟨_,e2⟩ | ⟨f,e1,_,_⟩
 ·exact absurd (List.getElem_mem hp0) e2
 ·rw [e1] at e;obtain ⟨g,hg,_⟩:=latQ_some e;exact List.ne_nil_of_mem hg
theorem atsN_ge {z:Nat} : ∀ {ns:List Nat} {m:List (Int × Nat)} {e:Nat},(∀x∈m,1≤x.1)→∀x∈atsN z m e ns,1≤x.1
 | [],_,_,h,x,hx=>h x hx
 | a::ns,m,e,h,x,hx=>atsN_ge (ns:=ns) (fun y hy=>by
   rcases mem_mput hy with rfl | hy
   ·simp only;omega
   ·exact h y hy) x hx
theorem HAh.commit (k:HAh r S N) (hin:r.in_=true) (hn:N≠[]) (hh:hdOk (N.getD 0 []) r.size=true) (hl:listN N S≠[]) {D1 D':Dk} {nd' link':Nat} {L0:List UInt8} (b:Beg r D1 nd' link') (bk:BegK r D1 nd' link' L0) (pt:PutH r N (listN N S) link' L0 D') (hfit:nd'+(listN N S).length*(16+r.size)≤16777216) :
  HAh { r with D:=D',fr:=r.fr+(listN N S).length,nd:=nd'+(listN N S).length*(16+r.size),link:=linkL link' (frmsN N (listN N S)),at_:=atF (atsN r.size r.at_ nd' (listN N S)) r.many,in_:=false,many:=0,bm:=none,bs:=[],sure:=r.many } N N:=by
 have hpN:PgOk r.size N:=⟨k.sz,k.nl,k.nf,fun _=>hh⟩;have hmn:=k.mn hin;have hzc:=k.zc;have hfl:(frmsN N (listN N S)).length=(listN N S).length:=frmsN_len;have hg:=frms_ok hpN hn (listN_lt (sure:=S) hn);obtain ⟨salt,fs,hs,hok,hnd,hfr,hlk,hL0,htg,hold⟩:∃salt fs,salt<18446744073709551616∧okL r.size fs∧nd'=20+fs.length*(16+r.size)∧r.fr=fs.length∧link'=linkL (nextN salt (headN r.size salt)) fs∧L0=logB r.size salt fs∧tgt fs r.size ((cont r.D nT).getD [])=S.flatten∧(r.at_=[]∨cont r.D nL=some (logB r.size salt fs)):=by
  have hLL:=bk.L;rcases b with ⟨h0,rfl,rfl,rfl⟩ | ⟨h0,rfl,salt,hs,rfl,u⟩
  ·obtain ⟨salt,fs,a1,a2,a3,a4,a5,a6,a7,a8,_,_⟩:=k.log h0;rw [a7] at hLL;injection hLL with hLL;exact ⟨salt,fs,a4,a5,a2,a1,a3,hLL.symm,by unfold tgt;rw [if_neg a6.1];exact a8,.inr a7⟩
  ·rcases k.lg with ⟨h1,_,h3,_,_,h6⟩ | ⟨_,fs,_,h2,_⟩
   ·rw [u.at_] at hLL;injection hLL with hLL;exact ⟨salt,[],hs,(fun f hf=>by cases hf),(by show 20=20+0*(16+r.size);omega),h1,(by unfold linkL;rw [List.foldl_nil]),(by rw [←hLL];unfold logB putsN;rw [List.append_nil]),by unfold tgt;rw [if_pos rfl];exact h6,.inl h3⟩
   ·omega
 have hcv:=commit_ov hpN hn k.pgS hl htg;have hLn:cont D' nL=some (logB r.size salt (fs++frmsN N (listN N S))):=by
  rw [pt.L,hL0,hlk];unfold logB;rw [putsN_app,List.append_assoc]
 have hokA:okL r.size (fs++frmsN N (listN N S)):=fun f hf=>(List.mem_append.1 hf).elim (hok f) (hg f);have hakk:∀x∈atsN r.size r.at_ nd' (listN N S),1≤x.1:=atsN_ge fun x hx=>(k.ak x hx).1;refine ⟨k.sz,pt.hd,hmn,fun h=>(by cases h),k.nl,k.nl,k.nf,k.nf,fun x hx=>?_,fun i l h=>?_,.inr ⟨salt,fs++frmsN N (listN N S),?_,?_,?_,hs,hokA,hcv.2,hfit,hLn,?_,?_,latF_ne hpN hn hl fs⟩,fun h=>(by cases h),fun h=>(by cases h),fun h=>(by cases h),fun _=>⟨rfl,rfl,rfl⟩,fun _=>hh⟩
 ·have h1:=List.mem_filter.1 (show x∈(atsN r.size r.at_ nd' (listN N S)).filter _ from hx);have h2:x.1≤(r.many:Int):=of_decide_eq_true h1.2;exact ⟨hakk x h1.1,by omega⟩
 ·obtain ⟨hi,rfl⟩:=List.getElem?_eq_some_iff.1 h;unfold SrcH;show match mget (atF (atsN r.size r.at_ nd' (listN N S)) r.many) ((i:Int)+1) with | some k=>k≤16777216∧∃L,cont D' nL=some L∧(L.drop k).take r.size=N[i] | none=>∃f,cont D' nT=some f∧(f.drop (i*r.size)).take r.size=N[i]
  unfold atF;rw [mget_filter,if_pos (by omega)];rcases atsN_get (size:=r.size) (m:=r.at_) (e:=nd') (ns:=listN N S) listN_srt (i:=i) with ⟨j,hj,q1,q2⟩ | ⟨q1,q2⟩
  ·rw [q2];have hkm:j*(16+r.size)+(16+r.size)≤(listN N S).length*(16+r.size):=by rw [←Nat.succ_mul];exact Nat.mul_le_mul_right _ hj
   refine ⟨by omega,_,hLn,?_⟩;have hfa:(frmsN N (listN N S))[j]? = some (frmN N (decide (j+1=(listN N S).length)) i):=by
    rw [List.getElem?_eq_getElem (by omega),frmsN_at hj,q1]
   have:=log_page (salt:=salt) hok hg hfa;rw [hnd,this];show N.getD i []=_;simp [hi]
  ·rw [q2];have hs1:=listN_not hi q1;have hsrc:=k.src i _ hs1;unfold SrcH at hsrc;cases hat:mget r.at_ ((i:Int)+1) with
   | none=>
    rw [hat] at hsrc;simp only at hsrc⊢;rw [pt.T];exact hsrc
   | some q=>
    rw [hat] at hsrc;simp only at hsrc⊢;obtain ⟨hq1,L,hq2,hq3⟩:=hsrc;refine ⟨hq1,_,hLn,?_⟩;rcases hold with hold | hold
    ·rw [hold] at hat;cases hat
    ·rw [hold] at hq2;injection hq2 with hq2;subst hq2;have hlen:(((logB r.size salt fs).drop q).take r.size).length=r.size:=by rw [hq3];exact k.nl _ (List.getElem_mem hi)
     have hkl:q+r.size≤(logB r.size salt fs).length:=by
      rw [List.length_take,List.length_drop] at hlen;omega
     have e5:logB r.size salt (fs++frmsN N (listN N S))=logB r.size salt fs++putsN (linkL (nextN salt (headN r.size salt)) fs) (frmsN N (listN N S)):=by
      unfold logB;rw [putsN_app,List.append_assoc]
     rw [e5,List.drop_append_of_le_length (by omega),List.take_append_of_le_length (by rw [List.length_drop];omega),hq3]
 ·show r.fr+_=_;rw [List.length_append,hfl,hfr]
 ·show nd'+_=_;have e:=Nat.add_mul fs.length (listN N S).length (16+r.size);rw [List.length_append,hfl];generalize (fs.length+(listN N S).length)*(16+r.size)=x at e⊢;generalize fs.length*(16+r.size)=y at e hnd;generalize (listN N S).length*(16+r.size)=w at e⊢;omega
 ·show linkL link' _=_;rw [linkL_app,hlk]
 ·obtain ⟨mb,h1,h2⟩:=pt.M;exact ⟨mb,h1,by rw [List.length_append,hfl,h2,hfr]⟩
 ·show ovB _ _ ((cont D' nT).getD [])=_;rw [pt.T];exact hcv.1
end
open Go Go.HL
theorem listN_le {N S:List (List UInt8)} (hn:N≠[]):(listN N S).length≤N.length:=by
 have h:=inner_fit (n:=N.length) (ks:=pgL (listN N S)) (by unfold pgL;exact List.pairwise_map.2 ((listN_srt (now:=N) (sure:=S)).imp fun h=>by omega)) (fun x hx=>by
  unfold pgL at hx;obtain ⟨i,hi,rfl⟩:=List.mem_map.1 hx;have:=listN_lt hn (sure:=S) i hi;omega)
 rwa [pgL_len] at h
theorem unl_same {N S:List (List UInt8)} (h:unlN N S=[]) (hl:N.length=S.length):N=S:=by
 apply List.ext_getElem? fun i=>?_;by_cases hi:i<N.length
 ·unfold unlN at h;have:=List.filter_eq_nil_iff.1 h i (List.mem_range.2 hi);simpa using this
 ·rw [List.getElem?_eq_none (by omega),List.getElem?_eq_none (by omega)]
theorem HAh.mis {r:RHA} {S N:List (List UInt8)} (k:HAh r S N) (hin:r.in_=true) (hn:N≠[]):∀j,j<(listN N S).length→mget r.bs (((listN N S).getD j 0+1:Nat):Int)=none→j=0:=fun j hj hm=>by
 obtain ⟨q1,q2⟩:=listN_pg hn hj;rcases q2 with q2 | ⟨q2,_⟩
 ·have h1:=k.nw hin _ _ (List.getElem?_eq_getElem q1);unfold NowOk at h1;rw [show (((listN N S).getD j 0:Nat):Int)+1=(((listN N S).getD j 0+1:Nat):Int) by omega,hm] at h1;exact absurd ((List.getElem?_eq_getElem q1).trans h1.symm) q2
 ·exact q2
end Go.Proofs.YtndlpekckpdncaaGreat
namespace Go.Proofs
open Go.Shelf
def Tryz.keysD_ren:Go.Shelf.Ren:=⟨fun | 7=>145 | 10=>190 | n=>n,fun | 23=>118 | 26=>3 | 3=>44 | 28=>217 | 0=>0 | 27=>216 | 33=>49 | 4=>4 | n=>n,fun | n=>n⟩
theorem Tryz.keysD:Go.Proofs.SlLaysZI.n7 Tryz.prog Tryz.keysD_ren:={
 mixed:=by kernel_rfl
 f7:=⟨Tryz.f145.name,by decide,Tryz.func145.trans (congrArg some (by kernel_rfl))⟩
 f10:=⟨Tryz.f190.name,by decide,Tryz.func190.trans (congrArg some (by kernel_rfl))⟩
 t0:=Tryz.underlying0
 a0:=Tryz.isAgg0
 z0:=Tryz.sizeOf0
 v0:=Tryz.zeroValue0
 t4:=Tryz.underlying4
 a4:=Tryz.isAgg4
 z4:=Tryz.sizeOf4
 v4:=Tryz.zeroValue4
 t23:=Tryz.underlying118
 a23:=Tryz.isAgg118
 z23:=Tryz.sizeOf118
 v23:=Tryz.zeroValue118
 t26:=Tryz.underlying3
 a26:=Tryz.isAgg3
 z26:=Tryz.sizeOf3
 v26:=Tryz.zeroValue3
 t27:=Tryz.underlying216
 a27:=Tryz.isAgg216
 z27:=Tryz.sizeOf216
 v27:=Tryz.zeroValue216
 t28:=Tryz.underlying217
 a28:=Tryz.isAgg217
 z28:=Tryz.sizeOf217
 v28:=Tryz.zeroValue217
 t33:=Tryz.underlying49
 a33:=Tryz.isAgg49
 z33:=Tryz.sizeOf49
 v33:=Tryz.zeroValue49 }
end Go.Proofs
namespace Go.Proofs.YtndlpekckpdncaaGreat
open Go Go.HL Go.RowKit Go.Maps Go.Sort Go.Shelf Go.MapKept
theorem bskeys_any {h:Heap} {mb:Nat} : HC Tryz.prog 145 #[.map (some mb)] h (fun v h'=>v=.func (.func 190) #[] #[ptr h.size]∧h'=h.push (.cells #[.map (some mb)] 118 (0,0))):=
 HC.of_calls ⟨_,Tryz.func145,by decide,rfl⟩ fun w hw=>(callsIn_wide.1 (AnyZI.keys_in Tryz.keysD Fence.wide 5 trivial rfl (some mb) w)).mono fun e w' ⟨h1,h2⟩=>by
  subst h2 hw;exact ⟨_,h1,(RowKit.Below.refl _ w).alloc (Nat.le_refl _) _,rfl,rfl⟩
theorem bssorted_any {h:Heap} {mb:Nat} {ks:List Int} {f:Int→Value} (hm:MapT (Value.int .i64) h mb (ks.map fun k=>(k,f k))) (hr:∀k∈ks,-9223372036854775808≤k∧k≤9223372036854775807) (hl:ks.length≤1000000000000) :
  HC Tryz.prog 144 #[.func (.func 190) #[] #[ptr h.size]] (h.push (.cells #[.map (some mb)] 118 (0,0)))
   (fun v h'=>∃S:List Int,S.Perm ks∧S.Pairwise (·≤·)∧Own (h.push (.cells #[.map (some mb)] 118 (0,0))) h' 1 3 v (S.map iv)):=
 HC.of_calls ⟨_,Tryz.func144,by decide,rfl⟩ fun w hw=>by
  have hsz:w.heap.size=h.size+1:=by rw [hw];simp
  obtain ⟨nn,D,hown,hD,hK⟩:=owns_keys hm hr hl (w:=w) (by rw [hw,Array.getElem?_push,if_neg (by have:=hm.lt;omega)]);have hseq:SeqGives Fence.wide 2 Tryz.prog 190 #[.pointer (some ⟨h.size,0,none⟩)] encZ (fun ss=>ss.Perm (intKeys D)) (Maps.size D) w:=
   AnyZI.keys_gives (ρ:=Tryz.keysD_ren) { Tryz.keysD with } Fence.wide _ trivial rfl (by omega) h.size mb nn D w (by omega) (by rw [cell?_eq,hw];exact cell_of (push_same _ _) 0) hown
  have cS:=AnyZI.sorted_in Tryz.sortedA Fence.wide 5 trivial trivial trivial trivial rfl (by omega) (sorts_in _) (enters_of Tryz.func68 (by kernel_rfl) rfl) 190 #[.pointer (some ⟨h.size,0,none⟩)] trivial (enters_of Tryz.func190 (by kernel_rfl) rfl) _ (Maps.size D) (by show _≤9223372036854775807;omega) (by omega) w hseq;refine (callsIn_wide.1 cS).mono fun e w' ⟨v,ss,h1,h2,h3,h4,h5⟩=>⟨v,h1,by rw [←hw];exact h5,ss.mergeSort (fun x y=>decide (x≤y)),?_,?_,?_⟩
  ·exact (List.mergeSort_perm _ _).trans (h2.trans hK)
  ·have:=List.pairwise_mergeSort (le:=fun x y:Int=>decide (x≤y)) (fun a b c h1 h2=>by simp at h1 h2⊢;omega) (fun a b=>by simp;omega) ss;exact this.imp fun h=>by simpa using h
  ·have hx:Ext w.heap w'.heap:=Ext.of_below rfl h5;rw [←hw];have hml:(ss.mergeSort fun x y=>decide (x≤y)).length=ss.length:=List.length_mergeSort _;rcases h3.2 with ⟨rfl,hz⟩ | ⟨g,cap,cur,rfl,hg,hgb,hnc,hcm,hcs,hct⟩
   ·have hs0:ss=[]:=List.length_eq_zero_iff.1 hz;subst hs0;rw [List.mergeSort_nil];exact Own.nil hx _ _
   ·refine ⟨⟨_,_,_,rfl,hnc,hcm,by simp,.inr ⟨g,0,cur,(0,0),rfl,hgb,by simp;omega,fzOk_zero _,?_⟩⟩,hx,fun b hb=>?_⟩
    ·rw [List.drop_zero];exact hct
    ·obtain ⟨o,n,c,e⟩:=hb;injection e with e;injection e with e;injection e with e;subst e;exact hg
theorem mget_nd:∀ {l:List (Int × RB)} {p:Int × RB},(l.map (·.1)).Nodup→p∈l→mget l p.1=some p.2
 | [],_,_,h=>by cases h
 | a::l,p,hn,h=>by
  rw [List.map_cons,List.nodup_cons] at hn;rw [mget_cons];rcases List.mem_cons.1 h with rfl | h
  ·rw [if_pos rfl]
  ·rw [if_neg (fun e=>hn.1 (by rw [e];exact List.mem_map.2 ⟨p,h,rfl⟩))];exact mget_nd hn.2 h
theorem bsE_ks {l:List (Int × RB)} (hn:(l.map (·.1)).Nodup):bsE l=(l.map (·.1)).map fun k=>(k,bsV ((mget l k).getD ⟨none,0,[]⟩)):=by
 unfold bsE;rw [List.map_map];exact List.map_congr_left fun p hp=>by simp [mget_nd hn hp]
theorem ks_fit:∀(n:Nat) (l:List Int),l.Nodup→(∀x∈l,1≤x∧x≤(n:Int))→l.length≤n
 | 0,[],_,_=>Nat.le_refl _
 | 0,a::l,_,h=>by have:=h a List.mem_cons_self;omega
 | n+1,l,hn,h=>by
  have key:∀x∈l.erase ((n:Int)+1),1≤x∧x≤(n:Int):=fun x hx=>by
   have h1:=(List.Nodup.mem_erase_iff hn).1 hx;have h2:=h x h1.2;have h3:=h1.1;omega
  have h4:=ks_fit n _ (hn.erase _) key;have h5:l.length≤(l.erase ((n:Int)+1)).length+1:=by
   rw [List.length_erase];split<;>omega
  omega
end Go.Proofs.YtndlpekckpdncaaGreat
namespace Go.HL
open Go
theorem OpV.nilIf {P:Program} {s:Slots} {h:Heap} {d:Option Tmp} {ty t:TypeId} {pos:String} {af:Array Edge} {g:Option (Nat × Bool)} {x:Operand} {v:Value} (hx:ev s x=.iface t v:=by exact rfl):OpV P ⟨d,.nilCheck x,ty,pos,af,g⟩ s h (.iface t v):=fun w _=>by simp [execOp,hx]
end Go.HL
namespace Go.Proofs.YtndlpekckpdncaaGreat
open Go Go.HL
structure PgT where
 α:Type
 it:Nat→(Nat→Prop)→α→Itm
 sure:α→List (List UInt8)
structure PgrC where
 z:Nat
 lim:Nat→Nat→Prop
 limM:∀ {k n k' n':Nat},k≤k'→n≤n'→lim k' n'→lim k n
 G:Nat→Nat→Pgr
 T:Nat→Nat→PgT
 tid:∀(k n k' n':Nat),(G k n).tid=(G k' n').tid
 up:∀ {k n k' n':Nat} {h:Heap} {p:Nat} {F:Nat→Prop} {a:(G k n).α},k≤k'→n≤n'→((G k n).it p F a).p h→∃a':(G k' n').α,(G k' n').sure a'=(G k n).sure a∧((G k' n').it p F a').p h∧∀j,((G k' n').it p F a').F j→((G k n).it p F a).F j
 fBegin:FuncId
 fResize:FuncId
 fWrite:FuncId
 fCommit:FuncId
 mBegin : ∀ (k n p : Nat) (w : World), (method (Tryz.prog.types.size + Made.depth) (G k n).tid (pv p) "Begin").run Tryz.prog w = .ok (fBegin, pv p) w
 mResize : ∀ (k n p : Nat) (w : World), (method (Tryz.prog.types.size + Made.depth) (G k n).tid (pv p) "Resize").run Tryz.prog w = .ok (fResize, pv p) w
 mWrite : ∀ (k n p : Nat) (w : World), (method (Tryz.prog.types.size + Made.depth) (G k n).tid (pv p) "Write").run Tryz.prog w = .ok (fWrite, pv p) w
 mCommit : ∀ (k n p : Nat) (w : World), (method (Tryz.prog.types.size + Made.depth) (G k n).tid (pv p) "Commit").run Tryz.prog w = .ok (fCommit, pv p) w
 cBegin:∀ {k n:Nat} {h:Heap} {p:Nat} {F:Nat→Prop} {a:(G k n).α},lim (k+1) n→Hp h ((G k n).it p F a).F [(G k n).it p F a] [] h→
  HC Tryz.prog fBegin #[pv p] h (fun v h'=>v=.int .i64 0∧∃F' b,(T k n).sure b=(G k n).sure a∧Hp h ((G k n).it p F a).F [(T k n).it p F' b] [] h')
 cResize:∀ {k n:Nat} {h:Heap} {p:Nat} {F:Nat→Prop} {b:(T k n).α} {m:Nat},m*(z+16)+28≤16777216→Hp h ((T k n).it p F b).F [(T k n).it p F b] [] h→
  HC Tryz.prog fResize #[pv p,.int .i64 (m:Int)] h (fun v h'=>v=.int .i64 0∧∃F' b',(T k n).sure b'=rszP ((T k n).sure b) m z∧Hp h ((T k n).it p F b).F [(T k n).it p F' b'] [] h')
 cWrite:∀ {k n:Nat} {h:Heap} {p:Nat} {F F2 E2:Nat→Prop} {b:(T k n).α} {no:Nat} {a:Option Addr} {c:Nat} {l:List UInt8},lim (k+1) (n+1)→1≤no→no≤((T k n).sure b).length→l.length=z→Hp h ((T k n).it p F b).F [(T k n).it p F b] [rdI F2 E2 (a,l.length,c) l] h→
  HC Tryz.prog fWrite #[pv p,.int .i64 (no:Int),.slice a l.length c] h (fun v h'=>v=.int .i64 0∧∃F' b',(T k (n+1)).sure b'=((T k n).sure b).set (no-1) l∧Hp h ((T k n).it p F b).F [(T k (n+1)).it p F' b'] [] h')
 cCommit:∀ {k n:Nat} {h:Heap} {p:Nat} {F:Nat→Prop} {b:(T k n).α},lim (k+1) n→1≤((T k n).sure b).length→hok (((T k n).sure b).getD (1-1) []) z→((T k n).sure b).length*(z+16)+28≤16777216→Hp h ((T k n).it p F b).F [(T k n).it p F b] [] h→
  HC Tryz.prog fCommit #[pv p] h (fun v h'=>v=.int .i64 0∧∃F' a',(G (k+1) n).sure a'=(T k n).sure b∧Hp h ((T k n).it p F b).F [(G (k+1) n).it p F' a'] [] h')
theorem PgsK_few {z:Nat} {l:List (List UInt8)} (k:PgsK z l) (hz:z=256∨z=512∨z=1024∨z=2048∨z=4096):l.length≤65536:=by
 have h1:=k.many;have h3:l.length*256≤l.length*z:=Nat.mul_le_mul_left _ (by omega);omega
def ulK (now sure:List (List UInt8)) (k:Int):Bool:=decide (now[(k-1).toNat]?≠sure[(k-1).toNat]?)
theorem filt_tk {S:List Int} {P:Int→Bool} {i:Nat} (h:i<S.length):(S.take (i+1)).filter P=(S.take i).filter P++if P S[i]=true then [S[i]] else []:=by
 rw [List.take_succ_eq_append_getElem h,List.filter_append];congr 1;by_cases hp:P S[i]=true<;>simp [hp]
section
variable {ov:List (Int × RB)} {many:Nat} {S now:List (List UInt8)}
theorem VW.ks (v:VW RB.l ov many S now) (hn:(ov.map (·.1)).Nodup) {L:List Int} (hp:L.Perm (ov.map (·.1))):∀k∈L,∃i:Nat,k=(i:Int)+1∧i<now.length∧∃x,mget ov k=some x∧now[i]? = some x.l:=fun k hk=>by
 obtain ⟨y,hy,rfl⟩:=List.mem_map.1 (hp.mem_iff.1 hk);have h1:=v.key y hy;have hl:=v.len;refine ⟨(y.1-1).toNat,by omega,by omega,y.2,mget_nd hn hy,?_⟩;exact v.sm _ y.2 (by omega) (by rw [show (((y.1-1).toNat:Nat):Int)+1=y.1 by omega];exact mget_nd hn hy)
theorem VW.unl (v:VW RB.l ov many S now) {L:List Int} (hp:L.Perm (ov.map (·.1))) {i:Nat} (hi:i<now.length):(i:Int)+1∈L.filter (ulK now S)∨(i<S.length∧now[i]? = S[i]?):=by
 have hl:=v.len;cases hg:mget ov ((i:Int)+1) with
 | none=>exact .inr (v.nn i (by omega) hg)
 | some x=>
  by_cases hu:now[i]? = S[i]?
  ·refine .inr ⟨?_,hu⟩;have h2:i<now.length:=hi;rw [List.getElem?_eq_getElem h2] at hu;exact (List.getElem?_eq_some_iff.1 hu.symm).1
  ·refine .inl (List.mem_filter.2 ⟨hp.mem_iff.2 (List.mem_map.2 ⟨_,mget_mem hg,rfl⟩),?_⟩);unfold ulK;rw [show ((i:Int)+1-1).toNat=i by omega];exact decide_eq_true hu
def OnW (now P:List (List UInt8)) (l:List Int):Prop:=P.length=now.length∧∀i:Nat,i<now.length→(i:Int)+1∈l∨P[i]? = now[i]?
theorem OnW.start (v:VW RB.l ov many S now) {L:List Int} (hp:L.Perm (ov.map (·.1))) {z:Nat} : OnW now (rszP S many z) (L.filter (ulK now S)):=by
 have hl:=v.len;refine ⟨by rw [rszP_len,hl],fun i hi=>(v.unl hp hi).imp id fun ⟨h1,h2⟩=>?_⟩;have e:=rszP_get (P:=S) (z:=z) (n:=many) (i:=i) (by omega);rw [if_pos h1,List.getD_eq_getElem?_getD,List.getD_eq_getElem?_getD,List.getElem?_eq_getElem h1,List.getElem?_eq_getElem (show i<(rszP S many z).length by rw [rszP_len];omega)] at e;rw [h2,List.getElem?_eq_getElem h1,List.getElem?_eq_getElem (show i<(rszP S many z).length by rw [rszP_len];omega)];exact congrArg some e
theorem OnW.step {P:List (List UInt8)} {i:Nat} {l:List Int} {x:List UInt8} (o:OnW now P (((i:Int)+1)::l)) (hx:now[i]? = some x):OnW now (P.set i x) l:=by
 refine ⟨by rw [List.length_set];exact o.1,fun j hj=>?_⟩;rw [List.getElem?_set];by_cases e:i=j
 ·subst e;rw [if_pos rfl,if_pos (by have:=o.1;omega)];exact .inr hx.symm
 ·rw [if_neg e];rcases o.2 j hj with h | h
  ·rcases List.mem_cons.1 h with h | h
   ·exact absurd (show i=j by omega) e
   ·exact .inl h
  ·exact .inr h
theorem OnW.fin {P:List (List UInt8)} (o:OnW now P []):P=now:=by
 apply List.ext_getElem?;intro i;by_cases hi:i<now.length
 ·exact (o.2 i hi).elim (fun h=>by cases h) id
 ·rw [List.getElem?_eq_none (by have:=o.1;omega),List.getElem?_eq_none (by omega)]
theorem VW.same (v:VW RB.l ov many S now) {L:List Int} (hp:L.Perm (ov.map (·.1))) (h0:L.filter (ulK now S)=[]) (hm:many=S.length):now=S:=by
 have hl:=v.len;apply List.ext_getElem?;intro i;by_cases hi:i<now.length
 ·rcases v.unl hp hi with h | h
  ·rw [h0] at h;cases h
  ·exact h.2
 ·rw [List.getElem?_eq_none (by omega),List.getElem?_eq_none (by omega)]
end
theorem SVw.commit {G G':Pgr} {r:RS G.α} {w:St} (V:SVw G r w) (hi:w.in_=true) {a:G'.α} {pF:Nat→Prop} (ha:G'.sure a=w.now):SVw G' (⟨r.p,r.lg,r.z,false,0,none,[],none,0,[],pF,a⟩:RS G'.α) ⟨w.z,w.now,false,[],[]⟩:=
 ⟨V.z,rfl,ha,fun h=>(by cases h),fun _=>⟨rfl,rfl,rfl,rfl⟩,All2.nil,⟨V.ok.z,V.ok.now,.nil,by simp,by simp,fun _=>⟨rfl,rfl⟩⟩⟩
theorem St.commit_0 {w:St} (h:w.in_=true):w.commit=(⟨w.z,w.now,false,[],[]⟩,0):=by unfold St.commit;rw [if_neg (by rw [h];decide)]
open Go Go.HL
def newA (d c am z:Nat) (D:Dk):RHA:=⟨0,0,0,am,[],false,0,none,[],d,D,z,0,c⟩
theorem HAh.new {d c am z:Nat} {D:Dk} (hz:okSz z=true) (k:ClrH newN D):HAh (newA d c am z D) [] []:=
 ⟨hz,k.hd,rfl,fun h=>(by cases h),by simp,by simp,by simp,by simp,fun x h=>(by cases h),fun i l h=>(by cases h),.inl ⟨rfl,rfl,rfl,k.L,k.M,by rw [show (newA d c am z D).D=D from rfl,k.T];rfl⟩,fun h=>(by cases h),fun h=>(by cases h),fun h=>(by cases h),fun _=>⟨rfl,rfl,rfl⟩,fun h=>absurd rfl h⟩
theorem haopn0_any {h:Heap} {p:Nat} {r:RHA} {D Fd:Nat→Prop} (hd:HD r.D) (hT:cont r.D nT=none) (ok:Hp h D [haboxI p r,dgI r.d Fd r.D] [] h) :
  HC Tryz.prog 139 #[.pointer (some ⟨p,0,none⟩)] h (fun v h'=>v=.tuple #[.pointer (some ⟨p,0,none⟩),.int .i64 0]∧h'=h):=by
 have ok:Hp h D [boxI p 202 [.int .i64 (r.fr:Int),.int .i64 (r.nd:Int),.int .u64 (r.link:Int),.map (some r.am),.bool r.in_,.int .i64 (r.many:Int),.map r.bm,.pointer (some ⟨r.d,0,none⟩),.int .i64 (r.size:Int),.int .i64 (r.sure:Int),.pointer (some ⟨r.c,0,none⟩),.bool false],dgI r.d Fd r.D] [] h:=ok;have hT2:(cont r.D nT).isSome=false:=by rw [hT];rfl
 have hT3:((cont r.D nT).getD []).length=0:=by rw [hT];rfl
 refine HC.go Tryz.func139 71 ?_;refine .s<|.z .asP<|.z .asI<|.nil<|.s<|.z .mvP<|.z .nil<|.z (.fa T.fd202_2)<|.z (.ldx T.ag63 ok.m0)<|.k 14 .func (hysizeX_any (n:=nT) hd (ok.n1).loc0)<|.z .mvU<|.z .ex<|.z .ex<|.z .asI<|.z .asB<|.nil<|.seq<|.s<|.z .mvB<|.z .not<|.z .mvB<|.spl (fun G19=>?_) (fun G19=>?_)
 ·
  refine .y<|.y<|.z .pkt<|.nil<|.ct<|.seq<|.s<|.z .mvP<|.z .nil<|.z (.fa T.fd202_2)<|.z (.ldx T.ag63 ok.m0)<|.k 27 .func (hdark_any hd (ok.n1).loc0)<|.nil<|.cf<|.skip<|.s<|.z .mvP<|.z .asP<|.z .asI<|.nil<|.ret ⟨.tuple #[.pointer (some ⟨p,0,none⟩),.int .i64 0],Res.two rfl rfl rfl,⟨rfl,rfl⟩⟩
 refine .z .mvI<|.z .eql<|.z .pkf<|.nil<|.cd (fun C0=>?_) (fun C0=>?_)
 ·
  refine .seq<|.s<|.z .mvP<|.z .nil<|.z (.fa T.fd202_2)<|.z (.ldx T.ag63 ok.m0)<|.k 27 .func (hdark_any hd (ok.n1).loc0)<|.nil<|.cf<|.skip<|.s<|.z .mvP<|.z .asP<|.z .asI<|.nil<|.ret ⟨.tuple #[.pointer (some ⟨p,0,none⟩),.int .i64 0],Res.two rfl rfl rfl,⟨rfl,rfl⟩⟩
 first | (rw [hT2] at C0;simp at C0) | (exfalso;omega) | (rw [hT2] at *;simp_all)
theorem haopen_any {h:Heap} {d z:Nat} {room:Int} {F:Nat→Prop} (ok:Hp h F [dgI d F newN] [] h) (hz:okSz z=true) (hr:1≤room∧room≤1024) :
  HC Tryz.prog 87 #[.pointer (some ⟨d,0,none⟩),.int .i64 (z:Int),.int .i64 room] h (fun v h'=>∃(p c am:Nat) (D':Dk) (Fd cF:Nat→Prop),HAh (newA d c am z D') [] []∧D'.chg≤newN.chg+4∧v=.tuple #[.pointer (some ⟨p,0,none⟩),.int .i64 0]∧Hp h F (haL p (newA d c am z D') Fd cF (fun i=>([]:List (List UInt8))[i]?)) [] h'):=by
 have hzc:=okSz_c hz;have hcn:newN.chg=0:=rfl;refine HC.go Tryz.func87 57 ?_;refine .s<|.z .asP<|.z .asI<|.nil<|.seq<|.s<|.z .mvP<|.z (.pEqS T.pt63)<|.nil<|.cf<|.skip<|.seq<|.s<|.z .mvI<|.k 16 .func (nright_any hz)<|.z .not<|.nil<|.cf<|.skip<|.s<|.z .mvI<|.c' 20 .func (cnewA_any (room:=room) (fun i=>([]:List (List UInt8))[i]?)) ?_;rintro _ η1 (⟨hrm,rfl,hx⟩ | ⟨hrm,cc,cF,rfl,hx,hcac,hnw⟩)
 ·
  exact absurd hrm (by omega)
 have ok:=ok.newM hx (cacI cc cF (fun i=>([]:List (List UInt8))[i]?)) hcac hnw;refine .z .mvU<|.z .ex<|.z .ex<|.z .asP<|.z .asI<|.nil<|.seq<|.s<|.z .mvI<|.z .neq<|.nil<|.cf<|.skip<|.s<|.z .mvP<|.z .mvI<|.z .mvP<|.z (.bd #[.int .i64 0,.int .i64 0,.int .u64 0,.map none,.bool false,.int .i64 0,.map none,.pointer (some ⟨d,0,none⟩),.int .i64 (z:Int),.int .i64 0,.pointer (some ⟨cc,0,none⟩),.bool false] T.zr202 T.pl202 rfl)<|.a' 30 (.bxA (cs:=[.int .i64 0,.int .i64 0,.int .u64 0,.map none,.bool false,.int .i64 0,.map none,.pointer (some ⟨d,0,none⟩),.int .i64 (z:Int),.int .i64 0,.pointer (some ⟨cc,0,none⟩),.bool false]) ok) ?_;rintro _ η2 ⟨pb1,rfl,ok,xe⟩;refine .z .asP<|.nil<|.s<|.z .mvP<|.c' 32 .func (fresh_any (ok).loc0) ?_;rintro _ η3 ⟨mf,rfl,q⟩;have ok:=(ok).lift2 q;have ok:Hp h F [haboxI pb1 (newA d cc mf z newN),mapI (Value.int .i64) mf [],cacI cc cF (fun i=>([]:List (List UInt8))[i]?),dgI d F newN] [] η3:=ok;refine .nil ?_;refine .seq<|.s<|.z .mvP<|.k 34 .func (hdark_any HD.new (ok.n3).loc0)<|.nil<|.cf<|.skip<|.seq<|.s<|.z .mvP<|.k 37 .func (nsize_any (n:=nM) (ok.n3).loc0)<|.z .mvU<|.z .ex<|.z .ex<|.z .asI<|.z .asB<|.nil<|.s<|.z .mvB<|.z .mvB<|.y<|.y<|.z .pkf<|.nil<|.cf<|.r<|.z .mvP<|.c' 49 .func (haclear_any (r:=({ (newA d cc mf z newN) with at_:=[],D:=newN } : RHA)) HD.new (show newN.chg<700000000 by omega) (Hp.lc2 (ok.n3.n1))) ?_;rintro _ η4 ⟨rfl,mk1,Fk1,Dk1,clk1,q⟩;have ok:=Hp.lf2 (ok.n3.n1) q;have hclc:Dk1.chg≤newN.chg+4:=clk1.chg;refine .z .asI<|.nil<|.seq<|.s<|.z .mvI<|.z .neq<|.nil<|.cf<|.skip<|.s<|.z .mvP<|.k 54 .func (haopn0_any (r:=({ (newA d cc mf z newN) with fr:=0,nd:=0,link:=0,am:=mk1,at_:=[],D:=Dk1 } : RHA)) clk1.hd clk1.T (Hp.lc2 (ok.n2.n1)))<|.z .ex<|.z .ex<|.z .asP<|.z .asI<|.nil ?_;have ok:=ok.nowNil (bs:=[]);refine .ret ⟨.tuple #[.pointer (some ⟨pb1,0,none⟩),.int .i64 0],Res.two rfl rfl rfl,⟨pb1,cc,mk1,Dk1,Fk1,cF,HAh.new hz clk1,clk1.chg,rfl,(ok.n5.n4.n2.n4.n4).k5⟩⟩
end Go.Proofs.YtndlpekckpdncaaGreat
