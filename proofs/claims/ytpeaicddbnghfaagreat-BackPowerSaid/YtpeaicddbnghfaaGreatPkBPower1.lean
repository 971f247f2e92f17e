/- Memory as a list of separate items that may turn, and a list of items that are read alone. Conditions: those that each fact names. Strings as rows of bytes: their length, their order, maps by them; calls of function values. Conditions: those that each rule names. Several items as one; what a call may turn alone, taken from and put back into what the caller has. Conditions: those that each fact names. The disk's files in plain terms, as the program has them. Conditions: those that each fact names. Closed facts on the types of this translation, written by a program of this claim; each is decided by the kernel. Sums of bytes: sum.table, Sum, Next, foot, Seal, and the document's. Conditions: the slices are readable. Logs in plain terms: heads, frames, links, and how a log is scanned. Conditions: those that each fact names. The disk's changes: long, done, kept, what is wrong with a call. Conditions: the bytes are readable, few. A disk's calls: Read, Size, Dark, Changes, Cut, New, and the calls to no disk. Conditions: the disk is in order. The contracts of maps.Keys, slices.Sorted and slices.Sort, laid at this program by the kit. Conditions: none. maps.Keys and slices.Sorted over a map by strings: its keys, sorted. Conditions: the keys are few and short. Rows of strings that may turn: read, written, cleared. Conditions: those that each rule names. The names of a disk's files. Conditions: the disk is in order, its changes few. A disk's crash. Conditions: the disk is in order, its changes few, the bytes readable. A disk as one item that is told in plain terms alone; its calls so. Conditions: those that each fact names. Files of a disk, byte by byte: what changes do to them, how the power goes, and what a crash may leave. Conditions: those that each fact names. Opening a file that a journal may have to heal, in plain terms: it has the sure pages; and so it has when the power goes within. Conditions: those that each fact names. The calls of the pager that keeps a journal, in plain terms: what they make of its pages, and of its file. Conditions: those that each fact names. The calls of the pager that keeps a journal, told in plain terms alone. Conditions: the pager with its disk is one item, and few changes were made. The document's pager: Resize, Unlike, Commit; Same of pages. Conditions: the state is readable, and small. The document's pager of layer 13: its calls; Same of pages. Conditions: the state is readable, and small. A call of the laws keeps the two pagers alike, in plain terms, or the power goes; little pagers stay little. Conditions: those that each fact names. All pages of a pager that keeps a journal. Conditions: it is in order, and there is power. How arguments that come in read: types opened one by one. Conditions: those that each fact names. Arrays of bytes that come in as arguments. Conditions: those that each fact names. What a pager that keeps a journal leaves wherever the power goes, for the law on power; its disk is cut. Conditions: those that each fact names. The law BackPower: wherever the power goes, and whatever of it a crash keeps. Conditions: the calls are readable. The law BackPower at arguments as they come in. Conditions: they are readable. The law BackPower returns true at every input and leaves its arguments as they were. Conditions: none. -/
import Derived.Test.YtpeaicddbnghfaaGreatPkB9
import Derived.Sort.Walk0
import Derived.Test.YtpeaicddbnghfaaGreatProg
import Derived.Shelf.SlIter.Nil
import Derived.Shelf.SortM.Plain
import Derived.Shelf.SortM.SortNone
import Derived.Ground.GgzProg
import Derived.Ground.SlgmProg
import Derived.ChangeArms
import Derived.ChangeMaps5
import Derived.OpenShut
import Derived.Test.YtpeaicddbnghfaaGreatRows
set_option maxRecDepth 100000
set_option maxHeartbeats 2000000
set_option linter.all false
namespace Go.HL
open Go
section
variable {h0 h:Heap} {D:Nat→Prop} {M R:List Itm} {q0 q1 q2 q3 q4 q5 q6 q7 q8 q9:Itm}
theorem Hp.f4 (ok:Hp h0 D M (q0::q1::q2::q3::q4::R) h):Hp h0 D M (q4::q0::q1::q2::q3::R) h:=ok.sub (by simp;grind)
theorem Hp.f5 (ok:Hp h0 D M (q0::q1::q2::q3::q4::q5::R) h):Hp h0 D M (q5::q0::q1::q2::q3::q4::R) h:=ok.sub (by simp;grind)
theorem Hp.e4 (ok:Hp h0 D M (q0::q1::q2::q3::R) h):Hp h0 D M [q0,q1,q2,q3] h:=ok.sub (by simp)
end
section
variable {h0 h:Heap} {D:Nat→Prop} {M R:List Itm} {a b c d e f g i j k:Itm}
theorem Hp.k5 (ok:Hp h0 D (a::b::c::d::e::M) R h):Hp h0 D [a,b,c,d,e] R h:=ok.keep (.cons_cons _ (.cons_cons _ (.cons_cons _ (.cons_cons _ (.cons_cons _ (List.nil_sublist _))))))
end
open Go Go.MapKept
theorem list_tri:∀a b:List UInt8,a<b∨a=b∨b<a
 | [],[]=>.inr (.inl rfl)
 | [],_::_=>.inl (by simp)
 | _::_,[]=>.inr (.inr (by simp))
 | x::a,y::b=>by
  rw [List.cons_lt_cons_iff,List.cons_lt_cons_iff];rcases Nat.lt_trichotomy x.toNat y.toNat with h | h | h
  ·exact .inl (.inl (UInt8.lt_iff_toNat_lt.2 h))
  ·have h:=UInt8.toNat_inj.1 h;subst h;rcases list_tri a b with h | h | h
   ·exact .inl (.inr ⟨rfl,h⟩)
   ·exact .inr (.inl (by rw [h]))
   ·exact .inr (.inr (.inr ⟨rfl,h⟩))
  ·exact .inr (.inr (.inl (UInt8.lt_iff_toNat_lt.2 h)))
structure Nm where
 n:List UInt8
instance:Rep Nm:=Rep.flat (fun a=>kvB a.n) fun _=>rfl
theorem RdL.nm {h:Heap} {F E:Nat→Prop} {L:List (List UInt8)} {b o n c:Nat} (r:RdL h F E (some ⟨b,o,none⟩,n,c) (L.map Nm.mk)) {i:Nat} (hi:i<L.length):cell h b (o+i)=some (.string (BA L[i])):=by
 obtain ⟨cs,h1,h2⟩:=r.el (i:=i) (by simpa using hi);have h3:cs=[kvB L[i]]:=by have h4:cs=[kvB ((L.map Nm.mk)[i]'(by simpa using hi)).n]:=h1;simpa using h4
 subst h3;have:=h2 0 _ rfl;simpa [Rep.k] using this
section
variable {h0 h:Heap} {D:Nat→Prop} {M R:List Itm} {q0 q1 q2 q3 q4 q5 q6 q7 q8 q9:Itm}
theorem Hp.e5 (ok:Hp h0 D M (q0::q1::q2::q3::q4::R) h):Hp h0 D M [q0,q1,q2,q3,q4] h:=ok.sub (by simp)
theorem Hp.f7 (ok:Hp h0 D M (q0::q1::q2::q3::q4::q5::q6::q7::R) h):Hp h0 D M (q7::q0::q1::q2::q3::q4::q5::q6::R) h:=ok.sub (by simp;grind)
end
end Go.HL
namespace Go.Proofs.YtpeaicddbnghfaaGreat
open Go Go.HL
def cutN (d:Dk) (z:Int):Dk:=if d.dark=true then d else ⟨d.fs,d.dark,max z (-1),d.chg⟩
def crF (f:Fl) (ks:List UInt8):Option Fl:=settleF ⟨(crC f.safe f.was f.opn ks).1,f.safe,(crC f.safe f.was f.opn ks).2,f.was,f.opn⟩
def crashL:(List UInt8→Option Fl)→List (List UInt8)→List UInt8→List UInt8→Option Fl
 | fs,[],_=>fs
 | fs,n::ns,ks=>match fs n with
  | none=>crashL fs ns ks
  | some f=>crashL (put1 fs n (crF f ks)) ns (ks.drop f.opn.length)
def crashN (d:Dk) (ns:List (List UInt8)) (ks:List UInt8):Dk:=⟨crashL d.fs ns ks,false,-1,d.chg⟩
structure Keys (fs:List UInt8→Option Fl) (ns:List (List UInt8)):Prop where
 up:ns.Pairwise (· < ·)
 iff:∀n,n∈ns↔(fs n).isSome=true
theorem DkOk.cut {d:Dk} (k:DkOk d) {z:Int} (hz:z≤9223372036854775807):DkOk (cutN d z):=by
 unfold cutN;split
 ·exact k
 ·exact ⟨k.fs,k.chg,by simp only;omega,k.cnt⟩
theorem keptN_ok {c:Chn} {k:Nat} (h:ChOk c):ChOk (keptN c k).1:=by
 have h1:=h.fit;have h2:=h.kind;unfold keptN;split
 ·exact h
 ·split
  ·exact ⟨h2,by simp;omega⟩
  ·exact h
theorem crC_len:∀ {l:List Chn} {b:List UInt8} {here:Bool} {ks:List UInt8},(∀c∈l,ChOk c)→b.length≤16777216→(crC b here l ks).1.length≤16777216
 | [],_,_,_,_,hb=>hb
 | c::l,b,here,ks,hc,hb=>by
  unfold crC;simp only;split
  ·exact crC_len (fun x hx=>hc x (List.mem_cons_of_mem _ hx)) (doneN_len (keptN_ok (hc c List.mem_cons_self)) hb)
  ·exact crC_len (fun x hx=>hc x (List.mem_cons_of_mem _ hx)) hb
theorem crF_ok {f g:Fl} {ks:List UInt8} (k:FlOk f) (h:crF f ks=some g):FlOk g∧g.opn=[]:=settleF_ok (f:=⟨(crC f.safe f.was f.opn ks).1,f.safe,(crC f.safe f.was f.opn ks).2,f.was,f.opn⟩) ⟨crC_len k.opn k.safe,k.safe,k.opn⟩ h
theorem crashL_ok {P:Fl→Prop} (hP:∀f g ks,P f→crF f ks=some g→P g):∀ {ns:List (List UInt8)} {fs:List UInt8→Option Fl} {ks:List UInt8},(∀n f,fs n=some f→P f)→∀n f,crashL fs ns ks n=some f→P f
 | [],_,_,h=>h
 | m::ns,fs,ks,h=>by
  unfold crashL;cases hm:fs m with
  | none=>exact crashL_ok hP h
  | some f=>
   refine crashL_ok hP fun n g hg=>?_;simp only [put1] at hg;split at hg
   ·exact hP f g ks (h m f hm) hg
   ·exact h n g hg
theorem crashL_some:∀ {ns:List (List UInt8)} {fs:List UInt8→Option Fl} {ks:List UInt8} {n:List UInt8} {f:Fl},crashL fs ns ks n=some f→∃g,fs n=some g
 | [],_,_,_,f,h=>⟨f,h⟩
 | m::ns,fs,ks,n,f,h=>by
  unfold crashL at h;cases hm:fs m with
  | none=>rw [hm] at h;exact crashL_some h
  | some g=>
   rw [hm] at h;obtain ⟨g',hg'⟩:=crashL_some h;simp only [put1] at hg';split at hg'
   ·rename_i e;subst e;exact ⟨g,hm⟩
   ·exact ⟨g',hg'⟩
theorem DkOk.crash {d:Dk} (k:DkOk d) {ns:List (List UInt8)} {ks:List UInt8} : DkOk (crashN d ns ks):=by
 have h1:=k.chg;refine ⟨fun n f h=>?_,k.chg,by simp [crashN],let ⟨ks,h1,h2⟩:=k.cnt;⟨ks,h1,fun n f h=>let ⟨g,hg⟩:=crashL_some h;h2 n g hg⟩⟩;exact crashL_ok (P:=fun f=>FlOk f∧(f.opn.length:Int)≤d.chg) (fun f g ks h hg=>by
  have h2:=crF_ok h.1 hg;exact ⟨h2.1,by rw [h2.2];simpa using h1⟩) k.fs n f h
namespace T
theorem ag2:agB Go.Proofs.Tryz.prog 2=some false:=by kernel_rfl
theorem ag9:agB Go.Proofs.Tryz.prog 9=some false:=by kernel_rfl
theorem sz9:szB Go.Proofs.Tryz.prog 9=some 1:=by kernel_rfl
theorem ar64:arB Go.Proofs.Tryz.prog 64=some (2,5):=by kernel_rfl
theorem fd90_0:fdB Go.Proofs.Tryz.prog 90 0=some (0,5,0+1):=by kernel_rfl
theorem fd90_1:fdB Go.Proofs.Tryz.prog 90 1=some (1,5,0+1):=by kernel_rfl
theorem fd90_2:fdB Go.Proofs.Tryz.prog 90 2=some (2,22,0+1):=by kernel_rfl
theorem fd90_3:fdB Go.Proofs.Tryz.prog 90 3=some (3,22,0+1):=by kernel_rfl
theorem el172:elB Go.Proofs.Tryz.prog 172=some 9:=by kernel_rfl
end T
open Go Go.HL
def nextB (p:Nat) (x:UInt8):Nat:=(p ^^^ x.toNat)*1099511628211%18446744073709551616
def nextN (p:Nat) (l:List UInt8):Nat:=l.foldl nextB p
def okF (f:Fr):Bool:=decide (1≤f.page∧f.page≤1048576∧0≤f.commit∧f.commit≤1048576) && okSz f.b.length
def linkN (p:Nat) (f:Fr):Nat:=nextN p (fixedN f.page.toNat 4++fixedN f.commit.toNat 4++f.b)
structure Sc where
 pos:Nat
 prev:Nat
 all:List Fr
 l:List Fr
 sure:Nat
 fin:Nat
def rawF (b:List UInt8) (size pos:Nat):Fr:=⟨rdN b pos 4,rdN b (pos+4) 4,(b.drop (pos+16)).take size⟩
def fits (b:List UInt8) (size pos prev:Nat):Prop:=pos+16+size≤b.length∧okF (rawF b size pos)=true∧linkN prev (rawF b size pos)=rdN b (pos+8) 8
def stepF (size:Nat) (s:Sc) (f:Fr):Sc:=
 let p:=linkN s.prev f
 if f.commit≠0 then ⟨s.pos+16+size,p,s.all++[f],s.all++[f],p,s.pos+16+size⟩ else ⟨s.pos+16+size,p,s.all++[f],s.l,s.sure,s.fin⟩
inductive Reach (b:List UInt8) (size:Nat):Sc→Sc→Prop
 | refl (s):Reach b size s s
 | step {s s'} : Reach b size s s'→fits b size s'.pos s'.prev→Reach b size s (stepF size s' (rawF b size s'.pos))
theorem kept0 {kind pos k:Nat} {bl:List UInt8} (h:kind≠0):keptN ⟨kind,pos,bl⟩ k=(⟨kind,pos,bl⟩,decide (128≤k)):=by simp [keptN,h]
theorem kept1 {kind pos k:Nat} {bl:List UInt8} (h:kind=0) (hk:k≠255):keptN ⟨kind,pos,bl⟩ k=(⟨kind,pos,bl.take (bl.length*k / 255)⟩,decide (k≠0)):=by simp [keptN,h,hk]
theorem kept2 {kind pos k:Nat} {bl:List UInt8} (h:kind=0) (hk:k=255):keptN ⟨kind,pos,bl⟩ k=(⟨kind,pos,bl⟩,decide (k≠0)):=by simp [keptN,h,hk]
theorem kept_any {h:Heap} {kind pos k:Nat} {ba:Option Addr} {bc:Nat} {bl:List UInt8} (hL:bl.length≤16777216) (hbc:bl.length≤bc) (hk:k<256) :
  HC Tryz.prog 124 #[.agg #[.int .i64 (kind:Int),.int .i64 (pos:Int),.slice ba bl.length bc],.int .u8 (k:Int)] h (fun v h'=>v=.tuple #[.agg #[.int .i64 ((keptN ⟨kind,pos,bl⟩ k).1.kind:Int),.int .i64 ((keptN ⟨kind,pos,bl⟩ k).1.pos:Int),.slice ba (keptN ⟨kind,pos,bl⟩ k).1.b.length bc],.bool (keptN ⟨kind,pos,bl⟩ k).2]∧Ext h h'):=by
 have ok:=Hp.nil h none_;have hm:bl.length*k≤16777216*255:=Nat.mul_le_mul hL (by omega);have hq:bl.length*k / 255≤bl.length:=by
  have:bl.length*k≤bl.length*255:=Nat.mul_le_mul_left _ (by omega);omega
 refine HC.go Tryz.func124 28 ?_;refine .seq<|.r<|.a' 2 (.bxA (cs:=[.int .i64 (kind:Int),.int .i64 (pos:Int),.slice ba bl.length bc]) ok) ?_;rintro _ η1 ⟨pb1,rfl,ok,xe⟩;refine .a' 4 (.alA T.zr175 ok) ?_;rintro _ η2 ⟨pb2,rfl,ok,xe⟩;refine .z .asB<|.nil ?_;refine .seq<|.seq<|.r<|.z (.fa T.fd175_0)<|.z (.ldx T.ag3 ok.m1)<|.z .neq<|.nil ?_;refine .cd (fun C0=>?_) (fun C0=>?_)
 ·
  refine .seq<|.r<|.z (.ldb T.ag175 ok.m1 T.sz175)<|.z .mvI<|.z .geq<|.ur' (.stW (vs:=[.int .i64 (kind:Int),.int .i64 (pos:Int),.slice ba bl.length bc]) T.sz175 ok (oneL rfl)) ?_;rintro η3 ⟨ok,cg⟩;refine .z .asB<|.nil ?_;refine .ret ⟨.tuple #[.agg #[.int .i64 (kind:Int),.int .i64 (pos:Int),.slice ba bl.length bc],.bool (decide (128≤(k:Int)))],Res.many (vs:=[.agg #[.int .i64 (kind:Int),.int .i64 (pos:Int),.slice ba bl.length bc],.bool (decide (128≤(k:Int)))]) rfl ⟨⟨_,rfl,load_ag T.ag175 ok.m0 T.sz175⟩,rfl,trivial⟩ rfl,⟨(by rw [kept0 (by omega)];refine congrArg (fun b=>Value.tuple #[_,Value.bool b]) ?_;exact decide_eq_decide.2 (by omega)),ok.chg⟩⟩
 refine .skip<|.seq<|.seq<|.r<|.z .mvI<|.z .neq<|.nil ?_;refine .cd (fun C1=>?_) (fun C1=>?_)
 ·
  refine .r<|.z (.fa T.fd175_2)<|.z (.ldx T.ag22 ok.m1)<|.z (.fa T.fd175_2)<|.z (.ldx T.ag22 ok.m1)<|.z (.len T.el22)<|.z .mvI<|.z (.cvi T.in3 T.in5)<|.z (.mulI (hr:=(by omega)))<|.z .quo<|.z (.sl_h (bl.length*k / 255) T.el22 T.sz5)<|.z (.fa T.fd175_2)<|.ur' (.stS T.sz22 ok.n1) ?_;rintro η4 ⟨ok,cg⟩;refine .nil ?_;refine .seq<|.r<|.z (.ldb T.ag175 ok.m0 T.sz175)<|.z .mvI<|.z .neq<|.ur' (.stW (vs:=[.int .i64 (kind:Int),.int .i64 (pos:Int),.slice ba (bl.length*k / 255) bc]) T.sz175 ok.n1 (oneL rfl)) ?_;rintro η5 ⟨ok,cg⟩;refine .z .asB<|.nil ?_;refine .ret ⟨.tuple #[.agg #[.int .i64 (kind:Int),.int .i64 (pos:Int),.slice ba (bl.length*k / 255) bc],.bool (decide ((k:Int)≠0))],Res.many (vs:=[.agg #[.int .i64 (kind:Int),.int .i64 (pos:Int),.slice ba (bl.length*k / 255) bc],.bool (decide ((k:Int)≠0))]) rfl ⟨⟨_,rfl,load_ag T.ag175 ok.m0 T.sz175⟩,rfl,trivial⟩ rfl,⟨(by rw [kept1 (by omega) (by omega)];simp only [List.length_take,Nat.min_eq_left hq];refine congrArg (fun b=>Value.tuple #[_,Value.bool b]) ?_;exact decide_eq_decide.2 (by omega)),ok.chg⟩⟩
 refine .skip<|.seq<|.r<|.z (.ldb T.ag175 ok.m1 T.sz175)<|.z .mvI<|.z .neq<|.ur' (.stW (vs:=[.int .i64 (kind:Int),.int .i64 (pos:Int),.slice ba bl.length bc]) T.sz175 ok (oneL rfl)) ?_;rintro η6 ⟨ok,cg⟩;refine .z .asB<|.nil ?_;refine .ret ⟨.tuple #[.agg #[.int .i64 (kind:Int),.int .i64 (pos:Int),.slice ba bl.length bc],.bool (decide ((k:Int)≠0))],Res.many (vs:=[.agg #[.int .i64 (kind:Int),.int .i64 (pos:Int),.slice ba bl.length bc],.bool (decide ((k:Int)≠0))]) rfl ⟨⟨_,rfl,load_ag T.ag175 ok.m0 T.sz175⟩,rfl,trivial⟩ rfl,⟨(by rw [kept2 (by omega) (by omega)];refine congrArg (fun b=>Value.tuple #[_,Value.bool b]) ?_;exact decide_eq_decide.2 (by omega)),ok.chg⟩⟩
def cutR (r:RD) (z:Int):RD:=if r.dark=true then r else ⟨r.m,r.fs,r.dark,max z (-1),r.chg⟩
theorem cutR_abs {r:RD} {z:Int} : (cutR r z).abs=cutN r.abs z:=by
 unfold cutR cutN;by_cases h:r.dark=true
 ·rw [if_pos h,if_pos (by exact h)]
 ·rw [if_neg h,if_neg (by exact h)];rfl
theorem cutR_fs {r:RD} {z:Int} : (cutR r z).fs=r.fs:=by unfold cutR;split<;>rfl
theorem cut_any {h:Heap} {d:Nat} {r:RD} {z:Int} (ok:Hp h (dskI d r).F [dskI d r] [] h) :
  HC Tryz.prog 56 #[.pointer (some ⟨d,0,none⟩),.int .i64 z] h (fun v h'=>v=.tuple #[]∧Hp h (dskI d r).F [dskI d (cutR r z)] [] h'):=by
 have ok:=ok.dopn;refine HC.go Tryz.func56 18 ?_;refine .seq<|.r<|.z .mvP<|.z (.pNeS T.pt30)<|.z .mvB<|.z .mvP<|.z .nil<|.z (.fa T.fd105_1)<|.z (.ldx T.ag4 ok.m0)<|.z .not<|.z .pkt<|.nil ?_;refine .cond (fun C0=>?_) (fun C0=>?_)
 ·
  refine .r<|.z .mvP<|.z .mvI<|.z .max2<|.z .nil<|.z (.fa T.fd105_2)<|.ur' (.stI T.sz3 ok) ?_;rintro η1 ⟨ok,cg⟩;refine .nil ?_;refine .end<|⟨.tuple #[],Res.none rfl,(by unfold cutR;rw [if_neg (by intro h9;simp [h9] at *)];exact ⟨rfl,Hp.dcls (r:=⟨r.m,r.fs,r.dark,max z (-1),r.chg⟩) ok⟩)⟩
 refine .skip<|.end<|⟨.tuple #[],Res.none rfl,(by unfold cutR;rw [if_pos (by simp_all)];exact ⟨rfl,Hp.dcls (r:=r) ok⟩)⟩
end Go.Proofs.YtpeaicddbnghfaaGreat
namespace Go.Proofs
open Go.Shelf
def Tryz.keysB_ren:Go.Shelf.Ren:=⟨fun | 7=>173 | 10=>207 | n=>n,fun | 23=>103 | 26=>9 | 3=>123 | 28=>226 | 0=>0 | 27=>225 | 33=>255 | 4=>4 | n=>n,fun | n=>n⟩
theorem Tryz.keysB:Go.Proofs.SlLaysZ.n7 Tryz.prog Tryz.keysB_ren:={
 mixed:=by kernel_rfl
 f7:=⟨Tryz.f173.name,by decide,Tryz.func173.trans (congrArg some (by kernel_rfl))⟩
 f10:=⟨Tryz.f207.name,by decide,Tryz.func207.trans (congrArg some (by kernel_rfl))⟩
 t0:=Tryz.underlying0
 a0:=Tryz.isAgg0
 z0:=Tryz.sizeOf0
 v0:=Tryz.zeroValue0
 t4:=Tryz.underlying4
 a4:=Tryz.isAgg4
 z4:=Tryz.sizeOf4
 v4:=Tryz.zeroValue4
 t23:=Tryz.underlying103
 a23:=Tryz.isAgg103
 z23:=Tryz.sizeOf103
 v23:=Tryz.zeroValue103
 t26:=Tryz.underlying9
 a26:=Tryz.isAgg9
 z26:=Tryz.sizeOf9
 v26:=Tryz.zeroValue9
 t27:=Tryz.underlying225
 a27:=Tryz.isAgg225
 z27:=Tryz.sizeOf225
 v27:=Tryz.zeroValue225
 t28:=Tryz.underlying226
 a28:=Tryz.isAgg226
 z28:=Tryz.sizeOf226
 v28:=Tryz.zeroValue226
 t33:=Tryz.underlying255
 a33:=Tryz.isAgg255
 z33:=Tryz.sizeOf255
 v33:=Tryz.zeroValue255 }
def Tryz.sortedB_ren:Go.Shelf.Ren:=⟨fun | 6=>172 | 8=>205 | 9=>206 | 11=>234 | 13=>199 | 12=>235 | 23=>229 | 24=>230 | 14=>247 | 15=>248 | 16=>249 | 17=>250 | 18=>251 | 19=>252 | 20=>253 | 21=>254 | 22=>255 | 25=>258 | 26=>240 | 27=>241 | 28=>259 | 29=>260 | 30=>261 | 31=>262 | n=>n,fun | 26=>9 | 28=>226 | 24=>172 | 0=>0 | 3=>3 | 37=>242 | 48=>243 | 50=>77 | 4=>4 | 40=>272 | 39=>271 | 45=>42 | 5=>5 | 9=>9 | 51=>283 | 55=>287 | 57=>298 | 58=>299 | 33=>255 | n=>n,fun | n=>n⟩
theorem Tryz.sortedB:Go.Proofs.SlLaysZ.n6 Tryz.prog Tryz.sortedB_ren:={
 mixed:=by kernel_rfl
 f6:=⟨Tryz.f172.name,by decide,Tryz.func172.trans (congrArg some (by kernel_rfl))⟩
 f8:=⟨Tryz.f205.name,by decide,Tryz.func205.trans (congrArg some (by kernel_rfl))⟩
 f11:=⟨Tryz.f234.name,by decide,Tryz.func234.trans (congrArg some (by kernel_rfl))⟩
 t0:=Tryz.underlying0
 a0:=Tryz.isAgg0
 z0:=Tryz.sizeOf0
 v0:=Tryz.zeroValue0
 t24:=Tryz.underlying172
 a24:=Tryz.isAgg172
 z24:=Tryz.sizeOf172
 v24:=Tryz.zeroValue172
 t26:=Tryz.underlying9
 a26:=Tryz.isAgg9
 z26:=Tryz.sizeOf9
 v26:=Tryz.zeroValue9
 t28:=Tryz.underlying226
 a28:=Tryz.isAgg226
 z28:=Tryz.sizeOf226
 v28:=Tryz.zeroValue226
 i26:=by kernel_rfl }
def Tryz.sortB_ren:Go.Shelf.Ren:=⟨fun | 6=>206 | 8=>199 | 9=>235 | 19=>229 | 20=>230 | 21=>247 | 22=>248 | 23=>249 | 24=>250 | 25=>251 | 26=>252 | 27=>253 | 28=>254 | 29=>255 | 36=>258 | 31=>240 | 32=>241 | 37=>259 | 38=>260 | 39=>261 | 41=>262 | n=>n,fun | 27=>172 | 29=>9 | 3=>3 | 32=>242 | 26=>172 | 0=>0 | 44=>243 | 46=>77 | 4=>4 | 36=>272 | 35=>271 | 41=>42 | 5=>5 | 9=>9 | 53=>283 | 57=>287 | 63=>298 | 64=>299 | n=>n,fun | n=>n⟩
theorem Tryz.sortB:Go.Proofs.SlLaysM.n6 Tryz.prog Tryz.sortB_ren:={
 mixed:=by kernel_rfl
 f6:=⟨Tryz.f206.name,by decide,Tryz.func206.trans (congrArg some (by kernel_rfl))⟩
 f8:=Tryz.func199.trans (congrArg some (by kernel_rfl))
 f9:=⟨Tryz.f235.name,by decide,Tryz.func235.trans (congrArg some (by kernel_rfl))⟩
 f19:=Tryz.func229.trans (congrArg some (by kernel_rfl))
 f20:=Tryz.func230.trans (congrArg some (by kernel_rfl))
 f21:=⟨Tryz.f247.name,by decide,Tryz.func247.trans (congrArg some (by kernel_rfl))⟩
 f22:=⟨Tryz.f248.name,by decide,Tryz.func248.trans (congrArg some (by kernel_rfl))⟩
 f23:=⟨Tryz.f249.name,by decide,Tryz.func249.trans (congrArg some (by kernel_rfl))⟩
 f24:=⟨Tryz.f250.name,by decide,Tryz.func250.trans (congrArg some (by kernel_rfl))⟩
 f25:=⟨Tryz.f251.name,by decide,Tryz.func251.trans (congrArg some (by kernel_rfl))⟩
 f26:=⟨Tryz.f252.name,by decide,Tryz.func252.trans (congrArg some (by kernel_rfl))⟩
 f27:=⟨Tryz.f253.name,by decide,Tryz.func253.trans (congrArg some (by kernel_rfl))⟩
 f28:=⟨Tryz.f254.name,by decide,Tryz.func254.trans (congrArg some (by kernel_rfl))⟩
 f29:=⟨Tryz.f255.name,by decide,Tryz.func255.trans (congrArg some (by kernel_rfl))⟩
 f31:=Tryz.func240.trans (congrArg some (by kernel_rfl))
 f32:=Tryz.func241.trans (congrArg some (by kernel_rfl))
 f36:=⟨Tryz.f258.name,by decide,Tryz.func258.trans (congrArg some (by kernel_rfl))⟩
 f37:=⟨Tryz.f259.name,by decide,Tryz.func259.trans (congrArg some (by kernel_rfl))⟩
 f38:=⟨Tryz.f260.name,by decide,Tryz.func260.trans (congrArg some (by kernel_rfl))⟩
 f39:=⟨Tryz.f261.name,by decide,Tryz.func261.trans (congrArg some (by kernel_rfl))⟩
 f41:=⟨Tryz.f262.name,by decide,Tryz.func262.trans (congrArg some (by kernel_rfl))⟩
 t0:=Tryz.underlying0
 a0:=Tryz.isAgg0
 z0:=Tryz.sizeOf0
 v0:=Tryz.zeroValue0
 t3:=Tryz.underlying3
 a3:=Tryz.isAgg3
 z3:=Tryz.sizeOf3
 v3:=Tryz.zeroValue3
 t4:=Tryz.underlying4
 a4:=Tryz.isAgg4
 z4:=Tryz.sizeOf4
 v4:=Tryz.zeroValue4
 t5:=Tryz.underlying5
 a5:=Tryz.isAgg5
 z5:=Tryz.sizeOf5
 v5:=Tryz.zeroValue5
 t9:=Tryz.underlying9
 a9:=Tryz.isAgg9
 z9:=Tryz.sizeOf9
 v9:=Tryz.zeroValue9
 t26:=Tryz.underlying172
 a26:=Tryz.isAgg172
 z26:=Tryz.sizeOf172
 v26:=Tryz.zeroValue172
 t27:=Tryz.underlying172
 a27:=Tryz.isAgg172
 z27:=Tryz.sizeOf172
 v27:=Tryz.zeroValue172
 t29:=Tryz.underlying9
 a29:=Tryz.isAgg9
 z29:=Tryz.sizeOf9
 v29:=Tryz.zeroValue9
 t32:=Tryz.underlying242
 a32:=Tryz.isAgg242
 z32:=Tryz.sizeOf242
 v32:=Tryz.zeroValue242
 t35:=Tryz.underlying271
 a35:=Tryz.isAgg271
 z35:=Tryz.sizeOf271
 v35:=Tryz.zeroValue271
 t36:=Tryz.underlying272
 a36:=Tryz.isAgg272
 z36:=Tryz.sizeOf272
 v36:=Tryz.zeroValue272
 t41:=Tryz.underlying42
 a41:=Tryz.isAgg42
 z41:=Tryz.sizeOf42
 v41:=Tryz.zeroValue42
 t44:=Tryz.underlying243
 a44:=Tryz.isAgg243
 z44:=Tryz.sizeOf243
 v44:=Tryz.zeroValue243
 t46:=Tryz.underlying77
 a46:=Tryz.isAgg77
 z46:=Tryz.sizeOf77
 v46:=Tryz.zeroValue77
 t53:=Tryz.underlying283
 a53:=Tryz.isAgg283
 z53:=Tryz.sizeOf283
 v53:=Tryz.zeroValue283
 t57:=Tryz.underlying287
 a57:=Tryz.isAgg287
 z57:=Tryz.sizeOf287
 v57:=Tryz.zeroValue287
 t63:=Tryz.underlying298
 a63:=Tryz.isAgg298
 z63:=Tryz.sizeOf298
 v63:=Tryz.zeroValue298
 t64:=Tryz.underlying299
 a64:=Tryz.isAgg299
 z64:=Tryz.sizeOf299
 v64:=Tryz.zeroValue299 }
end Go.Proofs
namespace Go.Proofs.YtpeaicddbnghfaaGreat
open Go Go.HL Go.RowKit Go.Maps Go.Sort Go.Shelf Go.MapKept
theorem sortsS_in (m:Nat):AnyZ.SortsIn Tryz.prog Tryz.sortedB_ren Fence.wide m:=
  ⟨fun blk off cap ss W hH hblk hsz=>callsIn_wide.2 (AnyM.slices_Sort_string Tryz.sortB blk off cap ss W hH hblk hsz),
   fun p cap W=>callsIn_wide.2 (AnyM.slices_Sort_string_none Tryz.sortB p cap W)⟩
theorem owns_keysS {h:Heap} {mb:Nat} {l:List (List UInt8 × Value)} (hm:MapT kvB h mb l) (hr:∀p∈l,p.1.length≤1000000000) (hl:l.length≤1000000000) {w:World} (hw:w.heap[mb]? = h[mb]?) :
  ∃(nn:Nat) (D:DataW Unit),w.ownsMap Tryz.prog 9 noElem mb nn D∧Maps.size D=l.length∧(strKeys D).Perm (l.map (·.1)):=by
 obtain ⟨es,cl,hb,he,hs⟩:=hm;have hlen:es.size=l.length:=by
  have:=congrArg List.length he;simpa using this
 have hrd:∀x∈es.toList,∃k∈l.map (·.1),x.key=kvB k∧WideElems.rd Tryz.prog 9 noElem x=some (.string k,.nil):=fun x hx=>by
  have h1:(x.key,x.val)∈es.toList.map fun e=>(e.key,e.val):=List.mem_map.2 ⟨x,hx,rfl⟩;rw [he] at h1;obtain ⟨p,hp,e⟩:=List.mem_map.1 h1;injection e with e1 e2;refine ⟨p.1,List.mem_map.2 ⟨p,hp,rfl⟩,e1.symm,?_⟩;unfold WideElems.rd;have hsz:(BA p.1).size≤maxLen:=by have:=hr p hp;rw [BA_size];simp only [maxLen];omega
  have hk:keyOf Tryz.prog 9 (.string (BA p.1))=some (.string (BA p.1).data.toList):=by simp [keyOf,Tryz.underlying9,mapKey,hsz]
  rw [←e1,kvB,hk];simp [noElem,BA]
 have hrg:es.toList.map (WideElems.rg Tryz.prog 9 noElem)=l.map fun p=>(Lit.string p.1,DataW.nil):=by
  have h1:es.toList.map (·.key)=l.map fun p=>kvB p.1:=by
   have:=congrArg (List.map Prod.fst) he;rw [List.map_map,List.map_map] at this;exact this
  have h2:∀(m:List MapEntry) (s:List (List UInt8 × Value)),m.map (·.key)=(s.map fun p=>kvB p.1)→(∀x∈m,∃k∈l.map (·.1),x.key=kvB k∧WideElems.rd Tryz.prog 9 noElem x=some (.string k,.nil))→m.map (WideElems.rg Tryz.prog 9 noElem)=s.map fun p=>(Lit.string p.1,DataW.nil):=by
   intro m;induction m with
   | nil=>intro s hs _;cases s with
    | nil=>rfl
    | cons a s=>simp at hs
   | cons x m ih=>
    intro s hs hx;cases s with
    | nil=>simp at hs
    | cons a s=>
     simp only [List.map_cons,List.cons.injEq] at hs⊢;obtain ⟨k,_,h3,h4⟩:=hx x List.mem_cons_self;have:a.1=k:=by
      have h5:=hs.1;rw [h3] at h5;exact (KV.ba.inj _ _ h5).symm
     subst this;refine ⟨?_,ih s hs.2 fun y hy=>hx y (List.mem_cons_of_mem _ hy)⟩;unfold WideElems.rg;rw [h4];rfl
  exact h2 _ _ h1 hrd
 refine ⟨es.size,_,⟨es,cl,hw.trans hb,⟨by show _≤9223372036854775807;omega,hs,fun x hx=>let ⟨k,_,_,h⟩:=hrd x hx;⟨_,h⟩⟩,Nat.le_refl _,rfl⟩,?_,?_⟩
 ·show (List.foldr DataW.insert [] _).length=_;rw [(sorted_perm _).length_eq,List.length_map];simpa using hlen
 ·show ((List.foldr DataW.insert [] _).map fun p=>strOf p.1).Perm (l.map (·.1));refine ((sorted_perm _).map _).trans ?_;rw [hrg,List.map_map];exact .of_eq rfl
theorem keysS_any {h:Heap} {mb:Nat} : HC Tryz.prog 173 #[.map (some mb)] h (fun v h'=>v=.func (.func 207) #[] #[ptr h.size]∧h'=h.push (.cells #[.map (some mb)] 103 (0,0))):=
 HC.of_calls ⟨_,Tryz.func173,by decide,rfl⟩ fun w hw=>(callsIn_wide.1 (AnyZ.keys_in Tryz.keysB Fence.wide 5 trivial rfl (some mb) w)).mono fun e w' ⟨h1,h2⟩=>by
  subst h2 hw;exact ⟨_,h1,(RowKit.Below.refl _ w).alloc (Nat.le_refl _) _,rfl,rfl⟩
theorem le_of_not {a b:List UInt8} (h:¬a≤b):b≤a:=by
 rcases list_tri a b with h1 | h1 | h1
 ·exact absurd (List.le_of_lt h1) h
 ·exact absurd (h1▸List.le_refl _) h
 ·exact List.le_of_lt h1
theorem sortedS_any {h:Heap} {mb:Nat} {l:List (List UInt8 × Value)} (hm:MapT kvB h mb l) (hr:∀p∈l,p.1.length≤1000000000) (hl:l.length≤1000000000) :
  HC Tryz.prog 172 #[.func (.func 207) #[] #[ptr h.size]] (h.push (.cells #[.map (some mb)] 103 (0,0)))
   (fun v h'=>∃S:List (List UInt8),S.Perm (l.map (·.1))∧S.Pairwise (·≤·)∧Own (h.push (.cells #[.map (some mb)] 103 (0,0))) h' 1 9 v (S.map kvB)):=
 HC.of_calls ⟨_,Tryz.func172,by decide,rfl⟩ fun w hw=>by
  have hsz:w.heap.size=h.size+1:=by rw [hw];simp
  obtain ⟨nn,D,hown,hD,hK⟩:=owns_keysS hm hr hl (w:=w) (by rw [hw,Array.getElem?_push,if_neg (by have:=hm.lt;omega)]);have hseq:SeqGives Fence.wide 2 Tryz.prog 207 #[.pointer (some ⟨h.size,0,none⟩)] encStr (fun ss=>ss.Perm (strKeys D)) (Maps.size D) w:=
   AnyZ.keys_gives (ρ:=Tryz.keysB_ren) { Tryz.keysB with } Fence.wide _ trivial rfl (by omega) h.size mb nn D w (by omega) (by rw [cell?_eq,hw];exact cell_of (push_same _ _) 0) hown
  have cS:=AnyZ.sorted_in Tryz.sortedB Fence.wide 5 trivial trivial trivial trivial rfl (by omega) (sortsS_in _) (enters_of Tryz.func206 (by kernel_rfl) rfl) 207 #[.pointer (some ⟨h.size,0,none⟩)] trivial (enters_of Tryz.func207 (by kernel_rfl) rfl) _ (Maps.size D) (by show _≤9223372036854775807;omega) (by omega) w hseq;refine (callsIn_wide.1 cS).mono fun e w' ⟨v,ss,h1,h2,h3,h4,h5⟩=>⟨v,h1,by rw [←hw];exact h5,ss.mergeSort (fun x y=>decide (x≤y)),?_,?_,?_⟩
  ·exact (List.mergeSort_perm _ _).trans (h2.trans hK)
  ·have:=List.pairwise_mergeSort (le:=fun x y:List UInt8=>decide (x≤y)) (fun a b c h1 h2=>by simp only [decide_eq_true_eq] at h1 h2⊢;exact List.le_trans h1 h2) (fun a b=>by
    by_cases h:a≤b
    ·simp [h]
    ·simp [le_of_not h]) ss
   exact this.imp fun h=>by simpa using h
  ·have hx:Ext w.heap w'.heap:=Ext.of_below rfl h5;rw [←hw];have hml:(ss.mergeSort fun x y=>decide (x≤y)).length=ss.length:=List.length_mergeSort _;rcases h3.2 with ⟨rfl,hz⟩ | ⟨g,cap,cur,rfl,hg,hgb,hnc,hcm,hcs,hct⟩
   ·have hs0:ss=[]:=List.length_eq_zero_iff.1 hz;subst hs0;rw [List.mergeSort_nil];exact Own.nil hx _ _
   ·refine ⟨⟨_,_,_,rfl,hnc,hcm,by simp,.inr ⟨g,0,cur,(0,0),rfl,hgb,by simp;omega,fzOk_zero _,?_⟩⟩,hx,fun b hb=>?_⟩
    ·rw [List.drop_zero];exact hct
    ·obtain ⟨o,n,c,e⟩:=hb;injection e with e;injection e with e;injection e with e;subst e;exact hg
end Go.Proofs.YtpeaicddbnghfaaGreat
namespace Go.HL
open Go
theorem RdL.ofCapN {h:Heap} {e:TypeId} {v:SV} {S:List (List UInt8)} (c:Cap h 1 e (sv v) (S.map kvB)):RdL h (blkC (sv v)) none_ v (S.map Nm.mk):=
 RdL.of_cap1 (f:=fun a:Nm=>kvB a.n) rfl (fun _ _ _=>rfl) (by simpa [Function.comp_def] using c)
theorem Cap.lenN {h:Heap} {e:TypeId} {a:Option Addr} {n c:Nat} {S:List (List UInt8)} (r:Cap h 1 e (.slice a n c) (S.map kvB)):n=S.length:=by
 have:=r.sl.cells.1;simp only [List.length_map,Nat.mul_one] at this;exact this.symm
end Go.HL
namespace Go.Proofs.YtpeaicddbnghfaaGreat
open Go Go.HL
theorem nodup_le {α:Type} [DecidableEq α]:∀ {l m:List α},l.Nodup→(∀x∈l,x∈m)→l.length≤m.length
 | [],_,_,_=>Nat.zero_le _
 | a::l,m,h,hs=>by
  have h1:=List.nodup_cons.1 h;have h2:=hs a List.mem_cons_self;have h3:=nodup_le (l:=l) (m:=m.erase a) h1.2 fun x hx=>(List.mem_erase_of_ne (a:=x) (b:=a) (fun e=>h1.1 (by rw [←e];exact hx))).2 (hs x (List.mem_cons_of_mem _ hx));rw [List.length_erase_of_mem h2] at h3;have:=List.length_pos_of_mem h2;simp only [List.length_cons];omega
theorem abs_get {r:RD} {n:List UInt8} : r.abs.fs n=(bget r.fs n).map RF.abs:=rfl
theorem names_few {r:RD} (hk:DkOk r.abs) (hcg:r.chg<1000000000) (hn:(r.fs.map (·.1)).Nodup):(∀p∈ents r.fs,p.1.length≤1000000000)∧(ents r.fs).length≤1000000000:=by
 obtain ⟨ks,h1,h2⟩:=hk.cnt;have hin:∀p∈r.fs,p.1∈ks∧p.1.length≤32:=fun p hp=>h2 p.1 p.2.abs (by rw [abs_get,bget_of hn (by exact hp)];rfl);refine ⟨fun p hp=>?_,?_⟩
 ·obtain ⟨q,hq,rfl⟩:=List.mem_map.1 hp;have:=(hin q hq).2;simp only;omega
 ·have h3:(r.fs.map (·.1)).length≤ks.length:=(nodup_le hn fun x hx=>by
   obtain ⟨p,hp,rfl⟩:=List.mem_map.1 hx;exact (hin p hp).1)
  have h4:(ks.length:Int)≤r.chg:=h1;simp [ents] at h3⊢;omega
theorem keys_of {r:RD} {S:List (List UInt8)} (hn:(r.fs.map (·.1)).Nodup) (hp:S.Perm ((ents r.fs).map (·.1))) (hs:S.Pairwise (·≤·)):Keys r.abs.fs S:=by
 rw [ents_keys] at hp;have hnd:S.Nodup:=hp.nodup_iff.2 hn;refine ⟨(hs.and hnd).imp fun {a b} h=>?_,fun n=>?_⟩
 ·rcases list_tri a b with h1 | h1 | h1
  ·exact h1
  ·exact absurd h1 h.2
  ·exact absurd (List.le_antisymm h.1 (List.le_of_lt h1)) h.2
 ·rw [hp.mem_iff,abs_get];constructor
  ·intro h;obtain ⟨p,hp,rfl⟩:=List.mem_map.1 h;rw [bget_of hn (by exact hp)];rfl
  ·intro h;cases hb:bget r.fs n with
   | none=>rw [hb] at h;cases h
   | some f=>exact List.mem_map.2 ⟨_,bget_mem hb,rfl⟩
theorem names_any {h:Heap} {d:Nat} {r:RD} {E:Nat→Prop} (ok:Hp h none_ [] [dskI d r,bysI E r.fs] h) (hk:DkOk r.abs) (hcg:r.chg<1000000000) :
  HC Tryz.prog 123 #[.pointer (some ⟨d,0,none⟩)] h (fun v h'=>∃S,Keys r.abs.fs S∧Own h h' 1 9 v (S.map kvB)):=by
 refine HC.go Tryz.func123 9 ?_;refine .seq<|.r<|.z .asS<|.nil ?_;refine .seq<|?_;obtain ⟨hd1,hd2,hd3,hd4⟩:=dsk_parts (ok.r0);obtain ⟨hkr,hkl⟩:=names_few hk hcg hd3;refine .r<|.z .mvP<|.z .nil<|.z (.fa T.fd105_0)<|.z (.ldx T.ag103 hd1)<|.c' 7 .func keysS_any ?_;rintro _ _ ⟨rfl,rfl⟩;have ok:=ok.ext (Ext.push _ (.cells #[.map (some r.m)] 103 (0,0)));refine .c' 8 .func (sortedS_any hd2 hkr hkl) ?_;rintro _ η1 ⟨S,hSp,hSs,own⟩;obtain ⟨aS,nS,cS,rfl⟩:=own.form3;have ok:=ok.own own;obtain rfl:nS=S.length:=Cap.lenN ok.m0;refine .z .asS<|.nil ?_;refine .ret ⟨.slice aS S.length cS,Res.one rfl rfl,⟨S,keys_of hd3 hSp hSs,ok.toOwn⟩⟩
end Go.Proofs.YtpeaicddbnghfaaGreat
namespace Go.HL
open Go Go.Proofs.YtpeaicddbnghfaaGreat
theorem Hp.frzN {h0 h:Heap} {D:Nat→Prop} {M R:List Itm} {e:TypeId} {x:SV} {S:List (List UInt8)} (ok:Hp h0 D (capI 1 e x (S.map kvB)::M) R h):Hp h0 D M (rdI (blkC (sv x)) none_ x (S.map Nm.mk)::R) h:=
 (ok.re (rdI (blkC (sv x)) none_ x (S.map Nm.mk)) (RdL.ofCapN ok.m0) fun _ hj=>hj.elim id fun f=>f.elim).frz
theorem RdL.b8 {h:Heap} {F E E':Nat→Prop} {x:SV} {l:List UInt8} (r:RdL h F E x l):RdL h F E' x l:=⟨r.n,r.c,r.m,fun hp=>r.at' hp⟩
end Go.HL
namespace Go.Proofs.YtpeaicddbnghfaaGreat
open Go Go.HL
theorem crC_t {b:List UInt8} {h:Bool} {c:Chn} {l:List Chn} {ks:List UInt8} {k:Nat} (hk:k=(ks.headD 0).toNat) (h1:(keptN c k).2=true) (h2:c.kind=0∨h=true):crC b h (c::l) ks=crC (doneN (keptN c k).1 b h).1 (doneN (keptN c k).1 b h).2 l ks.tail:=by
 subst hk;rw [crC];exact if_pos ⟨h1,h2⟩
theorem crC_f {b:List UInt8} {h:Bool} {c:Chn} {l:List Chn} {ks:List UInt8} {k:Nat} (hk:k=(ks.headD 0).toNat) (h1:¬((keptN c k).2=true∧(c.kind=0∨h=true))):crC b h (c::l) ks=crC b h l ks.tail:=by
 subst hk;rw [crC];exact if_neg h1
theorem kept_pre {c:Chn} {k:Nat} : (keptN c k).1.b <+: c.b:=by
 unfold keptN;split
 ·exact List.prefix_refl _
 ·split
  ·exact List.take_prefix _ _
  ·exact List.prefix_refl _
structure CrInv (fs0 fs:List UInt8→Option Fl) (S:List (List UInt8)) (k0 ks:List UInt8) (i:Nat):Prop where
 le:i≤S.length
 eq:crashL fs0 S k0=crashL fs (S.drop i) ks
 old:∀n∈S.drop i,fs n=fs0 n
theorem CrInv.step {fs0 fs:List UInt8→Option Fl} {S:List (List UInt8)} {k0 ks:List UInt8} {i:Nat} {f:Fl} (v:CrInv fs0 fs S k0 ks i) (hs:S.Pairwise (· < ·)) (hi:i<S.length) (hf:fs S[i]=some f):CrInv fs0 (put1 fs S[i] (crF f ks)) S k0 (ks.drop f.opn.length) (i+1):=by
 have h1:=v.eq;rw [List.drop_eq_getElem_cons hi,crashL,hf] at h1;refine ⟨hi,h1,fun n hn=>?_⟩;have h2:n≠S[i]:=fun e=>by
  subst e;obtain ⟨j,hj,e⟩:=List.mem_iff_getElem.1 hn;rw [List.getElem_drop] at e;have h3:=List.pairwise_iff_getElem.1 hs i (i+1+j) hi (by simp at hj;omega) (by omega);rw [e] at h3;exact absurd h3 (List.lt_irrefl _)
 rw [put1_ne h2];exact v.old n (by rw [List.drop_eq_getElem_cons hi];exact List.mem_cons_of_mem _ hn)
theorem CrInv.has {fs0 fs:List UInt8→Option Fl} {S:List (List UInt8)} {k0 ks:List UInt8} {i:Nat} (v:CrInv fs0 fs S k0 ks i) (hK:Keys fs0 S) (hi:i<S.length):∃f,fs S[i]=some f:=by
 rw [v.old _ (by rw [List.drop_eq_getElem_cons hi];exact List.mem_cons_self)];have:=(hK.iff S[i]).1 (List.getElem_mem hi);cases h:fs0 S[i] with
 | none=>rw [h] at this;cases this
 | some f=>exact ⟨f,rfl⟩
theorem DkOk.crf {d:Dk} {n:List UInt8} {f:Fl} {ks:List UInt8} (k:DkOk d) (hf:d.fs n=some f):DkOk ⟨put1 d.fs n (crF f ks),d.dark,d.left,d.chg⟩:=by
 have h0:=k.chg;refine ⟨fun m g h=>?_,k.chg,k.left,let ⟨ks,h1,h2⟩:=k.cnt;⟨ks,h1,fun m g h=>?_⟩⟩
 ·simp only [put1] at h;split at h
  ·have h1:=crF_ok (k.fs n f hf).1 h;exact ⟨h1.1,by rw [h1.2];simpa using h0⟩
  ·exact k.fs m g h
 ·simp only [put1] at h;split at h
  ·rename_i e;subst e;exact h2 _ _ hf
  ·exact h2 m g h
theorem opn_drop {f:RF} {k:Nat} (h:k<f.ol.length):f.abs.opn.drop k=⟨f.ol[k].kind,f.ol[k].pos,f.ol[k].bl⟩::f.abs.opn.drop (k+1):=by
 rw [show f.abs.opn=f.ol.map RC.abs from rfl,List.drop_eq_getElem_cons (by simpa using h),List.getElem_map];rfl
def nowR (f:RF) (xa:Option Addr) (xc:Nat) (xl:List UInt8) (hh:Bool):RF:=⟨f.blk,xa,xc,xl,f.sa,f.sc,f.sl,hh,f.was,f.oa,f.oc,f.ol⟩
theorem cr_abs {rc:RD} {n:List UInt8} {f:RF} {xa:Option Addr} {xc:Nat} {xl kl:List UInt8} {hh:Bool} (hcr:crC f.sl f.was f.abs.opn kl=(xl,hh)):(settleR ⟨rc.m,bput rc.fs n (nowR f xa xc xl hh),rc.dark,rc.left,rc.chg⟩ n (nowR f xa xc xl hh)).abs=⟨put1 rc.abs.fs n (crF f.abs kl),rc.dark,rc.left,rc.chg⟩:=by
 rw [settleR_abs];congr 1;funext m;by_cases hm:m=n
 ·subst hm;rw [put1_at,put1_at];unfold crF settleF;rw [show f.abs.safe=f.sl from rfl,show f.abs.was=f.was from rfl,hcr];rfl
 ·rw [put1_ne hm,put1_ne hm,abs_get,abs_get,bget_put,if_neg hm]
theorem cr_close {h0 h:Heap} {D Ec Ex:Nat→Prop} {M R:List Itm} {K:Itm} {d:Nat} {rc:RD} {n:List UInt8} {f:RF} {xa:Option Addr} {xc:Nat} {xl:List UInt8} {hh:Bool} (hn:(rc.fs.map (·.1)).Nodup) (hg:bget rc.fs n=some f)
  (ok:Hp h0 D (boxI f.blk 127 [.slice xa xl.length xc,.slice f.sa f.sl.length f.sc,.bool hh,.bool f.was,.slice f.oa f.ol.length f.oc]::fopnI f::flsI (bdel rc.fs n)::dboxI d rc::mapI kvB rc.m (ents rc.fs)::M) (rdI Ex none_ (xa,xl.length,xc) xl::K::byfI Ec f::bysI Ec rc.fs::R) h) :
  Hp h0 D (dskI d ⟨rc.m,bput rc.fs n (nowR f xa xc xl hh),rc.dark,rc.left,rc.chg⟩::M) (bysI (fun j=>Ec j∨Ex j) (bput rc.fs n (nowR f xa xc xl hh))::K::R) h:=by
 have o2:=Hp.fcls (n:=n) (f:=nowR f xa xc xl hh) hn ok;have o3:=Hp.dcls (r:=⟨rc.m,bput rc.fs n (nowR f xa xc xl hh),rc.dark,rc.left,rc.chg⟩) (d:=d) (M:=M) (by
  have o4:=o2.n2.n2;simp only;rw [ents_same hg (by rfl)];exact o4)
 have hby:Bys h (fun j=>Ec j∨Ex j) (bput rc.fs n (nowR f xa xc xl hh)):=Bys.put (Bys.mono (fun _ h=>.inl h) o3.r3) ⟨RdL.mono (fun _ h=>.inr h) (fun _ f=>f.elim) o3.r0,RdL.mono (fun _ h=>.inl h) (fun _ h=>.inl h) o3.r2.safe,fun x hx=>RdL.mono (fun _ h=>.inl h) (fun _ h=>.inl h) (o3.r2.opn x hx)⟩;exact (o3.or (r:=rdI Ex none_ (xa,xl.length,xc) xl) (r':=bysI Ec rc.fs) (by simp) (by simp) (bysI (fun j=>Ec j∨Ex j) (bput rc.fs n (nowR f xa xc xl hh))) hby (fun j hj=>hj.elim .inr fun h=>.inl (.inl h))).sub (by
  intro i hi;simp only [List.mem_cons] at hi⊢;rcases hi with h | h | h
  ·exact .inl h
  ·exact .inr (.inr (.inl h))
  ·exact .inr (.inr (.inr (.inr (.inr h)))))
theorem crash_any {h:Heap} {d:Nat} {r:RD} {E F2 E2:Nat→Prop} {a:Option Addr} {c:Nat} {l:List UInt8} (ok:Hp h (dskI d r).F [dskI d r] [bysI E r.fs,rdI F2 E2 (a,l.length,c) l] h) (hk:DkOk r.abs) (hcg:r.chg<1000000000) :
  HC Tryz.prog 58 #[.pointer (some ⟨d,0,none⟩),.slice a l.length c] h (fun v h'=>∃S r' E',v=.tuple #[]∧Keys r.abs.fs S∧r'.abs=crashN r.abs S l∧DUp h h' d r r' E E'):=by
 refine HC.go Tryz.func58 107 ?_;refine .seq<|.seq<|.r<|.z .mvP<|.z (.pEqS T.pt30)<|.nil ?_;refine .cf<|.skip<|.seq<|.seq<|.r<|.z .mvP<|.c' 15 .func (names_any (d:=d) (r:=r) (E:=E) ((ok).rdo) hk hcg) ?_;rintro _ η1 ⟨S,hKS,own⟩;obtain ⟨aS,nS,cS,rfl⟩:=own.form3;have ok:=ok.own own;obtain rfl:nS=S.length:=Cap.lenN ok.m0;have ok:=ok.frzN;have hSc:S.length≤cS:=ok.r0.c;have hSm:cS≤9223372036854775807:=ok.r0.m;generalize hFS:blkC (sv (aS,S.length,cS))=FS at ok;refine .z (.len T.el172)<|.z .mvI<|.nil ?_;refine .block fun K0 hK0=>.loop (fun m s hh=>∃(i:Nat) (rc:RD) (Ec:Nat→Prop) (ka:Option Addr) (kc:Nat) (kl:List UInt8),Has s [(0,.pointer (some ⟨d,0,none⟩)),(1,.slice ka kl.length kc),(15,.slice aS S.length cS),(16,.int .i64 (S.length:Int)),(17,.int .i64 (i:Int))]∧Hp h (dskI d r).F [dskI d rc] [rdI F2 E2 (ka,kl.length,kc) kl,bysI Ec rc.fs,rdI FS none_ (aS,S.length,cS) (S.map Nm.mk)] hh∧CrInv r.abs.fs rc.abs.fs S l kl i∧DkOk rc.abs∧rc.chg=r.chg∧(∀j,Ec j→E j∨h.size≤j)∧m=S.length-i) ?_ ?_
 ·exact ⟨_,0,r,E,a,c,l,⟨rfl,rfl,rfl,rfl,rfl,trivial⟩,ok.f1.f2,⟨Nat.zero_le _,rfl,fun _ _=>rfl⟩,hk,rfl,fun _ h=>.inl h,rfl⟩
 rintro _ _ η2 ⟨i,rc,Ec,ka,kc,kl,hs,ok,hv,hkc,hch,hEc,rfl⟩ J0 hJ0;refine .frame hs fun τ=>?_;refine .seq<|.r<|.z .lss<|.nil ?_;refine .seq<|.cdr (fun C1=>?_) (fun C1=>?_)
 ·
  refine .exit<|hK0 _ _<|?_;have ok:=(ok).dopn;refine .r<|.z .mvP<|.z .mvP<|.z .nil<|.z (.fa T.fd105_1)<|.ur' (.stB T.sz4 ok) ?_;rintro η3 ⟨ok,cg⟩;refine .z .nil<|.z (.fa T.fd105_2)<|.ur' (.stI T.sz3 ok) ?_;rintro η4 ⟨ok,cg⟩;refine .nil ?_;refine .end<|⟨.tuple #[],Res.none rfl,⟨S,⟨rc.m,rc.fs,false,-1,rc.chg⟩,Ec,rfl,hKS,by unfold crashN;rw [hv.eq,List.drop_eq_nil_of_le (by omega),crashL,show r.abs.chg=r.chg from rfl,←hch];rfl,(Hp.dcls (r:=⟨rc.m,rc.fs,false,-1,rc.chg⟩) (ok.n2.n2.n2).f2.f1.f2).up hEc⟩⟩
 refine .skip<|.seq<|.block fun K1 hK1=>.seq<|?_;have hiS:i<S.length:=by omega
 refine .r<|?_;obtain ⟨bb1,oo1,rfl,fb1⟩:=ok.r2.pos (by first | omega | (simp;omega));refine .z (.ix1 i T.el172 T.sz9)<|.z (.ld T.ag9 (ok.r2.nm (i:=i) (by omega)))<|.z .asT<|.nil ?_;refine .seq<|?_;obtain ⟨fa,hfa⟩:=hv.has hKS hiS;obtain ⟨f,hg,hfe⟩:∃f,bget rc.fs S[i]=some f∧f.abs=fa:=by (rw [abs_get] at hfa;cases hb:bget rc.fs S[i] with | none=>(rw [hb] at hfa;cases hfa) | some f=>exact ⟨f,rfl,by rw [hb] at hfa;exact Option.some.inj hfa⟩)
 subst hfe;have hfo:FlOk f.abs:=(hkc.fs _ _ hfa).1;have hol9:(f.ol.length:Int)≤rc.chg:=by have h9:=(hkc.fs _ _ hfa).2;simpa [RF.abs] using (show _≤rc.chg from h9)
 obtain ⟨hd1,hd2,hd3,hd4⟩:=dsk_parts (ok.m0);refine .r<|.z .mvP<|.z .nil<|.z (.fa T.fd105_0)<|.z (.ldx T.ag103 hd1)<|.z .mvT<|.z (.lk KV.ba (S[i]) (v:=.pointer (some ⟨f.blk,0,none⟩)) T.mp103 (stB_iff T.st9) T.zr123 hd2 (by rw [ents_get,hg];rfl))<|.z .asP<|.nil ?_;refine .seq<|.join (fun s hh=>Has s [(0,.pointer (some ⟨d,0,none⟩)),(1,.slice ka kl.length kc),(5,.string (BA (S[i]))),(6,.pointer (some ⟨f.blk,0,none⟩)),(15,.slice (some ⟨bb1,oo1,none⟩) S.length cS),(16,.int .i64 (S.length:Int)),(17,.int .i64 (i:Int))]∧Hp h (dskI d r).F [boxI f.blk 127 [.slice f.sa f.sl.length f.sc,.slice f.sa f.sl.length f.sc,.bool f.was,.bool f.was,.slice f.oa f.ol.length f.oc],capI 3 175 (f.oa,f.ol.length,f.oc) (f.ol.flatMap RC.cells),flsI (bdel rc.fs S[i]),boxI d 105 [.map (some rc.m),.bool rc.dark,.int .i64 rc.left,.int .i64 rc.chg],mapI kvB rc.m (ents rc.fs)] [byfI Ec f,rdI F2 E2 (ka,kl.length,kc) kl,bysI Ec rc.fs,rdI FS none_ (some ⟨bb1,oo1,none⟩,S.length,cS) (S.map Nm.mk)] hh) ?_ ?_
 ·
  have hnd:(rc.fs.map (·.1)).Nodup:=hd3;have ok:=(ok).dopn;have ok:=Hp.fopn hnd hg ok.n2;have ok:=ok.d1 (byfI Ec f) (Bys.get ok.r1 hg) (fun _ h=>h);refine .a 12 (fun fl hh=>cond fl True (cell hh f.blk 1=some (.slice f.sa f.sl.length f.sc)∧cell hh f.blk 3=some (.bool f.was))) mixed ?_;have hS:=(And.intro (box_cell (o:=1) (v:=.slice f.sa f.sl.length f.sc) ok.m0 rfl) (box_cell (o:=3) (v:=.bool f.was) ok.m0 rfl));refine .g 0 false rfl 27 hS (fun _=>.mvP)<|.g 1 false rfl 28 hS (fun _=>.mvP)<|.g 2 false rfl 29 hS (fun _=>.mvP)<|.g 3 false rfl 30 hS (fun _=>.nil)<|.g 4 false rfl 31 hS (fun _=>.fa T.fd127_1)<|.l 5 false rfl 32 hS (fun _ hS=>.ld T.ag22 hS.1)<|.g 6 false rfl 33 hS (fun _=>.mvP)<|.g 7 false rfl 34 hS (fun _=>.nil)<|.g 8 false rfl 35 hS (fun _=>.fa T.fd127_3)<|.l 9 false rfl 36 hS (fun _ hS=>.ld T.ag4 hS.2)<|.g 10 false rfl 37 hS (fun _=>.nil)<|.g 11 false rfl 38 hS (fun _=>.fa T.fd127_0)<|.o1 12<|.ur' true rfl (.stS T.sz22 ok) ?_;rintro η5 ⟨ok,cg⟩;refine ⟨trivial,?_⟩;refine .g 13 true rfl 39 trivial (fun _=>.nil)<|.g 14 true rfl 40 trivial (fun _=>.fa T.fd127_2)<|.o1 15<|.ur' true rfl (.stB T.sz4 ok) ?_;rintro η6 ⟨ok,cg⟩;refine ⟨trivial,?_⟩;refine .e ?_;refine .end<|⟨⟨rfl,rfl,rfl,rfl,rfl,rfl,rfl,trivial⟩,ok.n4.n4.n4.n4.n4⟩
 rintro s η7 ⟨hs,ok⟩;refine .frame hs fun τ=>?_;refine .seq<|.seq<|?_;have ok:=ok.d0 (rdI Ec none_ (f.sa,f.sl.length,f.sc) f.sl) (ok.r0).safe.b8 (fun _ h=>h.elim id (fun f=>f.elim));obtain ⟨oa,hoa⟩:∃oa,f.oa=oa:=⟨_,rfl⟩;rw [hoa] at ok;refine .r<|.z .mvP<|.z .nil<|.z (.fa T.fd127_4)<|.z (.ldx T.ag125 ok.m0)<|.z (.len T.el125)<|.z .mvI<|.nil ?_;refine .block fun K2 hK2=>.loop (fun m s hh=>∃(k:Nat) (xa:Option Addr) (xc:Nat) (xl:List UInt8) (hh0:Bool) (Ex:Nat→Prop) (kb:Option Addr) (kd:Nat) (km:List UInt8),Has s [(0,.pointer (some ⟨d,0,none⟩)),(1,.slice kb km.length kd),(5,.string (BA (S[i]))),(6,.pointer (some ⟨f.blk,0,none⟩)),(15,.slice (some ⟨bb1,oo1,none⟩) S.length cS),(16,.int .i64 (S.length:Int)),(17,.int .i64 (i:Int)),(44,.slice oa f.ol.length f.oc),(45,.int .i64 (f.ol.length:Int)),(46,.int .i64 (k:Int))]∧Hp h (dskI d r).F [boxI f.blk 127 [.slice xa xl.length xc,.slice f.sa f.sl.length f.sc,.bool hh0,.bool f.was,.slice oa f.ol.length f.oc],capI 3 175 (oa,f.ol.length,f.oc) (f.ol.flatMap RC.cells),flsI (bdel rc.fs S[i]),boxI d 105 [.map (some rc.m),.bool rc.dark,.int .i64 rc.left,.int .i64 rc.chg],mapI kvB rc.m (ents rc.fs)] [rdI Ex none_ (xa,xl.length,xc) xl,rdI F2 E2 (kb,km.length,kd) km,byfI Ec f,bysI Ec rc.fs,rdI FS none_ (some ⟨bb1,oo1,none⟩,S.length,cS) (S.map Nm.mk)] hh∧k≤f.ol.length∧crC f.sl f.was f.abs.opn kl=crC xl hh0 (f.abs.opn.drop k) km∧km=kl.drop k∧xl.length≤16777216∧(∀j,Ex j→E j∨h.size≤j)∧m=f.ol.length-k) ?_ ?_
 ·exact ⟨_,0,f.sa,f.sc,f.sl,f.was,Ec,ka,kc,kl,⟨rfl,rfl,rfl,rfl,rfl,rfl,rfl,rfl,rfl,rfl,trivial⟩,ok.f4.f4.f3.f4.f4,Nat.zero_le _,rfl,rfl,hfo.safe,hEc,rfl⟩
 rintro _ _ η8 ⟨k,xa,xc,xl,hh0,Ex,kb,kd,km,hs,ok,hkf,hcr,hkm,hxl,hEx,rfl⟩ J1 hJ1;refine .frame hs fun τ=>?_;refine .seq<|.r<|.z .lss<|.nil ?_;refine .seq<|.cdr (fun C2=>?_) (fun C2=>?_)
 ·
  refine .exit<|hK2 _ _<|?_;have hkL:k=f.ol.length:=by omega
  have hcr2:crC f.sl f.was f.abs.opn kl=(xl,hh0):=by rw [hcr,List.drop_eq_nil_of_le (by rw [hkL];simp [RF.abs]),crC]
  obtain ⟨rn,hrn⟩:∃rn:RD,rn=⟨rc.m,bput rc.fs S[i] (nowR f xa xc xl hh0),rc.dark,rc.left,rc.chg⟩:=⟨_,rfl⟩;have hg2:bget rn.fs S[i]=some (nowR f xa xc xl hh0):=by rw [hrn];simp only;rw [bget_put,if_pos rfl]
  rw [←hoa] at ok;have ok:=cr_close hd3 hg ok;have ok:Hp h (dskI d r).F [dskI d rn] [bysI (fun j=>Ec j∨Ex j) rn.fs,rdI F2 E2 (kb,km.length,kd) km,rdI FS none_ (some ⟨bb1,oo1,none⟩,S.length,cS) (S.map Nm.mk)] η8:=by rw [hrn];exact ok
  refine .r<|.z .mvP<|.z .mvT<|.z .mvP<|.c' 99 .func (settle_any (d:=d) (r:=rn) (E:=fun j=>Ec j∨Ex j) (f:=(nowR f xa xc xl hh0)) (ok).loc1 hg2) ?_;rintro _ η9 ⟨rfl,q⟩;have ok:=(ok).dsk (d:=d) (r:=rn) (r':=(settleR rn S[i] (nowR f xa xc xl hh0))) (E':=fun j=>Ec j∨Ex j) ⟨q,fun _ h=>.inl h⟩;refine .nil ?_;refine .end<|hK1 _ _<|?_;have hqa:(settleR rn S[i] (nowR f xa xc xl hh0)).abs=⟨put1 rc.abs.fs S[i] (crF f.abs kl),rc.dark,rc.left,rc.chg⟩:=by rw [hrn];exact cr_abs hcr2
  generalize hrq:settleR rn S[i] (nowR f xa xc xl hh0)=rq at ok hqa;refine .r<|.z (.addI (b:=1))<|.z .mvI<|.nil ?_;refine .end<|hJ0 _ _ _ ⟨i+1,rq,(fun j=>Ec j∨Ex j),kb,kd,km,⟨rfl,rfl,rfl,rfl,rfl,trivial⟩,(ok).f2.f1.f2,by rw [hqa,hkm,hkL,show f.ol.length=f.abs.opn.length from by simp [RF.abs]];exact hv.step hKS.up hiS hfa,by rw [hqa];exact hkc.crf hfa,by rw [show rq.chg=rq.abs.chg from rfl,hqa];exact hch,fun j hj=>hj.elim (hEc j) (hEx j),rfl⟩ (by omega)
 have hkL:k<f.ol.length:=by omega
 have hco:ChOk f.ol[k].abs:=hfo.opn _ (List.mem_map.2 ⟨_,List.getElem_mem hkL,rfl⟩);have hbl:f.ol[k].pos+f.ol[k].bl.length≤16777216:=hco.fit;refine .skip<|.seq<|.block fun K3 hK3=>.seq<|.r<|?_;obtain ⟨bb2,oo2,rfl,fb2⟩:=ok.m1.pos (n:=f.ol.length) (by first | omega | (simp;omega));refine .z (.ix k T.el125 T.sz175)<|.z (.ldc (vs:=RC.cells f.ol[k]) T.ag175 (sl_ats RC.cells_len (ok.m1).sl (i:=k) (by omega)) T.sz175)<|.a' 8 (.alA T.zr175 ok) ?_;rintro _ η10 ⟨pb1,rfl,ok,xe⟩;refine .ur' (.stW (vs:=[.int .i64 (f.ol[k].kind:Int),.int .i64 (f.ol[k].pos:Int),.slice (f.ol[k].ba) (f.ol[k].bl.length) (f.ol[k].bc)]) T.sz175 ok (oneL rfl)) ?_;rintro η11 ⟨ok,cg⟩;refine .nil ?_;refine .seq<|.r<|.z .asI<|.nil ?_;refine .seq<|.seq<|.r<|.z .mvS<|.z (.len T.el22)<|.z .gtr<|.nil ?_;refine .join (fun s hh=>∃(by0:Nat) (ka2:Option Addr) (kc2:Nat),Has s [(0,.pointer (some ⟨d,0,none⟩)),(1,.slice ka2 km.tail.length kc2),(5,.string (BA (S[i]))),(6,.pointer (some ⟨f.blk,0,none⟩)),(8,.pointer (some ⟨pb1,0,none⟩)),(9,.int .u8 (by0:Int)),(15,.slice (some ⟨bb1,oo1,none⟩) S.length cS),(16,.int .i64 (S.length:Int)),(17,.int .i64 (i:Int)),(44,.slice (some ⟨bb2,oo2,none⟩) f.ol.length f.oc),(45,.int .i64 (f.ol.length:Int)),(46,.int .i64 (k:Int))]∧Hp h (dskI d r).F [boxI pb1 175 [.int .i64 (f.ol[k].kind:Int),.int .i64 (f.ol[k].pos:Int),.slice (f.ol[k].ba) (f.ol[k].bl.length) (f.ol[k].bc)],boxI f.blk 127 [.slice xa xl.length xc,.slice f.sa f.sl.length f.sc,.bool hh0,.bool f.was,.slice (some ⟨bb2,oo2,none⟩) f.ol.length f.oc],capI 3 175 (some ⟨bb2,oo2,none⟩,f.ol.length,f.oc) (f.ol.flatMap RC.cells),flsI (bdel rc.fs S[i]),boxI d 105 [.map (some rc.m),.bool rc.dark,.int .i64 rc.left,.int .i64 rc.chg],mapI kvB rc.m (ents rc.fs)] [rdI F2 E2 (ka2,km.tail.length,kc2) km.tail,rdI Ex none_ (xa,xl.length,xc) xl,byfI Ec f,bysI Ec rc.fs,rdI FS none_ (some ⟨bb1,oo1,none⟩,S.length,cS) (S.map Nm.mk)] hh∧by0=(km.headD 0).toNat) ?_ ?_
 ·
  refine .cd (fun C3=>?_) (fun C3=>?_)
  ·
   have hk1:0<km.length:=by omega
   refine .q (hm:=mixed)<|.z .mvS<|?_;obtain ⟨bb3,oo3,rfl,fb3⟩:=ok.r1.pos (by first | omega | (simp;omega));refine .z (.ix1 0 T.el22 T.sz5)<|.z (.ld T.ag5 (ok.r1.u8 (i:=0) (by omega)))<|.z .mvS<|.z (.sll 1 T.el22 T.sz5)<|?_;generalize hc1:cutA (some ⟨bb3,oo3,none⟩) 1 kd 1=ca1;generalize hn1:km.length-1=cn1;obtain rfl:cn1=(km.tail).length:=by rw [←hn1];simp
   have ok:=ok.d1 (rdI F2 E2 (ca1,(km.tail).length,kd-1) km.tail) (by have h1:=ok.r1.cut (i:=1) (j:=km.length) (by omega) (by omega);rw [show ((km).drop 1).take (km.length-1)=km.tail from by cases km<;>simp] at h1;rw [←hc1,←hn1];exact h1) (fun _ h=>h);refine .z .asI<|.z .asS<|.nil ?_;refine .end<|⟨(km[0].toNat),ca1,kd-1,⟨rfl,rfl,rfl,rfl,rfl,rfl,rfl,rfl,rfl,rfl,rfl,rfl,trivial⟩,ok.f5.f5.f5.f4.f4.e5,by cases km with | nil=>(simp at hk1) | cons x y=>rfl⟩
  have hk0:km=[]:=List.eq_nil_of_length_eq_zero (by omega);have ok:=ok.d1 (rdI F2 E2 (kb,km.tail.length,kd) km.tail) (by have h9:=ok.r1;rw [hk0] at h9⊢;exact h9) (fun _ h=>h);rw [show km.length=km.tail.length from by rw [hk0];rfl];refine .skip<|.end<|⟨0,kb,kd,⟨rfl,rfl,rfl,rfl,rfl,rfl,rfl,rfl,rfl,rfl,rfl,rfl,trivial⟩,ok.f5.f5.f5.f4.f4.e5,by rw [hk0];rfl⟩
 rintro s η12 ⟨by0,ka2,kc2,hs,ok,hby0⟩;refine .frame hs fun τ=>?_;refine .seq<|?_;have hb256:by0<256:=by rw [hby0];exact UInt8.toNat_lt _
 have ok:=ok.d2 (rdI Ec Ec (f.ol[k].ba,f.ol[k].bl.length,f.ol[k].bc) f.ol[k].bl) ((ok.r2).opn _ (List.getElem_mem hkL)) (fun _ h=>h.elim id id);have hbc:f.ol[k].bl.length≤f.ol[k].bc:=ok.r0.c;refine .r<|.z (.ldb T.ag175 ok.m0 T.sz175)<|.z .mvI<|.c' 61 .func (kept_any (kind:=f.ol[k].kind) (pos:=f.ol[k].pos) (k:=by0) (ba:=f.ol[k].ba) (bc:=f.ol[k].bc) (bl:=f.ol[k].bl) (by omega) (by omega) (by omega)) ?_;rintro _ η13 ⟨rfl,hx⟩;have ok:=ok.ext hx;refine .z .mvU<|.z .ex<|.z .ex<|.a' 10 (.alA T.zr175 ok) ?_;rintro _ η14 ⟨pb2,rfl,ok,xe⟩;refine .ur' (.stW (vs:=[.int .i64 ((keptN ⟨f.ol[k].kind,f.ol[k].pos,f.ol[k].bl⟩ by0).1.kind:Int),.int .i64 ((keptN ⟨f.ol[k].kind,f.ol[k].pos,f.ol[k].bl⟩ by0).1.pos:Int),.slice (f.ol[k].ba) ((keptN ⟨f.ol[k].kind,f.ol[k].pos,f.ol[k].bl⟩ by0).1.b.length) (f.ol[k].bc)]) T.sz175 ok (oneL rfl)) ?_;rintro η15 ⟨ok,cg⟩;refine .z .asB<|.nil ?_;refine .seq<|.r<|.z .mvB<|.z .mvB<|.spl (fun G65=>?_) (fun G65=>?_)
 ·
  refine .z (.fa T.fd175_0)<|.z (.ldx T.ag3 ok.m1)<|.z .eql<|.z .mvB<|.sd (fun G69=>?_) (fun G69=>?_)
  ·
   refine .y<|.y<|.y<|.y<|.z .pkt<|.z .pkt<|.nil ?_;refine .join (fun s hh=>∃(xa2:Option Addr) (xc2:Nat) (xl2:List UInt8) (hh2:Bool) (Ex2:Nat→Prop),Has s [(0,.pointer (some ⟨d,0,none⟩)),(1,.slice ka2 km.tail.length kc2),(5,.string (BA (S[i]))),(6,.pointer (some ⟨f.blk,0,none⟩)),(15,.slice (some ⟨bb1,oo1,none⟩) S.length cS),(16,.int .i64 (S.length:Int)),(17,.int .i64 (i:Int)),(44,.slice (some ⟨bb2,oo2,none⟩) f.ol.length f.oc),(45,.int .i64 (f.ol.length:Int)),(46,.int .i64 (k:Int))]∧Hp h (dskI d r).F [boxI f.blk 127 [.slice xa2 xl2.length xc2,.slice f.sa f.sl.length f.sc,.bool hh2,.bool f.was,.slice (some ⟨bb2,oo2,none⟩) f.ol.length f.oc],capI 3 175 (some ⟨bb2,oo2,none⟩,f.ol.length,f.oc) (f.ol.flatMap RC.cells),flsI (bdel rc.fs S[i]),boxI d 105 [.map (some rc.m),.bool rc.dark,.int .i64 rc.left,.int .i64 rc.chg],mapI kvB rc.m (ents rc.fs)] [rdI Ex2 none_ (xa2,xl2.length,xc2) xl2,rdI F2 E2 (ka2,km.tail.length,kc2) km.tail,byfI Ec f,bysI Ec rc.fs,rdI FS none_ (some ⟨bb1,oo1,none⟩,S.length,cS) (S.map Nm.mk)] hh∧crC xl hh0 (f.abs.opn.drop k) km=crC xl2 hh2 (f.abs.opn.drop (k+1)) km.tail∧xl2.length≤16777216∧(∀j,Ex2 j→E j∨h.size≤j)) ?_ ?_
   ·
    refine .ct<|?_;have hkp:=(keptN_ok (k:=by0) hco).fit;have hkp:(keptN ⟨f.ol[k].kind,f.ol[k].pos,f.ol[k].bl⟩ by0).1.pos+(keptN ⟨f.ol[k].kind,f.ol[k].pos,f.ol[k].bl⟩ by0).1.b.length≤16777216:=hkp;have ok:=ok.d0 (rdI Ec Ec (f.ol[k].ba,(keptN ⟨f.ol[k].kind,f.ol[k].pos,f.ol[k].bl⟩ by0).1.b.length,f.ol[k].bc) (keptN ⟨f.ol[k].kind,f.ol[k].pos,f.ol[k].bl⟩ by0).1.b) ((ok.r0).pre kept_pre) (fun _ h=>h);refine .a 11 (fun fl hh=>cond fl True (Hp h (dskI d r).F [boxI pb2 175 [.int .i64 ((keptN ⟨f.ol[k].kind,f.ol[k].pos,f.ol[k].bl⟩ by0).1.kind:Int),.int .i64 ((keptN ⟨f.ol[k].kind,f.ol[k].pos,f.ol[k].bl⟩ by0).1.pos:Int),.slice (f.ol[k].ba) ((keptN ⟨f.ol[k].kind,f.ol[k].pos,f.ol[k].bl⟩ by0).1.b.length) (f.ol[k].bc)],boxI pb1 175 [.int .i64 (f.ol[k].kind:Int),.int .i64 (f.ol[k].pos:Int),.slice (f.ol[k].ba) (f.ol[k].bl.length) (f.ol[k].bc)],boxI f.blk 127 [.slice xa xl.length xc,.slice f.sa f.sl.length f.sc,.bool hh0,.bool f.was,.slice (some ⟨bb2,oo2,none⟩) f.ol.length f.oc],capI 3 175 (some ⟨bb2,oo2,none⟩,f.ol.length,f.oc) (f.ol.flatMap RC.cells),flsI (bdel rc.fs S[i]),boxI d 105 [.map (some rc.m),.bool rc.dark,.int .i64 rc.left,.int .i64 rc.chg],mapI kvB rc.m (ents rc.fs)] [rdI Ec Ec (f.ol[k].ba,(keptN ⟨f.ol[k].kind,f.ol[k].pos,f.ol[k].bl⟩ by0).1.b.length,f.ol[k].bc) ((keptN ⟨f.ol[k].kind,f.ol[k].pos,f.ol[k].bl⟩ by0).1.b),rdI Ec Ec (f.ol[k].ba,f.ol[k].bl.length,f.ol[k].bc) (f.ol[k].bl),rdI F2 E2 (ka2,km.tail.length,kc2) km.tail,rdI Ex none_ (xa,xl.length,xc) xl,byfI Ec f,bysI Ec rc.fs,rdI FS none_ (some ⟨bb1,oo1,none⟩,S.length,cS) (S.map Nm.mk)] hh)) mixed ?_;have hS:=ok;refine .g 0 false rfl 77 hS (fun _=>.mvP)<|.g 1 false rfl 78 hS (fun _=>.mvP)<|.l 2 false rfl 79 hS (fun _ hS=>.ldb T.ag175 hS.m0 T.sz175)<|.g 3 false rfl 80 hS (fun _=>.mvP)<|.g 4 false rfl 81 hS (fun _=>.nil)<|.g 5 false rfl 82 hS (fun _=>.fa T.fd127_0)<|.l 6 false rfl 83 hS (fun _ hS=>.ldx T.ag22 hS.m2)<|.g 7 false rfl 84 hS (fun _=>.mvP)<|.g 8 false rfl 85 hS (fun _=>.nil)<|.g 9 false rfl 86 hS (fun _=>.fa T.fd127_2)<|.l 10 false rfl 87 hS (fun _ hS=>.ldx T.ag4 hS.m2)<|.o1 11<|.c' true rfl 88 .func (done_any (kind:=(keptN ⟨f.ol[k].kind,f.ol[k].pos,f.ol[k].bl⟩ by0).1.kind) (pos:=(keptN ⟨f.ol[k].kind,f.ol[k].pos,f.ol[k].bl⟩ by0).1.pos) (ba:=f.ol[k].ba) (bc:=f.ol[k].bc) (bl:=(keptN ⟨f.ol[k].kind,f.ol[k].pos,f.ol[k].bl⟩ by0).1.b) (a:=xa) (c:=xc) (l:=xl) (here:=hh0) ok.r0 ok.r3 (by omega) (by omega)) ?_;rintro _ η16 ⟨_,rfl,own⟩;obtain ⟨ya1,yc1,rfl⟩:=own.formB;have hyf:=fun j hj=>Nat.le_trans ok.chg.size (own.fresh j hj);have ok:=ok.own own;refine ⟨trivial,?_⟩;refine .g 12 true rfl 76 trivial (fun _=>.mvU)<|.g 13 true rfl 89 trivial (fun _=>.ex)<|.g 14 true rfl 90 trivial (fun _=>.ex)<|.g 15 true rfl 91 trivial (fun _=>.nil)<|.g 16 true rfl 92 trivial (fun _=>.fa T.fd127_0)<|.o1 17<|.ur' true rfl (.stS T.sz22 ok.n3) ?_;rintro η17 ⟨ok,cg⟩;refine ⟨trivial,?_⟩;refine .g 18 true rfl 93 trivial (fun _=>.nil)<|.g 19 true rfl 94 trivial (fun _=>.fa T.fd127_2)<|.o1 20<|.ur' true rfl (.stB T.sz4 ok) ?_;rintro η18 ⟨ok,cg⟩;refine ⟨trivial,?_⟩;refine .e ?_;refine .end<|⟨ya1,yc1,(doneN (keptN ⟨f.ol[k].kind,f.ol[k].pos,f.ol[k].bl⟩ by0).1 xl hh0).1,(doneN (keptN ⟨f.ol[k].kind,f.ol[k].pos,f.ol[k].bl⟩ by0).1 xl hh0).2,(blkC (sv (ya1,(doneN (keptN ⟨f.ol[k].kind,f.ol[k].pos,f.ol[k].bl⟩ by0).1 xl hh0).1.length,yc1))),⟨rfl,rfl,rfl,rfl,rfl,rfl,rfl,rfl,rfl,rfl,trivial⟩,((ok.n1.n7.n7.n7.n7.n5).n5.frzB rfl).k5.f7.f7.f7.f6.f4.e5,by rw [opn_drop hkL];exact crC_t (c:=⟨f.ol[k].kind,f.ol[k].pos,f.ol[k].bl⟩) hby0 (by assumption) (by first | exact .inl (show f.ol[k].kind=0 by omega) | exact .inr (by assumption)),doneN_len (keptN_ok hco) hxl,fun j hj=>.inr (hyf j hj)⟩
   rintro s η19 ⟨xa2,xc2,xl2,hh2,Ex2,hs,ok,hst,hxl2,hEx2⟩;refine .frame hs fun τ=>?_;refine .end<|hK3 _ _<|.r<|.z (.addI (b:=1))<|.z .mvI<|.nil ?_;refine .end<|hJ1 _ _ _ ⟨k+1,xa2,xc2,xl2,hh2,Ex2,ka2,kc2,km.tail,⟨rfl,rfl,rfl,rfl,rfl,rfl,rfl,rfl,rfl,rfl,trivial⟩,ok,by omega,by rw [hcr,hst],by rw [hkm,List.tail_drop],hxl2,hEx2,rfl⟩ (by omega)
  refine .z .mvP<|.z .nil<|.z (.fa T.fd127_2)<|.z (.ldx T.ag4 ok.m2)<|.z .pkf<|.z .pkt<|.nil ?_;refine .join (fun s hh=>∃(xa2:Option Addr) (xc2:Nat) (xl2:List UInt8) (hh2:Bool) (Ex2:Nat→Prop),Has s [(0,.pointer (some ⟨d,0,none⟩)),(1,.slice ka2 km.tail.length kc2),(5,.string (BA (S[i]))),(6,.pointer (some ⟨f.blk,0,none⟩)),(15,.slice (some ⟨bb1,oo1,none⟩) S.length cS),(16,.int .i64 (S.length:Int)),(17,.int .i64 (i:Int)),(44,.slice (some ⟨bb2,oo2,none⟩) f.ol.length f.oc),(45,.int .i64 (f.ol.length:Int)),(46,.int .i64 (k:Int))]∧Hp h (dskI d r).F [boxI f.blk 127 [.slice xa2 xl2.length xc2,.slice f.sa f.sl.length f.sc,.bool hh2,.bool f.was,.slice (some ⟨bb2,oo2,none⟩) f.ol.length f.oc],capI 3 175 (some ⟨bb2,oo2,none⟩,f.ol.length,f.oc) (f.ol.flatMap RC.cells),flsI (bdel rc.fs S[i]),boxI d 105 [.map (some rc.m),.bool rc.dark,.int .i64 rc.left,.int .i64 rc.chg],mapI kvB rc.m (ents rc.fs)] [rdI Ex2 none_ (xa2,xl2.length,xc2) xl2,rdI F2 E2 (ka2,km.tail.length,kc2) km.tail,byfI Ec f,bysI Ec rc.fs,rdI FS none_ (some ⟨bb1,oo1,none⟩,S.length,cS) (S.map Nm.mk)] hh∧crC xl hh0 (f.abs.opn.drop k) km=crC xl2 hh2 (f.abs.opn.drop (k+1)) km.tail∧xl2.length≤16777216∧(∀j,Ex2 j→E j∨h.size≤j)) ?_ ?_
  ·
   refine .cond (fun C4=>?_) (fun C4=>?_)
   ·
    have hkp:=(keptN_ok (k:=by0) hco).fit;have hkp:(keptN ⟨f.ol[k].kind,f.ol[k].pos,f.ol[k].bl⟩ by0).1.pos+(keptN ⟨f.ol[k].kind,f.ol[k].pos,f.ol[k].bl⟩ by0).1.b.length≤16777216:=hkp;have ok:=ok.d0 (rdI Ec Ec (f.ol[k].ba,(keptN ⟨f.ol[k].kind,f.ol[k].pos,f.ol[k].bl⟩ by0).1.b.length,f.ol[k].bc) (keptN ⟨f.ol[k].kind,f.ol[k].pos,f.ol[k].bl⟩ by0).1.b) ((ok.r0).pre kept_pre) (fun _ h=>h);refine .a 11 (fun fl hh=>cond fl True (Hp h (dskI d r).F [boxI pb2 175 [.int .i64 ((keptN ⟨f.ol[k].kind,f.ol[k].pos,f.ol[k].bl⟩ by0).1.kind:Int),.int .i64 ((keptN ⟨f.ol[k].kind,f.ol[k].pos,f.ol[k].bl⟩ by0).1.pos:Int),.slice (f.ol[k].ba) ((keptN ⟨f.ol[k].kind,f.ol[k].pos,f.ol[k].bl⟩ by0).1.b.length) (f.ol[k].bc)],boxI pb1 175 [.int .i64 (f.ol[k].kind:Int),.int .i64 (f.ol[k].pos:Int),.slice (f.ol[k].ba) (f.ol[k].bl.length) (f.ol[k].bc)],boxI f.blk 127 [.slice xa xl.length xc,.slice f.sa f.sl.length f.sc,.bool hh0,.bool f.was,.slice (some ⟨bb2,oo2,none⟩) f.ol.length f.oc],capI 3 175 (some ⟨bb2,oo2,none⟩,f.ol.length,f.oc) (f.ol.flatMap RC.cells),flsI (bdel rc.fs S[i]),boxI d 105 [.map (some rc.m),.bool rc.dark,.int .i64 rc.left,.int .i64 rc.chg],mapI kvB rc.m (ents rc.fs)] [rdI Ec Ec (f.ol[k].ba,(keptN ⟨f.ol[k].kind,f.ol[k].pos,f.ol[k].bl⟩ by0).1.b.length,f.ol[k].bc) ((keptN ⟨f.ol[k].kind,f.ol[k].pos,f.ol[k].bl⟩ by0).1.b),rdI Ec Ec (f.ol[k].ba,f.ol[k].bl.length,f.ol[k].bc) (f.ol[k].bl),rdI F2 E2 (ka2,km.tail.length,kc2) km.tail,rdI Ex none_ (xa,xl.length,xc) xl,byfI Ec f,bysI Ec rc.fs,rdI FS none_ (some ⟨bb1,oo1,none⟩,S.length,cS) (S.map Nm.mk)] hh)) mixed ?_;have hS:=ok;refine .g 0 false rfl 77 hS (fun _=>.mvP)<|.g 1 false rfl 78 hS (fun _=>.mvP)<|.l 2 false rfl 79 hS (fun _ hS=>.ldb T.ag175 hS.m0 T.sz175)<|.g 3 false rfl 80 hS (fun _=>.mvP)<|.g 4 false rfl 81 hS (fun _=>.nil)<|.g 5 false rfl 82 hS (fun _=>.fa T.fd127_0)<|.l 6 false rfl 83 hS (fun _ hS=>.ldx T.ag22 hS.m2)<|.g 7 false rfl 84 hS (fun _=>.mvP)<|.g 8 false rfl 85 hS (fun _=>.nil)<|.g 9 false rfl 86 hS (fun _=>.fa T.fd127_2)<|.l 10 false rfl 87 hS (fun _ hS=>.ldx T.ag4 hS.m2)<|.o1 11<|.c' true rfl 88 .func (done_any (kind:=(keptN ⟨f.ol[k].kind,f.ol[k].pos,f.ol[k].bl⟩ by0).1.kind) (pos:=(keptN ⟨f.ol[k].kind,f.ol[k].pos,f.ol[k].bl⟩ by0).1.pos) (ba:=f.ol[k].ba) (bc:=f.ol[k].bc) (bl:=(keptN ⟨f.ol[k].kind,f.ol[k].pos,f.ol[k].bl⟩ by0).1.b) (a:=xa) (c:=xc) (l:=xl) (here:=hh0) ok.r0 ok.r3 (by omega) (by omega)) ?_;rintro _ η20 ⟨_,rfl,own⟩;obtain ⟨ya2,yc2,rfl⟩:=own.formB;have hyf:=fun j hj=>Nat.le_trans ok.chg.size (own.fresh j hj);have ok:=ok.own own;refine ⟨trivial,?_⟩;refine .g 12 true rfl 76 trivial (fun _=>.mvU)<|.g 13 true rfl 89 trivial (fun _=>.ex)<|.g 14 true rfl 90 trivial (fun _=>.ex)<|.g 15 true rfl 91 trivial (fun _=>.nil)<|.g 16 true rfl 92 trivial (fun _=>.fa T.fd127_0)<|.o1 17<|.ur' true rfl (.stS T.sz22 ok.n3) ?_;rintro η21 ⟨ok,cg⟩;refine ⟨trivial,?_⟩;refine .g 18 true rfl 93 trivial (fun _=>.nil)<|.g 19 true rfl 94 trivial (fun _=>.fa T.fd127_2)<|.o1 20<|.ur' true rfl (.stB T.sz4 ok) ?_;rintro η22 ⟨ok,cg⟩;refine ⟨trivial,?_⟩;refine .e ?_;refine .end<|⟨ya2,yc2,(doneN (keptN ⟨f.ol[k].kind,f.ol[k].pos,f.ol[k].bl⟩ by0).1 xl hh0).1,(doneN (keptN ⟨f.ol[k].kind,f.ol[k].pos,f.ol[k].bl⟩ by0).1 xl hh0).2,(blkC (sv (ya2,(doneN (keptN ⟨f.ol[k].kind,f.ol[k].pos,f.ol[k].bl⟩ by0).1 xl hh0).1.length,yc2))),⟨rfl,rfl,rfl,rfl,rfl,rfl,rfl,rfl,rfl,rfl,trivial⟩,((ok.n1.n7.n7.n7.n7.n5).n5.frzB rfl).k5.f7.f7.f7.f6.f4.e5,by rw [opn_drop hkL];exact crC_t (c:=⟨f.ol[k].kind,f.ol[k].pos,f.ol[k].bl⟩) hby0 (by assumption) (by first | exact .inl (show f.ol[k].kind=0 by omega) | exact .inr (by assumption)),doneN_len (keptN_ok hco) hxl,fun j hj=>.inr (hyf j hj)⟩
   refine .skip<|.end<|⟨xa,xc,xl,hh0,Ex,⟨rfl,rfl,rfl,rfl,rfl,rfl,rfl,rfl,rfl,rfl,trivial⟩,(ok.n6.n6.n6.n6.n6).k5.f5.f5.f5.f4.f5.e5,by rw [opn_drop hkL];exact crC_f (c:=⟨f.ol[k].kind,f.ol[k].pos,f.ol[k].bl⟩) hby0 (by rintro ⟨h1,h2 | h2⟩<;>simp_all),hxl,hEx⟩
  rintro s η23 ⟨xa2,xc2,xl2,hh2,Ex2,hs,ok,hst,hxl2,hEx2⟩;refine .frame hs fun τ=>?_;refine .end<|hK3 _ _<|.r<|.z (.addI (b:=1))<|.z .mvI<|.nil ?_;refine .end<|hJ1 _ _ _ ⟨k+1,xa2,xc2,xl2,hh2,Ex2,ka2,kc2,km.tail,⟨rfl,rfl,rfl,rfl,rfl,rfl,rfl,rfl,rfl,rfl,trivial⟩,ok,by omega,by rw [hcr,hst],by rw [hkm,List.tail_drop],hxl2,hEx2,rfl⟩ (by omega)
 refine .y<|.y<|.y<|.y<|.y<|.y<|.y<|.y<|.y<|.z .pkf<|.nil ?_;refine .join (fun s hh=>∃(xa2:Option Addr) (xc2:Nat) (xl2:List UInt8) (hh2:Bool) (Ex2:Nat→Prop),Has s [(0,.pointer (some ⟨d,0,none⟩)),(1,.slice ka2 km.tail.length kc2),(5,.string (BA (S[i]))),(6,.pointer (some ⟨f.blk,0,none⟩)),(15,.slice (some ⟨bb1,oo1,none⟩) S.length cS),(16,.int .i64 (S.length:Int)),(17,.int .i64 (i:Int)),(44,.slice (some ⟨bb2,oo2,none⟩) f.ol.length f.oc),(45,.int .i64 (f.ol.length:Int)),(46,.int .i64 (k:Int))]∧Hp h (dskI d r).F [boxI f.blk 127 [.slice xa2 xl2.length xc2,.slice f.sa f.sl.length f.sc,.bool hh2,.bool f.was,.slice (some ⟨bb2,oo2,none⟩) f.ol.length f.oc],capI 3 175 (some ⟨bb2,oo2,none⟩,f.ol.length,f.oc) (f.ol.flatMap RC.cells),flsI (bdel rc.fs S[i]),boxI d 105 [.map (some rc.m),.bool rc.dark,.int .i64 rc.left,.int .i64 rc.chg],mapI kvB rc.m (ents rc.fs)] [rdI Ex2 none_ (xa2,xl2.length,xc2) xl2,rdI F2 E2 (ka2,km.tail.length,kc2) km.tail,byfI Ec f,bysI Ec rc.fs,rdI FS none_ (some ⟨bb1,oo1,none⟩,S.length,cS) (S.map Nm.mk)] hh∧crC xl hh0 (f.abs.opn.drop k) km=crC xl2 hh2 (f.abs.opn.drop (k+1)) km.tail∧xl2.length≤16777216∧(∀j,Ex2 j→E j∨h.size≤j)) ?_ ?_
 ·
  refine .cf<|.skip<|.end<|⟨xa,xc,xl,hh0,Ex,⟨rfl,rfl,rfl,rfl,rfl,rfl,rfl,rfl,rfl,rfl,trivial⟩,(ok.n6.n6.n6.n6.n6).k5.f5.f5.f5.f4.f5.e5,by rw [opn_drop hkL];exact crC_f (c:=⟨f.ol[k].kind,f.ol[k].pos,f.ol[k].bl⟩) hby0 (by rintro ⟨h1,h2 | h2⟩<;>simp_all),hxl,hEx⟩
 rintro s η24 ⟨xa2,xc2,xl2,hh2,Ex2,hs,ok,hst,hxl2,hEx2⟩;refine .frame hs fun τ=>?_;refine .end<|hK3 _ _<|.r<|.z (.addI (b:=1))<|.z .mvI<|.nil ?_;refine .end<|hJ1 _ _ _ ⟨k+1,xa2,xc2,xl2,hh2,Ex2,ka2,kc2,km.tail,⟨rfl,rfl,rfl,rfl,rfl,rfl,rfl,rfl,rfl,rfl,trivial⟩,ok,by omega,by rw [hcr,hst],by rw [hkm,List.tail_drop],hxl2,hEx2,rfl⟩ (by omega)
section
variable {h h':Heap} {d p:Nat} {F G E E':Nat→Prop} {D:Dk} {r r':RD}
section
variable {n:List UInt8} {z y:Int} {a:Option Addr} {c:Nat} {l:List UInt8} {F2 E2:Nat→Prop}
theorem dgcrash_any (ok:Hp h F [dgI d F D] [rdI F2 E2 (a,l.length,c) l] h) (hk:DkOk D) (hcg:D.chg<1000000000) :
  HC Tryz.prog 58 #[.pointer (some ⟨d,0,none⟩),.slice a l.length c] h (fun v h'=>∃S F',v=.tuple #[]∧Keys D.fs S∧Hp h F [dgI d F' (crashN D S l)] [] h'):=by
 obtain ⟨r,E,rfl,o,hf,he⟩:=dg_open ok;have o2:Hp h (dskI d r).F [dskI d r] [bysI E r.fs,rdI F2 E2 (a,l.length,c) l] h:=⟨o.chg,o.m,fun i hi=>by
  rcases List.mem_cons.1 hi with rfl | hi
  ·exact o.r _ (by simp)
  ·exact ok.r i hi,o.mm,fun x hx b hb=>by
  rcases List.mem_cons.1 hb with rfl | hb
  ·exact o.mr x hx _ (by simp)
  ·rw [List.mem_singleton.1 hx,List.mem_singleton.1 hb];exact fun j hj=>ok.mr (dgI d F r.abs) (by simp) (rdI F2 E2 (a,l.length,c) l) (by simp) j (hf j hj)⟩
 refine (crash_any o2 hk hcg).mono fun v h' ⟨S,r',E',hv,hK,ha,up⟩=>?_;obtain ⟨F',hp⟩:=dg_up up hf he;rw [ha] at hp;exact ⟨S,F',hv,hK,hp⟩
theorem dgcut_any (ok:Hp h F [dgI d F D] [] h) :
  HC Tryz.prog 56 #[.pointer (some ⟨d,0,none⟩),.int .i64 z] h (fun v h'=>∃F',v=.tuple #[]∧Hp h F [dgI d F' (cutN D z)] [] h'):=by
 obtain ⟨r,E,rfl,o,hf,he⟩:=dg_open ok;refine (cut_any o.loc0).mono fun v h' ⟨hv,q⟩=>?_;have o2:=o.lift1 q;rw [←cutR_fs (r:=r) (z:=z)] at o2;have hp:=dg_close o2 hf (fun j hj=>.inl (he j hj));rw [cutR_abs] at hp;exact ⟨_,hv,hp⟩
theorem dgdark_any (ok:Hp h F [dgI d F D] [] h) :
  HC Tryz.prog 57 #[.pointer (some ⟨d,0,none⟩)] h (fun v h'=>v=.bool D.dark∧h'=h):=by
 obtain ⟨r,E,rfl,o,hf,he⟩:=dg_open ok;exact dark_any (dsk_parts o.m0).1
end
end
open Go Go.HL
theorem crF_syn {f:Fl} {ks:List UInt8} : crF f ks=synF (optP (crC f.safe f.was f.opn ks)):=by
 unfold crF settleF synF optP;cases (crC f.safe f.was f.opn ks).2<;>rfl
theorem crashL_notP:∀ {S:List (List UInt8)} {fs:List UInt8→Option Fl} {ks n:List UInt8},n∉S→crashL fs S ks n=fs n
 | [],_,_,_,_=>rfl
 | m::S,fs,ks,n,h=>by
  have h1:n≠m:=fun e=>h (e▸List.mem_cons_self);have h2:n∉S:=fun e=>h (List.mem_cons_of_mem _ e);unfold crashL;cases fs m with
  | none=>exact crashL_notP h2
  | some f=>simp only;rw [crashL_notP h2,put1_ne h1]
theorem crashL_out:∀ {S:List (List UInt8)} {fs:List UInt8→Option Fl} {ks n:List UInt8},S.Pairwise (· < ·)→n∈S→∃c,Out (fs n) c∧crashL fs S ks n=synF c
 | m::S,fs,ks,n,hS,h=>by
  have hS':=List.pairwise_cons.1 hS;unfold crashL;by_cases e:n=m
  ·subst e;have hnS:n∉S:=fun h=>absurd (hS'.1 n h) (List.lt_irrefl _);cases hf:fs n with
   | none=>simp only;rw [crashL_notP hnS,hf];exact ⟨none,⟨[],rfl⟩,rfl⟩
   | some f=>simp only;rw [crashL_notP hnS,put1_at,crF_syn];exact ⟨_,⟨ks,rfl⟩,rfl⟩
  ·have h:n∈S:=(List.mem_cons.1 h).resolve_left e;cases fs m with
   | none=>exact crashL_out hS'.2 h
   | some f=>
    simp only;obtain ⟨c,h1,h2⟩:=crashL_out (fs:=put1 fs m (crF f ks)) (ks:=ks.drop f.opn.length) hS'.2 h;rw [put1_ne e] at h1;exact ⟨c,h1,h2⟩
theorem crash_out {d:Dk} {S:List (List UInt8)} {ks:List UInt8} (hK:Keys d.fs S) (n:List UInt8):∃c,Out (d.fs n) c∧(crashN d S ks).fs n=synF c:=by
 by_cases h:n∈S
 ·exact crashL_out hK.up h
 ·have h1:d.fs n=none:=by
   cases hf:d.fs n with
   | none=>rfl
   | some f=>exact absurd ((hK.iff n).2 (by rw [hf];rfl)) h
  exact ⟨none,⟨[],by rw [h1];rfl⟩,by show crashL d.fs S ks n=_;rw [crashL_notP h,h1];rfl⟩
theorem bopen_own {d:Dk} {T J M:Option (List UInt8)} {z:Nat} {room:Int} {s:List (List UInt8)} (S:SynB d T J M) (p:PgOk z s) (hm:s.length≤mostB z) (g:GdB z T J M s) (hJl:(J.getD []).length≤16777216) (hr:1≤room∧room≤1048576) :
  (∃d',openB d z room=(d',s.length*z,0)∧d'.dark=false∧(d.left<0→d'.left<0)∧CleanB s d')∨(∃d',openB d z room=(d',0,13)∧d'.dark=true∧0≤d.left∧GdBD z s d'):=by
 have hh:=heal_own S p g hJl;have h1:okZ (z:Int)=true:=by rw [okZ_nat];exact p.sz
 unfold openB;rw [if_neg (by rw [h1];decide),if_neg (by omega),if_neg (by rw [S.hd];decide)];rcases hh with ⟨e,hd,hl,c⟩ | ⟨e,hd,hl,c⟩
 ·rw [if_neg (by omega),Int.toNat_natCast,blook_own p hm c];exact .inl ⟨_,rfl,hd,hl,c⟩
 ·rw [if_pos (by omega),e];exact .inr ⟨_,rfl,hd,hl,c⟩
section
variable {A:Bk} {s P:List (List UInt8)} {no:Nat} {b:List UInt8}
theorem Rl.good (R:Rl A s P):GdBD A.size s A.dk:=let ⟨_,k,_⟩:=R.kp;k.good
end
open Go Go.HL
section
variable {h h':Heap} {d p:Nat} {F:Nat→Prop} {A:Bk}
theorem gbPages_any (ok:(bgI p d F A).p h) :
  HC Tryz.prog 32 #[.pointer (some ⟨p,0,none⟩)] h (fun v h'=>v=.int .i64 ((if A.broken=true then 0 else presB A:Nat):Int)∧h'=h):=by
 obtain ⟨r,ha,hb⟩:=bg_box ok;have:=bPages_any hb;rw [show r.broken=A.broken from congrArg Bk.broken ha,show presK r=presB A from congrArg presB ha] at this;exact this
end
open Go Go.HL
theorem pgs_get {l:List RB} {i:Nat} : (pgs l)[i]? = l[i]?.map RB.l:=List.getElem?_map
theorem qsame_any {h:Heap} {E E':Nat→Prop} {xa ya:Option Addr} {xc yc:Nat} {xl yl:List RB} (hx:PgB h E (xa,xl.length,xc) xl) (hy:PgB h E' (ya,yl.length,yc) yl) :
  HC Tryz.prog 35 #[.slice xa xl.length xc,.slice ya yl.length yc] h (fun v h'=>v=.bool (decide (pgs xl=pgs yl))∧Ext h h'):=by
 have hxm:=hx.m;have hym:=hy.m;have ok:=((Hp.nil h none_).old (pgwI (fun j=>E' j∧j<h.size) (ya,yl.length,yc) yl) (hy.lt (by decide)) (fun j hj=>hj.2)).old (pgwI (fun j=>E j∧j<h.size) (xa,xl.length,xc) xl) (hx.lt (by decide)) (fun j hj=>hj.2);refine HC.go Tryz.func35 27 ?_;refine .seq<|.r<|.z .asB<|.nil ?_;refine .seq<|.seq<|.r<|.z .mvS<|.z (.len T.el26)<|.z .mvS<|.z (.len T.el26)<|.z .neq<|.nil ?_;refine .cd (fun C0=>?_) (fun C0=>?_)
 ·
  refine .seq<|.r<|.z .asB<|.nil ?_;refine .ret ⟨.bool false,Res.one rfl rfl,⟨by rw [decide_eq_false];intro e;have:=congrArg List.length e;rw [pgs_len,pgs_len] at this;omega,ok.chg⟩⟩
 refine .skip<|.seq<|.seq<|.r<|.z .asI<|.nil ?_;refine .block fun K0 hK0=>.loop (fun m s hh=>∃(i:Nat),Has s [(0,.slice xa xl.length xc),(1,.slice ya yl.length yc),(5,.int .i64 (i:Int))]∧Hp h none_ [] [pgwI (fun j=>E j∧j<h.size) (xa,xl.length,xc) xl,pgwI (fun j=>E' j∧j<h.size) (ya,yl.length,yc) yl] hh∧i≤xl.length∧(pgs xl).take i=(pgs yl).take i∧m=xl.length-i) ?_ ?_
 ·exact ⟨_,0,⟨rfl,rfl,rfl,trivial⟩,ok,Nat.zero_le _,rfl,rfl⟩
 rintro _ _ η1 ⟨i,hs,ok,hi,htk,rfl⟩ J0 hJ0;refine .frame hs fun τ=>?_;refine .seq<|.seq<|.r<|.z .mvI<|.z .mvS<|.z (.len T.el26)<|.z .lss<|.nil ?_;refine .cdr (fun C1=>?_) (fun C1=>?_)
 ·
  have hie:i=xl.length:=by omega
  have hie2:i=yl.length:=by omega
  refine .exit<|hK0 _ _<|.seq<|.r<|.z .asB<|.nil ?_;refine .ret ⟨.bool true,Res.one rfl rfl,⟨by rw [decide_eq_true];rw [←List.take_length (l:=pgs xl),←List.take_length (l:=pgs yl),pgs_len,pgs_len,←hie,←hie2];exact htk,ok.chg⟩⟩
 have hiX:i<xl.length:=by omega
 have hiY:i<yl.length:=by omega
 refine .skip<|.seq<|.block fun K1 hK1=>.seq<|.q (hm:=mixed)<|.z .mvS<|.z .mvI<|?_;obtain ⟨bb1,oo1,rfl,fb1⟩:=ok.r0.pos (by omega);refine .z (.ix1 i T.el26 T.sz22)<|?_;have ok:=ok.d0 (rdI (fun j=>E j∧j<h.size) (fun j=>E j∧j<h.size) (xl[i].a,xl[i].l.length,xl[i].c) xl[i].l) ((ok.r0).by' _ (List.getElem_mem hiX)) (fun _ h=>h.elim id id);refine .z (.ld T.ag22 (sl_at1 RB.cells_len (ok.r1).sl (i:=i) (by omega) rfl))<|.z .mvS<|.z .mvI<|?_;obtain ⟨bb2,oo2,rfl,fb2⟩:=ok.r2.pos (by omega);refine .z (.ix1 i T.el26 T.sz22)<|?_;have ok:=ok.d2 (rdI (fun j=>E' j∧j<h.size) (fun j=>E' j∧j<h.size) (yl[i].a,yl[i].l.length,yl[i].c) yl[i].l) ((ok.r2).by' _ (List.getElem_mem hiY)) (fun _ h=>h.elim id id);refine .z (.ld T.ag22 (sl_at1 RB.cells_len (ok.r3).sl (i:=i) (by omega) rfl))<|.k 25 .func (same_any (a:=xl[i].a) (c:=xl[i].c) (l:=xl[i].l) (b:=yl[i].a) (d:=yl[i].c) (l2:=yl[i].l) ok.r1 ok.r0)<|.z .notd<|.nil ?_;refine .cd (fun C2=>?_) (fun C2=>?_)
 ·
  refine .seq<|.r<|.z .asB<|.nil ?_;refine .ret ⟨.bool false,Res.one rfl rfl,⟨by rw [decide_eq_false];intro e;have h3:(pgs xl)[i]? = (pgs yl)[i]?:=(by rw [e]);rw [pgs_get,pgs_get,List.getElem?_eq_getElem hiX,List.getElem?_eq_getElem hiY] at h3;simp only [Option.map_some,Option.some.injEq] at h3;exact C2 h3,ok.chg⟩⟩
 refine .skip<|.end<|hK1 _ _<|.r<|.z .mvI<|.z (.addI (b:=1))<|.z .asI<|.nil ?_;refine .end<|hJ0 _ _ _ ⟨i+1,⟨rfl,rfl,rfl,trivial⟩,ok.tR.tR,by omega,by rw [List.take_succ_eq_append_getElem (by rw [pgs_len];omega),List.take_succ_eq_append_getElem (by rw [pgs_len];omega),htk,pgs_at hiX,pgs_at hiY,show xl[i].l=yl[i].l by simpa using C2],rfl⟩ (by omega)
section
variable {A:Bk} {w:WPg} {x:PO6} (R:RelB A w)
include R
theorem RelB.read_in (hl:A.dk.left<0) {k:Nat} (hk:k<w.pages.length):(readB A ((k:Int)+1)).2=(w.pages.getD k [],0)∧RelB (readB A ((k:Int)+1)).1 w∧(readB A ((k:Int)+1)).1.dk.left<0:=by
 rcases R.read (no:=(k:Int)+1) with ⟨h1,h2,h3⟩ | ⟨_,h⟩
 ·refine ⟨?_,h2,h3 hl⟩;rw [h1,readP_2 (by rintro (h | h)<;>omega)];congr 2;omega
 ·have:=h.left;omega
end
end Go.Proofs.YtpeaicddbnghfaaGreat
namespace Go.HL
open Go Go.Proofs.YtpeaicddbnghfaaGreat
theorem Hp.owned {h0 h:Heap} {D:Nat→Prop} {M R:List Itm} {a:Itm} (ok:Hp h0 D (a::M) R h):∀j,a.F j→D j∨h0.size≤j:=fun j hj=>((ok.m a List.mem_cons_self).2 j hj).2
theorem Hp.pgFrz {h0 h:Heap} {D Eo:Nat→Prop} {M R:List Itm} {e:TypeId} {a:Option Addr} {c:Nat} {l:List RB} (ok:Hp h0 D (capI 1 e (a,l.length,c) (l.flatMap RB.cells)::M) (pbyI Eo l::R) h):Hp h0 D M (pgwI (fun j=>blkC (sv (a,l.length,c)) j∨Eo j) (a,l.length,c) l::R) h:=by
 have o:=ok.frz;have o2:=o.or (r:=capI 1 e (a,l.length,c) (l.flatMap RB.cells)) (r':=pbyI Eo l) (by simp) (by simp) (pgwI (fun j=>blkC (sv (a,l.length,c)) j∨Eo j) (a,l.length,c) l) (PgB.of o.r0 o.r1 (fun j h=>.inl h) (fun j h=>.inr h)) (fun j h=>h);exact o2.sub (by simp;intro a h;exact .inr (.inr (.inr h)))
theorem Hp.liftR {h0 h h':Heap} {D:Nat→Prop} {M R:List Itm} {a a' x:Itm} (ok:Hp h0 D (a::M) R h) (q:Hp h a.F [a'] [x] h') (hx:∀j,x.F j→a.F j∨h.size≤j):Hp h0 D (a'::M) (x::R) h':=by
 have o:=ok.upd q.chg (fun _ x=>x) a' q.m0 fun j hj=>by
  have h1:=(q.m _ List.mem_cons_self).2 j hj;exact h1.2.imp id fun h=>⟨h,h1.1⟩
 refine ⟨o.chg,o.m,fun i hi=>?_,o.mm,fun m hm z hz j hj hj2=>?_⟩
 ·rcases List.mem_cons.1 hi with rfl | hi
  ·exact q.r _ (by simp)
  ·exact o.r i hi
 ·rcases List.mem_cons.1 hz with rfl | hz
  ·rcases List.mem_cons.1 hm with rfl | hm
   ·exact q.mr _ (by simp) _ (by simp) j hj hj2
   ·rcases hx j hj2 with h1 | h1
    ·exact (List.pairwise_cons.1 ok.mm).1 m hm j h1 hj
    ·have:=((ok.m m (List.mem_cons_of_mem _ hm)).2 j hj).1;omega
  ·exact o.mr m hm z hz j hj hj2
end Go.HL
namespace Go.Proofs.YtpeaicddbnghfaaGreat
open Go Go.HL
theorem pg_all {α:Type} {l:List α} {k:Nat} (h1:k≤l.length) (h2:k≤64) (h:l.length≤k∨64≤k):l.take k=l.take 64:=by
 rcases h with h | h
 ·rw [List.take_of_length_le h,List.take_of_length_le (by omega)]
 ·rw [show k=64 by omega]
theorem pg_step {P:List (List UInt8)} {ol:List RB} {k:Nat} {x:RB} (h:pgs ol=P.take k) (hk:k<P.length) (hx:x.l=P.getD k []):pgs (ol++[x])=P.take (k+1):=by
 rw [pgs_snoc,h,List.take_succ_eq_append_getElem hk,hx];congr 2;simp [hk]
theorem pages13_any {h:Heap} {p d:Nat} {F:Nat→Prop} {A:Bk} {w:WPg} (ok:Hp h F [bgI p d F A] [] h) (hcg:A.dk.chg<290000000) (hR:RelB A w) (hlf:A.dk.left<0):HC Tryz.prog 36 #[.pointer (some ⟨p,0,none⟩)] h (fun v h'=>∃F' E A' a c l,v=.slice a l.length c∧pgs l=w.pages.take 64∧RelB A' w∧A'.dk.left<0∧A'.dk.chg≤A.dk.chg+1000∧Hp h F [bgI p d F' A'] [pgwI E (a,l.length,c) l] h'∧∀j,E j→F j∨h.size≤j):=by
 refine HC.go Tryz.func36 30 ?_;refine .seq<|.r<|.z .asS<|.nil ?_;refine .seq<|.r<|.z .asS<|.nil ?_;refine .seq<|.seq<|?_;have ok:=ok.nilC (k:=1) (e:=22);have ok:=ok.pbyNil;refine .r<|.z .asI<|.nil ?_;refine .block fun K0 hK0=>.loop (fun m s hh=>∃(k:Nat) (ol:List RB) (a3:Option Addr) (c3:Nat) (Eo Fp:Nat→Prop) (Ap:Bk),Has s [(0,.pointer (some ⟨p,0,none⟩)),(3,.slice a3 ol.length c3),(4,.int .i64 ((k:Int)+1))]∧Hp h F [capI 1 22 (a3,ol.length,c3) (ol.flatMap RB.cells),bgI p d Fp Ap] [pbyI Eo ol] hh∧k≤w.pages.length∧k≤64∧ol.length=k∧pgs ol=w.pages.take k∧(∀j,Eo j→F j∨h.size≤j)∧RelB Ap w∧Ap.dk.left<0∧Ap.dk.chg≤A.dk.chg+10*k∧m=w.pages.length-k) ?_ ?_
 ·exact ⟨_,0,[],none,0,none_,F,A,⟨rfl,rfl,rfl,trivial⟩,(ok).k2,by omega,by omega,rfl,rfl,(fun j f=>f.elim),hR,hlf,by omega,rfl⟩
 rintro _ _ η1 ⟨k,ol,a3,c3,Eo,Fp,Ap,hs,ok,hk1,hk2,hol,hpo,hEo,hR,hlf,hch,rfl⟩ J0 hJ0;refine .frame hs fun τ=>?_;refine .seq<|.seq<|?_;have hPg:=hR.pages;refine .r<|.z .mvI<|.z .mvP<|.k 9 .func (gbPages_any (p:=p) (d:=d) (F:=Fp) (A:=Ap) ok.m1)<|.z .leq<|.z .mvB<|.sd (fun G11=>?_) (fun G11=>?_)
 ·
  refine .z .mvI<|.z .leq<|.z .pkt<|.nil ?_;refine .cdr (fun C0=>?_) (fun C0=>?_)
  ·
   have hPg2:=hR.pages;refine .exit<|hK0 _ _<|.seq<|.r<|.z .mvS<|.z .asS<|.nil ?_;refine .ret ⟨.slice a3 ol.length c3,Res.one rfl rfl,⟨Fp,_,Ap,a3,c3,ol,rfl,(by rw [hpo];exact pg_all hk1 hk2 (by omega)),hR,hlf,by omega,Hp.pgFrz (ok),(fun j hj=>hj.elim (fun h1=>(ok).owned j h1) (fun h1=>hEo j h1))⟩⟩
  have hkl:k<w.pages.length:=by omega
  refine .skip<|.seq<|.block fun K1 hK1=>.seq<|.r<|.z .mvP<|.z .mvI<|.c' 20 .func (gbread_any (p:=p) (d:=d) (F:=Fp) (A:=Ap) (no:=((k:Int)+1)) (ok.n1).loc0 (by omega)) ?_;rintro _ η2 ⟨Fg1,ag1,cg1,rfl,q⟩;have Pg1:=bg_pl (ok.n1).m0;have ok:=(ok.n1).lift2 q;obtain ⟨Ag1,hAg1⟩:∃x:Bk,(readB Ap ((k:Int)+1)).1=x:=⟨_,rfl⟩;rw [hAg1] at ok;have hcg1:Ag1.dk.chg≤Ap.dk.chg+1200000:=by rw [←hAg1];exact (Int.le_trans Pg1.read.2 (by omega))
  refine .z .mvU<|.z .ex<|.z .ex<|.z .asS<|.z .asI<|.nil ?_;refine .seq<|.seq<|?_;have hrd:=hR.read_in hlf hkl;have hc10:=Pg1.read (no:=(k:Int)+1) |>.2
  rw [hAg1] at hc10 hrd;refine .r<|.z .mvI<|.z .neq<|.nil ?_;refine .cd (fun C1=>?_) (fun C1=>?_)
  ·
   exact absurd (by rw [hrd.1];rfl) C1
  refine .skip<|.r<|.z .mvS<|.z .mvS<|.a' 27 (.lit [.tmp 26] (cs:=[.slice ag1 ((readB Ap ((k:Int)+1)).2.1.length) cg1]) T.el26 T.sz22 T.zr22 ok ⟨rfl,trivial⟩) ?_;rintro _ η3 ⟨pb1,rfl,ok,xe⟩;refine .a' 28 (.app (news:=[.slice ag1 ((readB Ap ((k:Int)+1)).2.1.length) cg1]) T.el26 T.sz22 T.by22 T.zr22 ok.n3 (ok.n3.m1).sl (oneL rfl) (by rw [flat_len RB.cells_len];simp only [List.length_cons,List.length_nil];omega)) ?_;rintro _ η4 ⟨ya1,yn1,yc1,rfl,ok,ap⟩;have ok:=(ok).cx (ys:=(ol++[(⟨ag1,cg1,(readB Ap ((k:Int)+1)).2.1⟩:RB)]).flatMap RB.cells) (by simp [RB.cells]);obtain rfl:yn1=(ol++[(⟨ag1,cg1,(readB Ap ((k:Int)+1)).2.1⟩:RB)]).length:=(Sl.sz (Cap.sl ok.m0) RB.cells_len (by decide)).1.symm;have hfr:=(ok.n2).owned;have ok:=Hp.pbyPut (ok.n2);refine .z .asS<|.nil ?_;refine .end<|hK1 _ _<|.r<|.z .mvI<|.z .add<|.z .asI<|.nil ?_;refine .end<|hJ0 _ _ _ ⟨k+1,ol++[(⟨ag1,cg1,(readB Ap ((k:Int)+1)).2.1⟩:RB)],ya1,yc1,(fun j=>Eo j∨blkC (sv (ag1,((readB Ap ((k:Int)+1)).2.1).length,cg1)) j),Fg1,Ag1,⟨rfl,rfl,rfl,trivial⟩,(ok.n2.n1).k2,by omega,by omega,by simp [hol],pg_step hpo hkl (by rw [hrd.1]),(fun j h=>h.elim (hEo j) (hfr j)),hrd.2.1,hrd.2.2,by omega,rfl⟩ (by omega)
 refine .y<|.y<|.z .pkf<|.nil ?_;refine .cf<|.exit<|hK0 _ _<|.seq<|.r<|.z .mvS<|.z .asS<|.nil ?_;refine .ret ⟨.slice a3 ol.length c3,Res.one rfl rfl,⟨Fp,_,Ap,a3,c3,ol,rfl,(by rw [hpo];exact pg_all hk1 hk2 (by omega)),hR,hlf,by omega,Hp.pgFrz (ok),(fun j hj=>hj.elim (fun h1=>(ok).owned j h1) (fun h1=>hEo j h1))⟩⟩
end Go.Proofs.YtpeaicddbnghfaaGreat
namespace Go.HL
open Go Go.RowKit Go.ChangeShapes Go.WideShapes Go.ChangeAt
theorem len4 {cs:List Value} (h:cs.length=4):∃a b c d,cs=[a,b,c,d]:=by
 match cs,h with
 | [a,b,c,d],_=>exact ⟨a,b,c,d,rfl⟩
theorem okWide_array {P:Program} {w:World} {r:Reach} {base:Nat} {t e:TypeId} {n:Nat} {v:Value} (ht:P.underlying t=some (.array n e)) (h:Value.okWide P w r base t v):∃cs,v=.agg cs∧cs.size=P.cellsOf t:=by
 simp only [Value.okWide,ht] at h;obtain ⟨cs,h1,h2,_⟩:=h;exact ⟨cs,h1,h2⟩
theorem all_bv:∀ {cs:List Value},(∀i (h:i<cs.length),∃y:UInt8,cs[i]=bv y)→∃l:List UInt8,cs=l.map bv
 | [],_=>⟨[],rfl⟩
 | c::cs,h=>by
  obtain ⟨y,hy⟩:=h 0 (by simp);obtain ⟨l,hl⟩:=all_bv (cs:=cs) fun i hi=>by
   have:=h (i+1) (by simp;omega);simpa using this
  exact ⟨y::l,by rw [hl,List.map_cons,←hy];rfl⟩
theorem Opn.arrU8 {P:Program} {t e:TypeId} {n:Nat} (ht:P.underlying t=some (.array n e)) (he:P.underlying e=some (.int .u8)) (hc:P.cellsOf t=n) (hc1:P.cellsOf e=1):Opn P t (fun _ cs (l:List UInt8)=>cs=l.map bv∧l.length=n):=⟨fun {_ _ _ _ _ _ cs _} hx=>by
 obtain ⟨xs,m,_,_,hl,hn,hel⟩:=DataW.trod_array ht hx;rw [hc] at hl;obtain ⟨l,rfl⟩:=all_bv (cs:=cs) fun i hi=>by
  have h1:=hel i (by omega);rw [hc1,List.getElem?_eq_getElem (by omega)] at h1;obtain ⟨y,hy⟩:=(Opn.u8 he).run h1;refine ⟨y,?_⟩;have h2:((cs.drop (i*1)).take 1)[0]? = some (bv y):=by rw [hy];rfl
  rw [List.getElem?_take_of_lt (by omega),List.getElem?_drop,Nat.mul_one,Nat.add_zero,List.getElem?_eq_getElem hi] at h2;injection h2
 exact ⟨l,rfl,by simpa using hl⟩⟩
theorem len_2 {l:List UInt8} (h:l.length=2):∃a b,l=[a,b]:=by
 match l,h with
 | [a,b],_=>exact ⟨a,b,rfl⟩
end Go.HL
namespace Go.Proofs.YtpeaicddbnghfaaGreat
open Go Go.HL
theorem stepQ_13 {w:WPg} {x:PO6} : (stepQ w x).2≠13:=by
 unfold stepQ beginP writeP resizeQ commitQ rollbackP readP
 repeat' split
 all_goals simp
theorem newWp_lim {z:Nat} : LimW (newWp z).abs:=⟨by simp [newWp,RWp.abs,pgs],by simp [newWp,RWp.abs,pgs]⟩
theorem cut_chg {D:Dk} {z:Int} : (cutN D z).chg=D.chg:=by unfold cutN;split<;>rfl
theorem cut_fs {D:Dk} {z:Int} : (cutN D z).fs=D.fs∧(cutN D z).dark=D.dark:=by unfold cutN;split<;>exact ⟨rfl,rfl⟩
theorem SynB.cut {d:Dk} {t l m:Option (List UInt8)} {z:Int} (S:SynB d t l m):SynB (cutN d z) t l m:=by
 obtain ⟨hf,hd⟩:=cut_fs (D:=d) (z:=z);exact ⟨hd.trans S.hd,by rw [hf];exact S.T,by rw [hf];exact S.J,by rw [hf];exact S.M⟩
theorem CleanB.cut {d:Dk} {s:List (List UInt8)} {z:Int} (c:CleanB s d):CleanB s (cutN d z):=let ⟨T,S,h⟩:=c;⟨T,S.cut,h⟩
theorem cut_neg {d:Dk} {s:List (List UInt8)} (c:CleanB s d):(cutN d (-1)).left<0:=by
 obtain ⟨_,S,_⟩:=c;unfold cutN;rw [if_neg (by rw [S.hd];decide)];show max (-1:Int) (-1)<0;decide
theorem SynB.len {d:Dk} {t l m:Option (List UInt8)} (S:SynB d t l m) (k:DkOk d):(l.getD []).length≤16777216:=by
 have:=(k.getD nJ).1.now;rw [S.J] at this;cases l
 ·exact Nat.zero_le _
 ·exact this
theorem bcrash_gd {d:Dk} {z:Nat} {P:List (List UInt8)→Prop} {ns:List (List UInt8)} {ks:List UInt8} (hK:Keys d.fs ns) (h:∀T' J' M',Out (d.fs nT) T'→Out (d.fs nJ) J'→Out (d.fs nM) M'→∃s,P s∧GdB z T' J' M' s):∃T J M s,SynB (crashN d ns ks) T J M∧P s∧GdB z T J M s:=by
 obtain ⟨T,h1,h2⟩:=crash_out (ks:=ks) hK nT;obtain ⟨L,h3,h4⟩:=crash_out (ks:=ks) hK nJ;obtain ⟨M,h5,h6⟩:=crash_out (ks:=ks) hK nM;obtain ⟨s,h7,h8⟩:=h T L M h1 h3 h5;exact ⟨T,L,M,s,⟨rfl,h2,h4,h6⟩,h7,h8⟩
structure PwT (A:Bk) (w:WPg) (wi:Bool) (ml:List (List UInt8)):Prop where
 lim:LimW w
 sure:PgOk w.z w.sure
 mb:wi=true→PgOk w.z ml∧ml.length≤40
 dk:A.dk.dark=true→A.broken=true
 gd:∀t l m,Out (A.dk.fs nT) t→Out (A.dk.fs nJ) l→Out (A.dk.fs nM) m→GdB w.z t l m w.sure∨wi=true∧GdB w.z t l m ml
theorem most_40 {z:Nat} {s:List (List UInt8)} (p:PgOk z s) (h:s.length≤40):s.length≤mostB z:=by
 have hz:=okSz_b p.sz;unfold mostB;exact (Nat.le_div_iff_mul_le (by omega)).2 (Nat.le_trans (Nat.mul_le_mul h (show z+8≤4104 by omega)) (by decide))
section
variable {A A':Bk} {w:WPg} {x:PO6}
theorem RelB.pg (R:RelB A w):PgOk w.z w.sure:=by have:=R.R.pg.1;rwa [R.z] at this
theorem pwt_good (R:RelB A w) (L:LimW w):PwT A w false []:=
 ⟨L,R.pg,fun h=>(by cases h),fun h=>(by rw [R.R.hd] at h;cases h),fun t l m h1 h2 h3=>.inl (by have:=R.R.good t l m h1 h2 h3;rwa [R.z] at this)⟩
theorem RelB.step3 (R:RelB A w) (h1:(stepB A w.z x).2=13):x.k%6≠3∧FailB A (stepB A w.z x).1 (GdBD w.z w.sure)∨x.k%6=3∧w.in_=true∧PgOk w.z w.now∧FailB A (stepB A w.z x).1 (GdBP w.z w.sure w.now):=by
  by_cases hk:x.k%6=3
  · right;have e:stepB A w.z x=commitB A:=by simp only [stepB,hk]
    rw [e] at h1⊢;rcases R.commit with ⟨h2,_⟩ | ⟨_,hi,hF⟩
    · have h3 : (commitQ w).2 ≠ 13 := by unfold commitQ; repeat' split
                                         all_goals simp
      exact absurd (h2.symm.trans h1) h3
    · refine ⟨hk,hi,?_,hF⟩;have hiA:=R.in_.trans hi;obtain ⟨_,hpg⟩:=R.now hi;obtain ⟨cur,k,p⟩:=R.R.kp;have hp:=R.R.pres;unfold presB at hp;rw [if_pos hiA] at hp;have hz:=(okSz_b R.pg.sz).1;refine ⟨R.pg.sz,fun l hl=>by have:=p.pl l (by rw [hpg];exact hl);rw [this];exact R.z,?_,fun h0=>?_⟩
      · have:=p.vn hiA;rw [←hpg,←hp];exact most_mul hz (by rw [←R.z];exact this.2.2)
      · cases h9:hdOk (w.now.getD 0 []) w.z
        · have:=(R.R.commit8 hiA (by rw [hpg];exact h0) (by rw [hpg,R.z];exact h9)).1;rw [this] at h1;cases h1
        · rfl
  · left;refine ⟨hk,?_⟩;rcases R.step (x:=x) with ⟨h2,_⟩ | ⟨_,h | h⟩
    · exact absurd (h2.2.symm.trans h1) stepQ_13
    · exact h
    · exact absurd h.1 hk
theorem pwt_fail (R:RelB A w) (L:LimW w) {wi:Bool} (h1:(stepB A w.z x).2=13) (hw:x.k%6=3→wi=w.in_) (hw2:x.k%6≠3→wi=false):PwT (stepB A w.z x).1 w wi w.now:=by
 rcases R.step3 h1 with ⟨hk,F⟩ | ⟨hk,hi,hp,F⟩
 ·exact ⟨L,R.pg,fun h=>(by rw [hw2 hk] at h;cases h),fun _=>F.br,fun t l m g1 g2 g3=>.inl (F.gd t l m g1 g2 g3)⟩
 ·exact ⟨L,R.pg,fun _=>⟨hp,L.n⟩,fun _=>F.br,fun t l m g1 g2 g3=>(F.gd t l m g1 g2 g3).imp id fun h=>⟨(hw hk).trans hi,h⟩⟩
end
def OpdB (D:Dk) (z:Nat) (s:List (List UInt8)) (room:Int):Prop:=
 ((openB D z room).2=(s.length*z,0)∧CleanB s (openB D z room).1)∨((openB D z room).2=(0,13)∧0≤D.left∧GdBD z s (openB D z room).1)
theorem opdB_of {D:Dk} {T J M:Option (List UInt8)} {z:Nat} {room:Int} {s:List (List UInt8)} (S:SynB D T J M) (p:PgOk z s) (hm:s.length≤mostB z) (g:GdB z T J M s) (k:DkOk D) (hr:1≤room∧room≤1048576):OpdB D z s room:=by
 rcases bopen_own S p hm g (S.len k) hr with ⟨d',e,_,_,c⟩ | ⟨d',e,_,hl,c⟩
 ·left;rw [e];exact ⟨rfl,c⟩
 ·right;rw [e];exact ⟨rfl,hl,c⟩
theorem pwt_crash {A:Bk} {w:WPg} {wi:Bool} {ml:List (List UInt8)} {ns:List (List UInt8)} {ks:List UInt8} {y room:Int} (S:PwT A w wi ml) (k:DkOk A.dk) (hK:Keys A.dk.fs ns) (hy:y≤9223372036854775807) (hr:1≤room∧room≤1048576) :
  ∃s,(s=w.sure∨wi=true∧s=ml)∧PgOk w.z s∧s.length≤40∧OpdB (cutN (crashN A.dk ns ks) y) w.z s room:=by
 obtain ⟨t,l,m,s,h1,h2,h3⟩:=bcrash_gd (ks:=ks) (P:=fun s=>s=w.sure∨wi=true∧s=ml) hK fun t l m g1 g2 g3=>(S.gd t l m g1 g2 g3).elim (fun h=>⟨_,.inl rfl,h⟩) fun h=>⟨_,.inr ⟨h.1,rfl⟩,h.2⟩;have hp:PgOk w.z s∧s.length≤40:=by
  rcases h2 with rfl | ⟨h4,rfl⟩
  ·exact ⟨S.sure,S.lim.s⟩
  ·exact S.mb h4
 exact ⟨s,h2,hp.1,hp.2,opdB_of h1.cut hp.1 (most_40 hp.1 hp.2) h3 (k.crash.cut hy) hr⟩
theorem bgd_crash {D:Dk} {z:Nat} {s:List (List UInt8)} {ns:List (List UInt8)} {ks:List UInt8} {room:Int} (g:GdBD z s D) (p:PgOk z s) (hm:s.length≤40) (k:DkOk D) (hK:Keys D.fs ns) (hr:1≤room∧room≤1048576):(openB (crashN D ns ks) z room).2=(s.length*z,0)∧CleanB s (openB (crashN D ns ks) z room).1:=by
 obtain ⟨t,l,m,s',h1,rfl,h3⟩:=bcrash_gd (ks:=ks) (P:=fun s'=>s'=s) hK fun t l m g1 g2 g3=>⟨s,rfl,g t l m g1 g2 g3⟩;rcases opdB_of h1 p (most_40 p hm) h3 k.crash hr with h | h
 ·exact h
 ·have:=h.2.1;simp only [crashN] at this;omega
theorem opnB_dk {D:Dk} {z room:Int} (k:DkOk D):DkOk (openB D z room).1∧(openB D z room).1.chg≤D.chg+17000000:=by
 have h1:=heal_chg k;have h2:=k.heal;unfold openB
 repeat' split
 all_goals first | exact ⟨h2,h1⟩ | exact ⟨k,by simp only;omega⟩
theorem opened_pl {D:Dk} {z n:Nat} {room:Int} {s:List (List UInt8)} (c:CleanB s D) (k:DkOk D) (p:PgOk z s) (hm:s.length≤40) (hr:1≤room∧room≤1048576) (hn:n=s.length*z) {fr:Nat} : RelB (openedB D z room n) ⟨z,s,[],false,fr⟩:=by
 subst hn;exact ⟨rfl,rfl,rfl,fun _=>rfl,opened_rl c k p (most_40 p hm) hr⟩
section
variable {h:Heap} {d p:Nat} {F:Nat→Prop} {A:Bk}
theorem gbcut_any {z:Int} (ok:Hp h F [bgI p d F A] [] h) (hP:BPl { A with dk:=cutN A.dk z }) :
  HC Tryz.prog 56 #[.pointer (some ⟨d,0,none⟩),.int .i64 z] h (fun v h'=>∃F',v=.tuple #[]∧Hp h F [bgI p d F' { A with dk:=cutN A.dk z }] [] h'):=by
 obtain ⟨r,E,Fc,ha,hkm,hd,o,hf,he⟩:=bg_open ok;obtain ⟨in_,now,valid,begun,nonce,km,kept,marked,d',rd,size,c,sure,bytes,broken⟩:=r;subst hd;have o2:=o.bopn.n2;refine (cut_any o2.loc0).mono fun v h' ⟨hv,q⟩=>?_;have o3:=(o2.lift1 q).n2.n2.bcls;rw [←cutR_fs (r:=rd) (z:=z)] at o3;refine ⟨_,hv,bg_close (A':={ A with dk:=cutN A.dk z }) o3 hf (fun j hj=>.inl (he j hj)) ?_ hkm hP rfl⟩;rw [←ha];exact congrArg (fun D=>(⟨D,size,A.room,A.L,in_,now,valid,begun,nonce,kept,marked,sure,bytes,broken⟩:Bk)) cutR_abs
end
open Go Go.HL
theorem bpower_walk {h:Heap} {EO:Nat→Prop} {a:Option Addr} {c:Nat} {l:List ROp6} (hl:RwB 6 ROp6.cells ROp6.sb h EO (a,l.length,c) l) (hop6:OpsOk6 l) {u v:Nat} (hu:u<256) (hv:v<256) {fu fv:Nat} (hfu:fu<256) (hfv:fv<256) {ka qa:Option Addr} {kc qc:Nat} {kl ql:List UInt8} {KF KE QF QE:Nat→Prop} (hkl:RdL h KF KE (ka,kl.length,kc) kl) (hql:RdL h QF QE (qa,ql.length,qc) ql):HC Tryz.prog 11 #[.agg #[.int .u8 (u:Int),.int .u8 (v:Int)],.slice a l.length c,.agg #[.int .u8 (fu:Int),.int .u8 (fv:Int),.slice ka kl.length kc,.slice qa ql.length qc]] h (fun v h'=>v=.bool true∧Ext h h'):=by
 have hc2:=hl.m;have ok:=(Hp.nil h none_).old (opw6I (fun j=>EO j∧j<h.size) (a,l.length,c) l) (hl.lt (by decide)) (fun j hj=>hj.2);have hkc:=hkl.c;have hkm:=hkl.m;have hqc:=hql.c;have hqm:=hql.m;simp only at hkc hkm hqc hqm;have ok:=ok.old (rdI (fun j=>QF j∧j<h.size) (fun j=>QE j∧j<h.size) (qa,ql.length,qc) ql) hql.lt (fun j hj=>hj.elim (·.2) (·.2));have ok:=ok.old (rdI (fun j=>KF j∧j<h.size) (fun j=>KE j∧j<h.size) (ka,kl.length,kc) kl) hkl.lt (fun j hj=>hj.elim (·.2) (·.2));have hzb:=sizeZ_b u;have hcn:newN.chg=0:=rfl;have pg0:PgOk (sizeZ u) []:=⟨sizeZ_ok u,by simp,by simp,by simp⟩;refine HC.go Tryz.func11 184 ?_;refine .seq<|.r<|.a' 3 (.bxA (cs:=[.int .u8 (u:Int),.int .u8 (v:Int)]) ok) ?_;rintro _ η1 ⟨pb1,rfl,ok,xe⟩;refine .a' 5 (.bxA (cs:=[.int .u8 (fu:Int),.int .u8 (fv:Int),.slice ka kl.length kc,.slice qa ql.length qc]) ok) ?_;rintro _ η2 ⟨pb2,rfl,ok,xe⟩;refine .z .asB<|.nil ?_;refine .seq<|.r<|.c' 20 .func dgnew_any ?_;rintro _ η3 ⟨dnd1,Fnd1,rfl,q⟩;have ok:=Hp.addM ok q;refine .z .asP<|.nil ?_;refine .seq<|.a 15 (fun fl hh=>Hp h none_ [boxI pb2 90 [.int .u8 (fu:Int),.int .u8 (fv:Int),.slice ka kl.length kc,.slice qa ql.length qc],boxI pb1 64 [.int .u8 (u:Int),.int .u8 (v:Int)]] [rdI (fun j=>KF j∧j<h.size) (fun j=>KE j∧j<h.size) (ka,kl.length,kc) kl,rdI (fun j=>QF j∧j<h.size) (fun j=>QE j∧j<h.size) (qa,ql.length,qc) ql,opw6I (fun j=>EO j∧j<h.size) (a,l.length,c) l] hh) mixed ?_;have hS:=ok.n2.n2.k2;refine .g 0 false rfl 22 hS (fun _=>.mvP)<|.g 1 false rfl 23 hS (fun _=>.ixa 0 T.ar64 T.sz5)<|.lw 2 false rfl 24 hS (fun _ _ hS=>.ldx T.ag5 hS.m1)<|.g 4 false rfl 26 hS (fun _=>.ixa 1 T.ar64 T.sz5)<|.lw 5 false rfl 27 hS (fun _ _ hS=>.ldx T.ag5 hS.m1)<|.g 6 false rfl 28 hS (fun _=>.remn (b:=4))<|.g 7 false rfl 29 hS (fun _=>.cvi T.in3 T.in5)<|.g 8 false rfl 30 hS (fun _=>.addI (b:=1))<|.o1 3<|.k false rfl 25 .func (size13_any (n:=u) (by omega)) hS<|.o1 9<|.c' false rfl 31 .func (gbopen0_any (d:=dnd1) (F:=Fnd1) (D:=newN) (z:=((sizeZ u:Nat):Int)) (room:=(((v%4)+1:Nat):Int)) (Hp.loc0 (ok)) newN_ok (by omega) (by omega) (by rw [(openB_new (z:=sizeZ u) (room:=(((v%4)+1:Nat):Int)) (sizeZ_ok u) ⟨by omega,by omega⟩).1]) (by rw [(openB_new (z:=sizeZ u) (room:=(((v%4)+1:Nat):Int)) (sizeZ_ok u) ⟨by omega,by omega⟩).1];exact ⟨newN_ok,[],(openB_new (z:=sizeZ u) (room:=(((v%4)+1:Nat):Int)) (sizeZ_ok u) ⟨by omega,by omega⟩).2⟩)) ?_;rintro _ η4 ⟨po1,Fo1,rfl,q⟩;have ok:=Hp.lift1 (ok) q;obtain ⟨Ao1,hAo1⟩:∃x:Bk,(openedB (openB newN ((sizeZ u:Nat):Int) (((v%4)+1:Nat):Int)).1 (Int.toNat ((sizeZ u:Nat):Int)) (((v%4)+1:Nat):Int) (openB newN ((sizeZ u:Nat):Int) (((v%4)+1:Nat):Int)).2.1:Bk)=x:=⟨_,rfl⟩;rw [hAo1] at ok;have hA0:Ao1=openedB newN (sizeZ u) (((v%4)+1:Nat):Int) 0:=by rw [←hAo1,(openB_new (z:=sizeZ u) (room:=(((v%4)+1:Nat):Int)) (sizeZ_ok u) ⟨by omega,by omega⟩).1];rfl
 have hrel0:RelB Ao1 (newWp (sizeZ u)).abs:=by rw [hA0];exact relB_new (sizeZ_ok u) ⟨by omega,by omega⟩
 refine ⟨ok.n2.n2.k2,?_⟩;have hS:=ok.n2.n2.k2;refine .g 10 false rfl 21 hS (fun _=>.mvU)<|.g 11 false rfl 32 hS (fun _=>.ex)<|.g 12 false rfl 33 hS (fun _=>.ex)<|.g 13 false rfl 8 hS (fun _=>.asP)<|.g 14 false rfl 9 hS (fun _=>.asI)<|.e ?_;refine .seq<|.r<|.z (.ixa 0 T.ar64 T.sz5)<|.z (.ldx T.ag5 ok.m2)<|.k 36 .func (size13_any (n:=u) (by omega))<|.z (.bd #[.int .i64 ((sizeZ u:Nat):Int),.slice none 0 0,.slice none 0 0,.bool false] T.zr51 T.pl51 rfl)<|.a' 10 (.alA T.zr51 ok) ?_;rintro _ η5 ⟨pb3,rfl,ok,xe⟩;refine .ur' (.stW (vs:=[.int .i64 ((sizeZ u:Nat):Int),.slice none 0 0,.slice none 0 0,.bool false]) T.sz51 ok (oneL rfl)) ?_;rintro η6 ⟨ok,cg⟩;refine .nil ?_;refine .seq<|.seq<|.r<|.z .mvP<|.z (.pEqS T.pt47)<|.z .mvB<|.z .mvI<|.z .neq<|.z .pkf<|.z .mvB<|.z .mvS<|.k 46 .func (small13_any (a:=a) (c:=c) (l:=l) ok.r2)<|.z .not<|.z .pkf<|.nil ?_;refine .cond (fun C0=>?_) (fun C0=>?_)
 ·
  refine .seq<|.r<|.c' 49 .func live13_any ?_;rintro _ η7 ⟨rfl,hx⟩;have ok:=ok.ext hx;refine .z .mvB<|.z .mvP<|.z (.pNeS T.pt47)<|.z .pkt<|.z .asB<|.nil ?_;refine .ret ⟨.bool true,Res.one rfl rfl,⟨rfl,ok.chg⟩⟩
 have hsm:=smallB6_iff.1 (by simpa using C0);have hsm1:=hsm.1;refine .skip<|.seq<|?_;have ok:=ok.dE (dcpI none_ (newWp (sizeZ u))) newWp_doc (fun _ f=>f);refine .r<|.z .mvP<|.z (.fa T.fd90_0)<|.z (.ldx T.ag5 ok.m2)<|.z (.cvi T.in3 T.in5)<|.c' 58 .func (gbcut_any (d:=dnd1) (p:=po1) (F:=Fo1) (A:=Ao1) (z:=((fu:Nat):Int)) (ok.n1).loc0 (by rw [hA0];exact ⟨newN_ok.cut (by omega),fun _=>⟨[],[],(opened_pl (fr:=0) (room:=((v%4+1:Nat):Int)) newB_clean.cut (newN_ok.cut (by omega)) pg0 (by simp) ⟨by omega,by omega⟩ (by simp)).R⟩⟩)) ?_;rintro _ η8 ⟨Fct1,rfl,q⟩;have ok:=(ok.n1).lift1 q;obtain ⟨A1,hA1⟩:∃x:Bk,({ Ao1 with dk:=cutN Ao1.dk ((fu:Nat):Int) } : Bk)=x:=⟨_,rfl⟩;rw [hA1] at ok;have hrel1:RelB A1 (newWp (sizeZ u)).abs:=by rw [←hA1,hA0];exact opened_pl (room:=((v%4+1:Nat):Int)) newB_clean.cut (newN_ok.cut (by omega)) pg0 (by simp) ⟨by omega,by omega⟩ (by simp)
 refine .nil ?_;refine .seq<|.r<|.z .asS<|.nil ?_;refine .seq<|.r<|.z .asB<|.nil ?_;refine .seq<|.seq<|.r<|.z .asI<|.nil ?_;refine .join (fun s hh=>∃(F2:Nat→Prop) (A2:Bk) (E2:Nat→Prop) (w2:RWp) (EM:Nat→Prop) (ma:Option Addr) (mc:Nat) (ml:List RB) (wi:Bool),Has s [(3,.pointer (some ⟨pb1,0,none⟩)),(5,.pointer (some ⟨pb2,0,none⟩)),(7,.pointer (some ⟨dnd1,0,none⟩)),(8,.pointer (some ⟨po1,0,none⟩)),(10,.pointer (some ⟨pb3,0,none⟩)),(11,.slice ma ml.length mc),(12,.bool wi)]∧Hp h none_ [bgI po1 dnd1 F2 A2,boxI pb3 51 [.int .i64 (w2.z:Int),.slice w2.sa w2.sl.length w2.sc,.slice w2.na w2.nl.length w2.nc,.bool w2.i],boxI pb1 64 [.int .u8 (u:Int),.int .u8 (v:Int)],boxI pb2 90 [.int .u8 (fu:Int),.int .u8 (fv:Int),.slice ka kl.length kc,.slice qa ql.length qc]] [dcpI E2 w2,pgwI EM (ma,ml.length,mc) ml,rdI (fun j=>KF j∧j<h.size) (fun j=>KE j∧j<h.size) (ka,kl.length,kc) kl,rdI (fun j=>QF j∧j<h.size) (fun j=>QE j∧j<h.size) (qa,ql.length,qc) ql] hh∧PwT A2 w2.abs wi (pgs ml)∧A2.dk.chg≤125000000∧w2.z=sizeZ u) ?_ ?_
 ·
  refine .block fun K0 hK0=>.loop (fun m s hh=>∃(i:Nat) (F:Nat→Prop) (A:Bk) (E:Nat→Prop) (w:RWp),Has s [(1,.slice a l.length c),(3,.pointer (some ⟨pb1,0,none⟩)),(5,.pointer (some ⟨pb2,0,none⟩)),(7,.pointer (some ⟨dnd1,0,none⟩)),(8,.pointer (some ⟨po1,0,none⟩)),(10,.pointer (some ⟨pb3,0,none⟩)),(11,.slice none 0 0),(12,.bool false),(13,.int .i64 (i:Int))]∧Hp h none_ [bgI po1 dnd1 F A,boxI pb3 51 [.int .i64 (w.z:Int),.slice w.sa w.sl.length w.sc,.slice w.na w.nl.length w.nc,.bool w.i],boxI pb1 64 [.int .u8 (u:Int),.int .u8 (v:Int)],boxI pb2 90 [.int .u8 (fu:Int),.int .u8 (fv:Int),.slice ka kl.length kc,.slice qa ql.length qc]] [dcpI E w,opw6I (fun j=>EO j∧j<h.size) (a,l.length,c) l,rdI (fun j=>KF j∧j<h.size) (fun j=>KE j∧j<h.size) (ka,kl.length,kc) kl,rdI (fun j=>QF j∧j<h.size) (fun j=>QE j∧j<h.size) (qa,ql.length,qc) ql] hh∧i≤l.length∧A.dk.chg≤2000000*i∧RelB A w.abs∧LimW w.abs∧w.z=sizeZ u∧m=l.length-i) ?_ ?_
  ·exact ⟨_,0,Fct1,A1,none_,newWp (sizeZ u),⟨rfl,rfl,rfl,rfl,rfl,rfl,rfl,rfl,rfl,trivial⟩,(ok.n2.n3.n3.n3).k4.f2.f2.f3.f3,Nat.zero_le _,by rw [←hA1,hA0];exact Int.le_of_eq cut_chg,hrel1,newWp_lim,rfl,rfl⟩
  rintro _ _ η9 ⟨i,F,A,E,w,hs,ok,hi,hcg,hrel,hlim,hwz,rfl⟩ J0 hJ0;refine .frame hs fun τ=>?_;refine .seq<|.seq<|.r<|.z .mvI<|.z .mvS<|.z (.len T.el46)<|.z .lss<|.z .mvB<|.sd (fun G63=>?_) (fun G63=>?_)
  ·
   refine .z .mvP<|.k 65 .func (dgdark_any (d:=dnd1) (F:=F) (D:=A.dk) (Hp.loc0 (bg_dgo (ok))))<|.z .not<|.z .pkt<|.nil ?_;refine .condr (fun C1=>?_) (fun C1=>?_)
   ·
    rw [hrel.R.hd] at C1;cases C1
   have hil:i<l.length:=by omega
   have hzw:okSz w.z=true:=by rw [hwz];exact sizeZ_ok _
   have hz256:=okSz_b hzw;have hnl9:w.nl.length≤40:=by have:=hlim.n;rwa [show w.abs.now=pgs w.nl from rfl,pgs_len] at this
   have hsl9:w.sl.length≤40:=by have:=hlim.s;rwa [show w.abs.sure=pgs w.sl from rfl,pgs_len] at this
   have P0:=bg_pl (ok).m0;refine .skip<|.seq<|.block fun K1 hK1=>.seq<|.seq<|.r<|.z .mvS<|.z .mvI<|?_;obtain ⟨bb1,oo1,rfl,fb1⟩:=ok.r1.pos (by omega);refine .z (.ix i T.el46 T.sz54)<|.z (.fa T.fd54_0)<|.z (.ld T.ag5 (sl_at ROp6.cells_len (ok.r1).sl (i:=i) (j:=0) (by omega) rfl))<|.z .eql<|.nil ?_;refine .cd (fun C2=>?_) (fun C2=>?_)
   ·
    refine .exit<|hK1 _ _<|.r<|.z .mvI<|.z (.addI (b:=1))<|.z .asI<|.nil ?_;refine .end<|hJ0 _ _ _ ⟨i+1,F,A,E,w,⟨rfl,rfl,rfl,rfl,rfl,rfl,rfl,rfl,rfl,trivial⟩,(ok).k4.f3.f3.f3.f3,by omega,by omega,hrel,hlim,hwz,rfl⟩ (by omega)
   refine .skip<|.seq<|.r<|.z (.ldb T.ag51 ok.m1 T.sz51)<|.a' 14 (.alA T.zr51 ok) ?_;rintro _ η10 ⟨pb4,rfl,ok,xe⟩;refine .ur' (.stW (vs:=[.int .i64 (w.z:Int),.slice w.sa w.sl.length w.sc,.slice w.na w.nl.length w.nc,.bool w.i]) T.sz51 ok (oneL rfl)) ?_;rintro η11 ⟨ok,cg⟩;refine .nil ?_;refine .seq<|.r<|.z .asI<|.z .asB<|.nil ?_;refine .seq<|?_;have ok:=ok.d1 (rdI (fun j=>EO j∧j<h.size) (fun j=>EO j∧j<h.size) (l[i].ba,l[i].bl.length,l[i].bc) l[i].bl) ((ok.r1).by' _ (List.getElem_mem hil)) (fun _ h=>h.elim id id);refine .a 6 (fun fl hh=>cond fl True (Hp h none_ [boxI pb4 51 [.int .i64 (w.z:Int),.slice w.sa w.sl.length w.sc,.slice w.na w.nl.length w.nc,.bool w.i],boxI pb3 51 [.int .i64 (w.z:Int),.slice w.sa w.sl.length w.sc,.slice w.na w.nl.length w.nc,.bool w.i],boxI pb1 64 [.int .u8 (u:Int),.int .u8 (v:Int)],boxI pb2 90 [.int .u8 (fu:Int),.int .u8 (fv:Int),.slice ka kl.length kc,.slice qa ql.length qc]] [rdI (fun j=>EO j∧j<h.size) (fun j=>EO j∧j<h.size) (l[i].ba,l[i].bl.length,l[i].bc) (l[i].bl),dcpI E w,opw6I (fun j=>EO j∧j<h.size) (some ⟨bb1,oo1,none⟩,l.length,c) l,rdI (fun j=>KF j∧j<h.size) (fun j=>KE j∧j<h.size) (ka,kl.length,kc) kl,rdI (fun j=>QF j∧j<h.size) (fun j=>QE j∧j<h.size) (qa,ql.length,qc) ql] hh)) mixed ?_;have hS:=ok.n4.n4.n4.n3.k4;refine .g 0 false rfl 78 hS (fun _=>.mvP)<|.l 1 false rfl 79 hS (fun _ hS=>.ldb T.ag51 hS.m1 T.sz51)<|.g 2 false rfl 80 hS (fun _=>.mvS)<|.g 3 false rfl 81 hS (fun _=>.mvI)<|.g 4 false rfl 82 hS (fun _=>.ix i T.el46 T.sz54)<|.l 5 false rfl 83 (v:=.agg #[.int .u8 (l[i].k:Int),.int .i64 (l[i].no),.int .i64 (l[i].n),.int .u8 (l[i].fb.toNat:Int),.bool (l[i].hd),.slice (l[i].ba) (l[i].bl.length) (l[i].bc)]) hS (fun _ hS=>.ldc (vs:=ROp6.cells l[i]) T.ag54 (sl_ats ROp6.cells_len (hS.r2).sl (i:=i) (by omega)) T.sz54)<|.o1 6<|.c' true rfl 84 .func (call13_any (p:=po1) (d:=dnd1) (F:=F) (A:=A) (E:=E) (z:=w.z) (sa:=w.sa) (sc:=w.sc) (sl:=w.sl) (na:=w.na) (nc:=w.nc) (nl:=w.nl) (ib:=w.i) (fr:=w.fr) (k:=l[i].k) (no:=l[i].no) (n:=l[i].n) (fb:=l[i].fb) (hd:=l[i].hd) (ba:=l[i].ba) (bc:=l[i].bc) (bl:=l[i].bl) (ok.n1.f1).loc2 (by omega) hzw (by omega) (hop6 _ (List.getElem_mem hil)).1 (hop6 _ (List.getElem_mem hil)).2.1 (hop6 _ (List.getElem_mem hil)).2.2) ?_;rintro _ η12 ⟨Fk1,wk1,Ek1,bk1,rfl,hak1,hbk1,q,hEk1⟩;have Pk1:=bg_pl (ok.n1.f1).m0;have hzk1:=ok.chg.size;have ok:=ok.n1.f1;have ok:=(ok.d0 (dcpI E w) ok.r0 (fun _ h=>h)).turnR q hEk1;obtain ⟨Ak1,hAk1⟩:∃x:Bk,(stepB A w.z l[i].abs).1=x:=⟨_,rfl⟩;rw [show (stepB A w.z ⟨l[i].k,l[i].no,l[i].n,l[i].fb,l[i].hd,l[i].bl⟩).1=Ak1 from hAk1] at ok;have hck1:Ak1.dk.chg≤A.dk.chg+1200000:=by rw [←hAk1];exact (step_pl Pk1).2
   have hstk1:=hrel.step (x:=l[i].abs);have hlimk1:LimW wk1.abs:=by rw [hak1];exact hlim.step (of_decide_eq_true (hsm.2 i hil))
   have hwzk1:wk1.z=sizeZ u:=(congrArg WPg.z hak1).trans (step_z.trans hwz);refine ⟨trivial,?_⟩;refine .g 7 true rfl 77 trivial (fun _=>.mvU)<|.g 8 true rfl 85 trivial (fun _=>.ex)<|.g 9 true rfl 86 trivial (fun _=>.ex)<|.g 10 true rfl 87 trivial (fun _=>.ex)<|.o1 11<|.ur' true rfl (.stW (vs:=[.int .i64 (wk1.z:Int),.slice wk1.sa wk1.sl.length wk1.sc,.slice wk1.na wk1.nl.length wk1.nc,.bool wk1.i]) T.sz51 ok.n2 (oneL rfl)) ?_;rintro η13 ⟨ok,cg⟩;refine ⟨trivial,?_⟩;refine .g 12 true rfl 15 trivial (fun _=>.asI)<|.g 13 true rfl 16 trivial (fun _=>.asB)<|.e ?_;refine .seq<|.seq<|.r<|.z .mvI<|.z .eql<|.nil ?_;refine .cd (fun C3=>?_) (fun C3=>?_)
   ·
    have h13:(stepB A w.z l[i].abs).2=13:=by have h8:(((stepB A w.z l[i].abs).2:Nat):Int)=13:=C3;omega
    refine .seq<|.r<|.z .mvS<|.z .mvI<|.z (.ix i T.el46 T.sz54)<|.z (.fa T.fd54_0)<|.z (.ld T.ag5 (sl_at ROp6.cells_len (ok.r3).sl (i:=i) (j:=0) (by omega) rfl))<|.z (.remn (b:=6))<|.z .eql<|.z .mvB<|.sd (fun G97=>?_) (fun G97=>?_)
    ·
     refine .z (.fa T.fd51_3)<|.z (.ldx T.ag4 ok.m2)<|.z .pkt<|.z .asB<|.nil ?_;refine .seq<|?_;have ok:=ok.d1 (pgwI E (w.na,w.nl.length,w.nc) w.nl) ((show DocP _ _ w from ok.r1).n) (fun _ h=>h);refine .r<|.z (.fa T.fd51_2)<|.z (.ldx T.ag26 ok.m2)<|.z .asS<|.nil ?_;refine .seq<|.r<|.z (.ldb T.ag51 ok.m2 T.sz51)<|.ur' (.stW (vs:=[.int .i64 (w.z:Int),.slice w.sa w.sl.length w.sc,.slice w.na w.nl.length w.nc,.bool w.i]) T.sz51 ok (oneL rfl)) ?_;rintro η14 ⟨ok,cg⟩;refine .nil ?_;refine .exit<|hK0 _ _<|.end<|⟨Fk1,Ak1,E,w,E,w.na,w.nc,w.nl,w.i,⟨rfl,rfl,rfl,rfl,rfl,rfl,rfl,trivial⟩,(ok.n4.n4.n2.n3).k4.f6.f6.f2.f4.e4,(by have h9:=pwt_fail hrel hlim (x:=l[i].abs) (wi:=w.i) h13 (fun _=>rfl) (fun h=>absurd (show l[i].k%6=3 by omega) h);rw [show (stepB A w.abs.z l[i].abs).1=Ak1 from hAk1] at h9;exact h9),by omega,hwz⟩
    refine .y<|.y<|.z .pkf<|.z .asB<|.nil ?_;refine .seq<|?_;have ok:=ok.d1 (pgwI E (w.na,w.nl.length,w.nc) w.nl) ((show DocP _ _ w from ok.r1).n) (fun _ h=>h);refine .r<|.z (.fa T.fd51_2)<|.z (.ldx T.ag26 ok.m2)<|.z .asS<|.nil ?_;refine .seq<|.r<|.z (.ldb T.ag51 ok.m2 T.sz51)<|.ur' (.stW (vs:=[.int .i64 (w.z:Int),.slice w.sa w.sl.length w.sc,.slice w.na w.nl.length w.nc,.bool w.i]) T.sz51 ok (oneL rfl)) ?_;rintro η15 ⟨ok,cg⟩;refine .nil ?_;refine .exit<|hK0 _ _<|.end<|⟨Fk1,Ak1,E,w,E,w.na,w.nc,w.nl,false,⟨rfl,rfl,rfl,rfl,rfl,rfl,rfl,trivial⟩,(ok.n4.n4.n2.n3).k4.f6.f6.f2.f4.e4,(by have h9:=pwt_fail hrel hlim (x:=l[i].abs) (wi:=false) h13 (fun h=>absurd (show ((l[i].k%6:Nat):Int)=3 by have h8:l[i].k%6=3:=h;omega) G97) (fun _=>rfl);rw [show (stepB A w.abs.z l[i].abs).1=Ak1 from hAk1] at h9;exact h9),by omega,hwz⟩
   obtain ⟨htk1,hRk1,_⟩:=hstk1.resolve_right fun h9=>C3 (congrArg (fun n:Nat=>(n:Int)) h9.1);have hrelk1:RelB Ak1 wk1.abs:=by rw [hak1,←hAk1];exact hRk1
   refine .skip<|.seq<|.r<|.z .mvB<|.z .not<|.nil ?_;refine .cond (fun C4=>?_) (fun C4=>?_)
   ·
    have h8:=hbk1.2 htk1;rw [h8] at C4;cases C4
   refine .skip<|.end<|hK1 _ _<|.r<|.z .mvI<|.z (.addI (b:=1))<|.z .asI<|.nil ?_;refine .end<|hJ0 _ _ _ ⟨i+1,Fk1,Ak1,Ek1,wk1,⟨rfl,rfl,rfl,rfl,rfl,rfl,rfl,rfl,rfl,trivial⟩,(ok.n4.n4.n2.n3).k4.f5.f5.f5.f3.e4,by omega,by omega,hrelk1,hlimk1,hwzk1,rfl⟩ (by omega)
  have ok:=ok.dE (pgwI none_ (none,0,0) ([]:List RB)) (RwB.nil _ _ 0 (by decide)) (fun _ f=>f);refine .y<|.y<|.y<|.z .pkf<|.nil ?_;refine .cf<|.exit<|hK0 _ _<|.end<|⟨F,A,E,w,none_,none,0,([]:List RB),false,⟨rfl,rfl,rfl,rfl,rfl,rfl,rfl,trivial⟩,(ok).k4.f4.f4.f2.f3.e4,pwt_good hrel hlim,by omega,hwz⟩
 rintro s η16 ⟨F2,A2,E2,w2,EM,ma,mc,ml,wi,hs,ok,hps,hcg2,hwz2⟩;refine .frame hs fun τ=>?_;have Px:=bg_pl (ok).m0;have hkA:=Px.ok;have hmm2:=ok.r1.m;have hwsm:w2.sl.length≤w2.sc∧w2.sc≤9223372036854775807:=(show DocP _ _ w2 from ok.r0).s.m;refine .seq<|.seq<|.join (fun s hh=>∃(F3:Nat→Prop) (t121:Bool),Has s [(3,.pointer (some ⟨pb1,0,none⟩)),(5,.pointer (some ⟨pb2,0,none⟩)),(7,.pointer (some ⟨dnd1,0,none⟩)),(10,.pointer (some ⟨pb3,0,none⟩)),(11,.slice ma ml.length mc),(12,.bool wi),(121,.bool t121)]∧Hp h none_ [bgI po1 dnd1 F3 A2,boxI pb3 51 [.int .i64 (w2.z:Int),.slice w2.sa w2.sl.length w2.sc,.slice w2.na w2.nl.length w2.nc,.bool w2.i],boxI pb1 64 [.int .u8 (u:Int),.int .u8 (v:Int)],boxI pb2 90 [.int .u8 (fu:Int),.int .u8 (fv:Int),.slice ka kl.length kc,.slice qa ql.length qc]] [dcpI E2 w2,pgwI EM (ma,ml.length,mc) ml,rdI (fun j=>KF j∧j<h.size) (fun j=>KE j∧j<h.size) (ka,kl.length,kc) kl,rdI (fun j=>QF j∧j<h.size) (fun j=>QE j∧j<h.size) (qa,ql.length,qc) ql] hh∧t121=false) ?_ ?_
 ·
  refine .r<|.z .mvP<|.k 107 .func (dgdark_any (d:=dnd1) (F:=F2) (D:=A2.dk) (Hp.loc0 (bg_dgo (ok))))<|.z .mvB<|.spl (fun G108=>?_) (fun G108=>?_)
  ·
   have hd9:A2.broken=true:=hps.dk (by simpa using G108);have hb9:beginB A2=(A2,13):=if_pos hd9;refine .z .mvP<|.c' 110 .func (gbbegin_any (p:=po1) (d:=dnd1) (F:=F2) (A:=A2) (ok).loc0 (by omega)) ?_;rintro _ η17 ⟨Fg1,rfl,q⟩;have Pg1:=bg_pl (ok).m0;have ok:=(ok).lift1 q;obtain ⟨Ag1,hAg1⟩:∃x:Bk,(beginB A2).1=x:=⟨_,rfl⟩;rw [hAg1] at ok;have hcg1:Ag1.dk.chg≤A2.dk.chg+1200000:=by rw [←hAg1];exact (by rw [Pg1.begin.2];omega)
   obtain rfl:A2=Ag1:=(congrArg Prod.fst hb9).symm.trans hAg1;refine .z .neq<|.z .mvB<|.sd (fun G112=>?_) (fun G112=>?_)
   ·
    exact absurd (by rw [hb9];rfl) G112
   refine .z .mvP<|.k 114 .func (gbPages_any (p:=po1) (d:=dnd1) (F:=Fg1) (A:=A2) ok.m0)<|.z .neq<|.z .pkf<|.z .mvB<|.sd (fun G117=>?_) (fun G117=>?_)
   ·
    exact absurd (by rw [if_pos hd9];rfl) G117
   refine .z .mvP<|.k 119 .func (gbin_any (p:=po1) (d:=dnd1) (F:=Fg1) (A:=A2) ok.m0)<|.z .pkf<|.z .pkt<|.nil ?_;refine .end<|⟨Fg1,(!A2.broken && A2.in_),⟨rfl,rfl,rfl,rfl,rfl,rfl,rfl,trivial⟩,(ok).k4.f3.f3.f3.f3,(by rw [hd9];rfl)⟩
  refine .y<|.y<|.y<|.y<|.y<|.y<|.y<|.y<|.y<|.y<|.y<|.y<|.z .pkf<|.nil ?_;refine .end<|⟨F2,false,⟨rfl,rfl,rfl,rfl,rfl,rfl,rfl,trivial⟩,(ok).k4.f3.f3.f3.f3,rfl⟩
 rintro s η18 ⟨F3,t121,hs,ok,h121⟩;refine .frame hs fun τ=>?_;subst h121;refine .cf<|.skip<|.seq<|.r<|.z .mvP<|.z (.fa T.fd90_2)<|.z (.ldx T.ag22 ok.m3)<|.c' 125 .func (dgcrash_any (d:=dnd1) (F:=F3) (D:=A2.dk) (a:=ka) (c:=kc) (l:=kl) (Hp.loc1 (bg_dgo (ok.f2))) hkA (by omega)) ?_;rintro _ η19 ⟨Scr1,Fcr1,rfl,hKcr1,q⟩;have ok:=(bg_dgo (ok.f2)).lift1 q;obtain ⟨D1,hD1⟩:∃x:Dk,crashN A2.dk Scr1 kl=x:=⟨_,rfl⟩;rw [hD1] at ok;refine .nil ?_;refine .seq<|.r<|.z .mvP<|.z (.fa T.fd90_1)<|.z (.ldx T.ag5 ok.m3)<|.z (.remn (b:=16))<|.z (.cvi T.in3 T.in5)<|.c' 131 .func (dgcut_any (d:=dnd1) (F:=Fcr1) (D:=D1) (z:=(((fv%16):Nat):Int)) (ok).loc0) ?_;rintro _ η20 ⟨Fct2,rfl,q⟩;have ok:=(ok).lift1 q;obtain ⟨D2,hD2⟩:∃x:Dk,cutN D1 (((fv%16):Nat):Int)=x:=⟨_,rfl⟩;rw [hD2] at ok;refine .nil ?_;refine .seq<|?_;have hkD2:DkOk D2:=by rw [←hD2,←hD1];exact hkA.crash.cut (by omega)
 have hc2:D2.chg=A2.dk.chg:=by rw [←hD2,cut_chg,←hD1];rfl
 obtain ⟨s9,hs9,hp9,hl9,hop⟩:=pwt_crash (ns:=Scr1) (ks:=kl) (y:=((fv%16:Nat):Int)) (room:=2) hps hkA hKcr1 (by omega) (by omega);have hzz:w2.abs.z=sizeZ u:=hwz2;rw [hD1,hD2,hzz] at hop;rw [hzz] at hp9;unfold OpdB at hop;refine .r<|.z .mvP<|.z (.ixa 0 T.ar64 T.sz5)<|.z (.ldx T.ag5 ok.m2)<|.k 136 .func (size13_any (n:=u) (by omega))<|.c' 137 .func (gbopen_any (d:=dnd1) (F:=Fct2) (D:=D2) (z:=((sizeZ u:Nat):Int)) (room:=2) (Hp.loc0 (ok)) hkD2 (by omega) (by omega) (fun h=>hop.elim (fun h2=>⟨(opnB_dk hkD2).1,s9,by rw [h2.1];exact opened_rl h2.2 (opnB_dk hkD2).1 hp9 (most_40 hp9 hl9) ⟨by omega,by omega⟩⟩) (fun h2=>by rw [h2.1] at h;cases h))) ?_;rintro _ η21 (⟨Fo2,heo2,rfl,q⟩ | ⟨po2,Fo2,heo2,rfl,q⟩)
 ·
  have ok:=Hp.lift1 (ok) q;have hop2:=hop.resolve_left fun h=>heo2 (by rw [h.1]);obtain ⟨D3,hD3⟩:∃x:Dk,(openB D2 ((sizeZ u:Nat):Int) 2).1=x:=⟨_,rfl⟩;rw [hD3] at ok hop2;have hkD3:DkOk D3:=by rw [←hD3];exact (opnB_dk hkD2).1
  have hc3:D3.chg≤D2.chg+17000000:=by rw [←hD3];exact (opnB_dk hkD2).2
  refine .z .mvU<|.z .ex<|.z .ex<|.z .asP<|.z .asI<|.nil ?_;refine .seq<|.seq<|.r<|.z .mvI<|.z .eql<|.nil ?_;refine .join (fun s hh=>∃(p5:Nat) (F5:Nat→Prop) (D5:Dk) (rm5:Int),Has s [(7,.pointer (some ⟨dnd1,0,none⟩)),(10,.pointer (some ⟨pb3,0,none⟩)),(11,.slice ma ml.length mc),(12,.bool wi),(17,.pointer (some ⟨p5,0,none⟩)),(18,.int .i64 0)]∧Hp h none_ [bgI p5 dnd1 F5 (openedB D5 (sizeZ u) rm5 (s9.length*sizeZ u)),boxI pb3 51 [.int .i64 (w2.z:Int),.slice w2.sa w2.sl.length w2.sc,.slice w2.na w2.nl.length w2.nc,.bool w2.i]] [dcpI E2 w2,pgwI EM (ma,ml.length,mc) ml] hh∧CleanB s9 D5∧DkOk D5∧D5.chg≤280000000∧(1≤rm5∧rm5≤1048576)) ?_ ?_
  ·
   refine .cd (fun C6=>?_) (fun C6=>?_)
   ·
    refine .seq<|.r<|.z .mvP<|.z (.fa T.fd90_3)<|.z (.ldx T.ag22 ok.m3)<|.c' 145 .func (dgcrash_any (d:=dnd1) (F:=Fo2) (D:=D3) (a:=qa) (c:=qc) (l:=ql) (Hp.loc1 (ok.f3)) hkD3 (by omega)) ?_;rintro _ η22 ⟨Scr2,Fcr2,rfl,hKcr2,q⟩;have ok:=(ok.f3).lift1 q;obtain ⟨D4,hD4⟩:∃x:Dk,crashN D3 Scr2 ql=x:=⟨_,rfl⟩;rw [hD4] at ok;refine .nil ?_;have hop4:=bgd_crash (ns:=Scr2) (ks:=ql) (room:=1) hop2.2.2 hp9 hl9 hkD3 hKcr2 (by omega);rw [hD4] at hop4;have hkD4:DkOk D4:=by rw [←hD4];exact hkD3.crash
    have hc4:D4.chg=D3.chg:=by rw [←hD4];rfl
    refine .r<|.z .mvP<|.z (.ixa 0 T.ar64 T.sz5)<|.z (.ldx T.ag5 ok.m2)<|.k 150 .func (size13_any (n:=u) (by omega))<|.c' 151 .func (gbopen0_any (d:=dnd1) (F:=Fcr2) (D:=D4) (z:=((sizeZ u:Nat):Int)) (room:=1) (Hp.loc0 (ok)) hkD4 (by omega) (by omega) (by rw [hop4.1]) ⟨(opnB_dk hkD4).1,s9,by rw [hop4.1];exact opened_rl hop4.2 (opnB_dk hkD4).1 hp9 (most_40 hp9 hl9) ⟨by omega,by omega⟩⟩) ?_;rintro _ η23 ⟨po3,Fo3,rfl,q⟩;have ok:=Hp.lift1 (ok) q;obtain ⟨Ao3,hAo3⟩:∃x:Bk,(openedB (openB D4 ((sizeZ u:Nat):Int) 1).1 (Int.toNat ((sizeZ u:Nat):Int)) 1 (openB D4 ((sizeZ u:Nat):Int) 1).2.1:Bk)=x:=⟨_,rfl⟩;rw [hAo3] at ok;have hAe:Ao3=(openedB (openB D4 ((sizeZ u:Nat):Int) 1).1 (sizeZ u) 1 (s9.length*sizeZ u)):=by rw [←hAo3,show (openB D4 ((sizeZ u:Nat):Int) 1).2.1=s9.length*sizeZ u from congrArg Prod.fst hop4.1];rfl
    rw [hAe] at ok;have hcq:=(opnB_dk (z:=sizeZ u) (room:=1) hkD4).2;have hcl5:=hop4.2;have hk5:=(opnB_dk (z:=sizeZ u) (room:=1) hkD4).1;refine .z .mvU<|.z .ex<|.z .ex<|.z .asP<|.z .asI<|.nil ?_;refine .end<|⟨po3,Fo3,(openB D4 ((sizeZ u:Nat):Int) 1).1,1,⟨rfl,rfl,rfl,rfl,rfl,rfl,trivial⟩,(ok).k2.f3.f3.e2,hcl5,hk5,by omega,⟨by omega,by omega⟩⟩
   exact absurd (by rw [hop2.1];rfl) C6
  rintro s η24 ⟨p5,F5,D5,rm5,hs,ok,hcl5,hk5,hc5,hr5⟩;refine .frame hs fun τ=>?_;refine .seq<|.r<|.z .mvP<|.c' 155 .func (gbcut_any (d:=dnd1) (p:=p5) (F:=F5) (A:=(openedB D5 (sizeZ u) rm5 (s9.length*sizeZ u))) (z:=(-1)) (ok).loc0 ⟨hk5.cut (by omega),fun _=>⟨s9,s9,(opened_pl (fr:=0) hcl5.cut (hk5.cut (by omega)) hp9 hl9 hr5 rfl).R⟩⟩) ?_;rintro _ η25 ⟨Fct3,rfl,q⟩;have ok:=(ok).lift1 q;obtain ⟨A6,hA6⟩:∃x:Bk,({ (openedB D5 (sizeZ u) rm5 (s9.length*sizeZ u)) with dk:=cutN (openedB D5 (sizeZ u) rm5 (s9.length*sizeZ u)).dk (-1) } : Bk)=x:=⟨_,rfl⟩;rw [hA6] at ok;have hrel6:RelB A6 ⟨sizeZ u,s9,[],false,0⟩:=by rw [←hA6];exact opened_pl hcl5.cut (hk5.cut (by omega)) hp9 hl9 hr5 rfl
  have hlf6:A6.dk.left<0:=by rw [←hA6];exact cut_neg hcl5
  have hcg6:A6.dk.chg≤280000000:=by rw [←hA6];exact Int.le_trans (Int.le_of_eq cut_chg) hc5
  refine .nil ?_;refine .seq<|.seq<|.r<|.z .mvP<|.z (.pEqS T.pt47)<|.z .mvB<|.z .mvI<|.z .neq<|.z .pkf<|.nil ?_;refine .cf<|.skip<|.seq<|.r<|.z .mvP<|.c' 163 .func (pages13_any (p:=p5) (d:=dnd1) (F:=Fct3) (A:=A6) (ok).loc0 (by omega) hrel6 hlf6) ?_;rintro _ η26 ⟨Fg2,Eg2,Ag2,ag2,cg2,lg2,rfl,hpg2,hrelg2,hlfg2,hcpg2,q,hEg2⟩;have ok:=(ok).liftR q hEg2;refine .z .asS<|.nil ?_;refine .seq<|.seq<|?_;have hgot:pgs lg2=s9:=hpg2.trans (List.take_of_length_le (Nat.le_trans hl9 (by decide)));have hlg:lg2.length=s9.length:=by rw [←hgot,pgs_len]
  have hPg:=hrelg2.pages;have ok:=ok.d1 (pgwI E2 (w2.sa,w2.sl.length,w2.sc) w2.sl) ((show DocP _ _ w2 from ok.r1).s) (fun _ h=>h);refine .r<|.z .mvS<|.z (.len T.el26)<|.z .mvP<|.k 167 .func (gbPages_any (p:=p5) (d:=dnd1) (F:=Fg2) (A:=Ag2) ok.m0)<|.z .neq<|.nil ?_;refine .cd (fun C8=>?_) (fun C8=>?_)
  ·
   exact absurd (show ((lg2.length:Nat):Int)=_ by rw [hPg,hlg];rfl) C8
  refine .skip<|.seq<|.r<|.c' 169 .func live13_any ?_;rintro _ η27 ⟨rfl,hx⟩;have ok:=ok.ext hx;refine .z .mvB<|.z .mvS<|.z (.fa T.fd51_1)<|.z (.ldx T.ag26 ok.m1)<|.c' 174 .func (qsame_any (E:=Eg2) (E':=E2) (xa:=ag2) (ya:=w2.sa) (xc:=cg2) (yc:=w2.sc) (xl:=lg2) (yl:=w2.sl) ok.r1 ok.r0) ?_;rintro _ η28 ⟨rfl,hx⟩;have ok:=ok.ext hx;refine .z .mvB<|.sd (fun G175=>?_) (fun G175=>?_)
  ·
   refine .y<|.y<|.y<|.y<|.y<|.y<|.z .pkt<|.z .pkt<|.z .asB<|.nil ?_;refine .ret ⟨.bool true,Res.one rfl rfl,⟨rfl,ok.chg⟩⟩
  refine .z .mvB<|.z .mvB<|.spl (fun G177=>?_) (fun G177=>?_)
  ·
   refine .z .mvS<|.z .mvS<|.c' 180 .func (qsame_any (E:=Eg2) (E':=EM) (xa:=ag2) (ya:=ma) (xc:=cg2) (yc:=mc) (xl:=lg2) (yl:=ml) ok.r1 ok.r3) ?_;rintro _ η29 ⟨rfl,hx⟩;have ok:=ok.ext hx;refine .z .pkt<|.z .pkf<|.z .pkt<|.z .asB<|.nil ?_;refine .ret ⟨.bool (decide (pgs lg2=pgs ml)),Res.one rfl rfl,⟨congrArg Value.bool (decide_eq_true (hgot.trans (hs9.elim (fun h=>absurd (hgot.trans h) G175) (fun h=>h.2)))),ok.chg⟩⟩
  exact absurd (hs9.elim (fun h=>absurd (hgot.trans h) G175) (fun h=>h.1)) (by rw [G177];decide)
 have ok:=Hp.lift1 (ok) q;obtain ⟨Ao2,hAo2⟩:∃x:Bk,(openedB (openB D2 ((sizeZ u:Nat):Int) 2).1 (Int.toNat ((sizeZ u:Nat):Int)) 2 (openB D2 ((sizeZ u:Nat):Int) 2).2.1:Bk)=x:=⟨_,rfl⟩;rw [hAo2] at ok;have hop3:=hop.resolve_right fun h=>by have h8:=congrArg Prod.snd h.1;rw [heo2] at h8;cases h8
 have hAe:Ao2=(openedB (openB D2 ((sizeZ u:Nat):Int) 2).1 (sizeZ u) 2 (s9.length*sizeZ u)):=by rw [←hAo2,show (openB D2 ((sizeZ u:Nat):Int) 2).2.1=s9.length*sizeZ u from congrArg Prod.fst hop3.1];rfl
 rw [hAe] at ok;have hcq:=(opnB_dk (z:=sizeZ u) (room:=2) hkD2).2;have hcl5:=hop3.2;have hk5:=(opnB_dk (z:=sizeZ u) (room:=2) hkD2).1;refine .z .mvU<|.z .ex<|.z .ex<|.z .asP<|.z .asI<|.nil ?_;refine .seq<|.seq<|.r<|.z .mvI<|.z .eql<|.nil ?_;refine .join (fun s hh=>∃(p5:Nat) (F5:Nat→Prop) (D5:Dk) (rm5:Int),Has s [(7,.pointer (some ⟨dnd1,0,none⟩)),(10,.pointer (some ⟨pb3,0,none⟩)),(11,.slice ma ml.length mc),(12,.bool wi),(17,.pointer (some ⟨p5,0,none⟩)),(18,.int .i64 0)]∧Hp h none_ [bgI p5 dnd1 F5 (openedB D5 (sizeZ u) rm5 (s9.length*sizeZ u)),boxI pb3 51 [.int .i64 (w2.z:Int),.slice w2.sa w2.sl.length w2.sc,.slice w2.na w2.nl.length w2.nc,.bool w2.i]] [dcpI E2 w2,pgwI EM (ma,ml.length,mc) ml] hh∧CleanB s9 D5∧DkOk D5∧D5.chg≤280000000∧(1≤rm5∧rm5≤1048576)) ?_ ?_
 ·
  refine .cf<|.skip<|.end<|⟨po2,Fo2,(openB D2 ((sizeZ u:Nat):Int) 2).1,2,⟨rfl,rfl,rfl,rfl,rfl,rfl,trivial⟩,(ok).k2.f2.f2.e2,hcl5,hk5,by omega,⟨by omega,by omega⟩⟩
 rintro s η30 ⟨p5,F5,D5,rm5,hs,ok,hcl5,hk5,hc5,hr5⟩;refine .frame hs fun τ=>?_;refine .seq<|.r<|.z .mvP<|.c' 155 .func (gbcut_any (d:=dnd1) (p:=p5) (F:=F5) (A:=(openedB D5 (sizeZ u) rm5 (s9.length*sizeZ u))) (z:=(-1)) (ok).loc0 ⟨hk5.cut (by omega),fun _=>⟨s9,s9,(opened_pl (fr:=0) hcl5.cut (hk5.cut (by omega)) hp9 hl9 hr5 rfl).R⟩⟩) ?_;rintro _ η31 ⟨Fct4,rfl,q⟩;have ok:=(ok).lift1 q;obtain ⟨A6,hA6⟩:∃x:Bk,({ (openedB D5 (sizeZ u) rm5 (s9.length*sizeZ u)) with dk:=cutN (openedB D5 (sizeZ u) rm5 (s9.length*sizeZ u)).dk (-1) } : Bk)=x:=⟨_,rfl⟩;rw [hA6] at ok;have hrel6:RelB A6 ⟨sizeZ u,s9,[],false,0⟩:=by rw [←hA6];exact opened_pl hcl5.cut (hk5.cut (by omega)) hp9 hl9 hr5 rfl
 have hlf6:A6.dk.left<0:=by rw [←hA6];exact cut_neg hcl5
 have hcg6:A6.dk.chg≤280000000:=by rw [←hA6];exact Int.le_trans (Int.le_of_eq cut_chg) hc5
 refine .nil ?_;refine .seq<|.seq<|.r<|.z .mvP<|.z (.pEqS T.pt47)<|.z .mvB<|.z .mvI<|.z .neq<|.z .pkf<|.nil ?_;refine .cf<|.skip<|.seq<|.r<|.z .mvP<|.c' 163 .func (pages13_any (p:=p5) (d:=dnd1) (F:=Fct4) (A:=A6) (ok).loc0 (by omega) hrel6 hlf6) ?_;rintro _ η32 ⟨Fg3,Eg3,Ag3,ag3,cg3,lg3,rfl,hpg3,hrelg3,hlfg3,hcpg3,q,hEg3⟩;have ok:=(ok).liftR q hEg3;refine .z .asS<|.nil ?_;refine .seq<|.seq<|?_;have hgot:pgs lg3=s9:=hpg3.trans (List.take_of_length_le (Nat.le_trans hl9 (by decide)));have hlg:lg3.length=s9.length:=by rw [←hgot,pgs_len]
 have hPg:=hrelg3.pages;have ok:=ok.d1 (pgwI E2 (w2.sa,w2.sl.length,w2.sc) w2.sl) ((show DocP _ _ w2 from ok.r1).s) (fun _ h=>h);refine .r<|.z .mvS<|.z (.len T.el26)<|.z .mvP<|.k 167 .func (gbPages_any (p:=p5) (d:=dnd1) (F:=Fg3) (A:=Ag3) ok.m0)<|.z .neq<|.nil ?_;refine .cd (fun C8=>?_) (fun C8=>?_)
 ·
  exact absurd (show ((lg3.length:Nat):Int)=_ by rw [hPg,hlg];rfl) C8
 refine .skip<|.seq<|.r<|.c' 169 .func live13_any ?_;rintro _ η33 ⟨rfl,hx⟩;have ok:=ok.ext hx;refine .z .mvB<|.z .mvS<|.z (.fa T.fd51_1)<|.z (.ldx T.ag26 ok.m1)<|.c' 174 .func (qsame_any (E:=Eg3) (E':=E2) (xa:=ag3) (ya:=w2.sa) (xc:=cg3) (yc:=w2.sc) (xl:=lg3) (yl:=w2.sl) ok.r1 ok.r0) ?_;rintro _ η34 ⟨rfl,hx⟩;have ok:=ok.ext hx;refine .z .mvB<|.sd (fun G175=>?_) (fun G175=>?_)
 ·
  refine .y<|.y<|.y<|.y<|.y<|.y<|.z .pkt<|.z .pkt<|.z .asB<|.nil ?_;refine .ret ⟨.bool true,Res.one rfl rfl,⟨rfl,ok.chg⟩⟩
 refine .z .mvB<|.z .mvB<|.spl (fun G177=>?_) (fun G177=>?_)
 ·
  refine .z .mvS<|.z .mvS<|.c' 180 .func (qsame_any (E:=Eg3) (E':=EM) (xa:=ag3) (ya:=ma) (xc:=cg3) (yc:=mc) (xl:=lg3) (yl:=ml) ok.r1 ok.r3) ?_;rintro _ η35 ⟨rfl,hx⟩;have ok:=ok.ext hx;refine .z .pkt<|.z .pkf<|.z .pkt<|.z .asB<|.nil ?_;refine .ret ⟨.bool (decide (pgs lg3=pgs ml)),Res.one rfl rfl,⟨congrArg Value.bool (decide_eq_true (hgot.trans (hs9.elim (fun h=>absurd (hgot.trans h) G175) (fun h=>h.2)))),ok.chg⟩⟩
 exact absurd (hs9.elim (fun h=>absurd (hgot.trans h) G175) (fun h=>h.1)) (by rw [G177];decide)
structure RFt where
 c:UInt8
 g:UInt8
 ka:Option Addr
 kc:Nat
 kl:List UInt8
 qa:Option Addr
 qc:Nat
 ql:List UInt8
def RFt.cells (x:RFt):List Value:=[bv x.c,bv x.g,.slice x.ka x.kl.length x.kc,.slice x.qa x.ql.length x.qc]
theorem opn_fate:Opn Tryz.prog 90 (fun h cs (x:RFt)=>cs=x.cells∧RdL h any_ any_ (x.ka,x.kl.length,x.kc) x.kl∧RdL h any_ any_ (x.qa,x.ql.length,x.qc) x.ql):=⟨fun hx=>by
 have hl:=(opn_struct Tryz.underlying90 hx).1;have f0:=opn_field T.fd90_0 hx (Opn.u8 Tryz.underlying5);have f1:=opn_field T.fd90_1 hx (Opn.u8 Tryz.underlying5);have f2:=opn_field T.fd90_2 hx (Opn.bytes Tryz.underlying22 Tryz.underlying5 (by kernel_rfl));have f3:=opn_field T.fd90_3 hx (Opn.bytes Tryz.underlying22 Tryz.underlying5 (by kernel_rfl));obtain ⟨c0,c1,c2,c3,rfl⟩:=len4 (hl.trans (by kernel_rfl:_=4));obtain ⟨k,h0⟩:=f0;obtain ⟨g,h1⟩:=f1;obtain ⟨b,⟨a,n,c⟩,h2,hb⟩:=f2;obtain ⟨b',⟨a',n',c'⟩,h3,hb'⟩:=f3;simp at h0 h1 h2 h3;subst h0 h1 h2 h3;have r:=RdL.ofBytes (E:=any_) hb;have r':=RdL.ofBytes (E:=any_) hb';obtain rfl:n=b.length:=r.n;obtain rfl:n'=b'.length:=r'.n;exact ⟨⟨k,g,a,c,b,a',c',b'⟩,rfl,r.mono (fun _ _=>trivial) (fun _ _=>trivial),r'.mono (fun _ _=>trivial) (fun _ _=>trivial)⟩⟩
theorem bpower_row {h:Heap} {a:Option Addr} {n c:Nat} {l:List ROp6} {x y:UInt8} {o:RFt} (hl:RwB 6 ROp6.cells ROp6.sb h any_ (a,n,c) l∧OpsOk6 l) (ho:RdL h any_ any_ (o.ka,o.kl.length,o.kc) o.kl∧RdL h any_ any_ (o.qa,o.ql.length,o.qc) o.ql):HC Tryz.prog 11 #[.agg #[bv x,bv y],.slice a n c,.agg o.cells.toArray] h (fun v h'=>v=.bool true∧Ext h h'):=by
 obtain ⟨hl,hs⟩:=hl;obtain rfl:n=l.length:=hl.n;exact bpower_walk hl hs x.toNat_lt y.toNat_lt o.c.toNat_lt o.g.toNat_lt ho.1 ho.2
open Go.ChangeShapes Go.WideShapes Go.ChangeAt Go.RowKit
theorem backPower_lifted (os:Os) (started:os.Started) (H:Type) (enc:TypeId × Value→H) :
  ReturnsInHanded {} Tryz.checked os 11 .any (Rows.backPowerSpec.pre6 enc Tryz.prog Tryz.f11 Rows.backPowerRow.domain false) (Rows.backPowerSpec.post enc Tryz.prog Tryz.f11 false true false false):=by
 refine returnsInHanded_of_change (C:=Tryz.checked) own_knob started (by kernel_rfl) Tryz.func11
  (ChangeSpec.witness6 (enc:=enc) (C:=Tryz.checked) false ⟨#[],#[.agg #[.int .u8 0,.int .u8 0],.slice none 0 0,.agg #[.int .u8 0,.int .u8 0,.slice none 0 0,.slice none 0 0]],[]⟩ 8 (by kernel_rfl) (by kernel_rfl) (by kernel_rfl) (by kernel_rfl)) ?_
 intro W base args ds gs before hval0 hW hcnd _;have hval:∀(j:Nat) t v,Tryz.f11.params[j]? = some t→args[j]? = some v→Value.okWide Tryz.prog W .any base t v:=hval0;have hW':=hW;obtain ⟨p,q,hA0,hV,rfl,hfz,hnd⟩:=hW;have hA:DataW.TrodAll enc Tryz.prog W 0 (fun _=>true) true Tryz.f11.params.toList args.toList ds p:=hA0;rw [Tryz.params11] at hA hval;obtain ⟨v0,vs0,d0,ds0,p0,q0,hargs,rfl,rfl,h0,r0⟩:=trodAll_cons hA;obtain ⟨v1,vs1,d1,ds1,p1,q1,rfl,rfl,rfl,h1,r1⟩:=trodAll_cons r0;obtain ⟨v2,vs2,d2,ds2,p2,q2,rfl,rfl,rfl,h2,r2⟩:=trodAll_cons r1;obtain ⟨rfl,rfl,rfl⟩:=trodAll_nil r2;obtain rfl:args = #[v0,v1,v2]:=by cases args;simp_all
 obtain ⟨cs0,rfl,_⟩:=okWide_array Tryz.underlying64 (hval 0 64 v0 rfl rfl);obtain ⟨l0,hy0,hl0⟩:=(Opn.arrU8 Tryz.underlying64 Tryz.underlying5 (by kernel_rfl) (by kernel_rfl)).arg h0;obtain ⟨x0a,x0b,rfl⟩:=Go.HL.len_2 hl0;obtain ⟨ys0⟩:=cs0;obtain rfl:ys0=_:=hy0;obtain ⟨a1,n1,c1,rfl⟩:=okWide_slice Tryz.underlying46 (hval 1 46 v1 rfl rfl);obtain ⟨l1,y1,hy1,hl1⟩:=opn_ops13.arg h1;obtain rfl:=sv_cells hy1;obtain ⟨cs2,rfl,_⟩:=okWide_struct Tryz.underlying90 (hval 2 90 v2 rfl rfl);obtain ⟨l2,hy2,hl2⟩:=opn_fate.arg h2;obtain ⟨ys2⟩:=cs2;obtain rfl:ys2=_:=hy2;refine ((bpower_row (x:=x0a) (y:=x0b) (o:=l2) hl1 hl2).2 _ W (At.self W)).mono fun e W' ⟨v,h',he,at',hv,hx⟩=>?_;subst he;subst hv;exact ⟨_,rfl,law_post laid_out hW' rfl (by kernel_rfl) rfl Tryz.underlying4 rfl at' hx⟩
theorem backPower_holds:Rows.BackPowerSaid:=
 OpenClaim.holds_of_wide 11 Tryz.f11 rfl rfl rfl rfl rfl rfl rfl ⟨rfl,rfl,rfl,rfl,rfl⟩ rfl rfl rfl rfl rfl (by kernel_rfl) Tryz.func11 (by kernel_rfl)
  (of_decide_eq_true (by kernel_rfl)) (by unfold Func.isWrapper;first | (rw [if_pos (by decide +kernel)];kernel_rfl) | (rw [if_neg (by decide +kernel)];exact ⟨rfl,rfl⟩))
  (fun os started H enc _=>backPower_lifted os started H enc)
end Go.Proofs.YtpeaicddbnghfaaGreat
