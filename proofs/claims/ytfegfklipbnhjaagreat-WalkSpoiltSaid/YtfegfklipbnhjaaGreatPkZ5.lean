/- Cells are looked at, and put into bytes. Conditions: the cell's bytes are readable. Cells are read from bytes. Conditions: the bytes are readable. A cell is read from bytes. Conditions: the bytes are readable. Cells in memory; whether a node may be. Conditions: its cells are readable. Whether a node may be, and whether it fits. Conditions: its cells are readable. What the cells of a node take. Conditions: they are right, and not too many. Scopes without jumps. Functions with one deferred call: the rules of code until it is laid, and what is done behind a return. Conditions: those that each rule names. A range over a function: a call of yield, a round, the statement, and the end of a function that has one. Conditions: the loop stands in no other one. A node is put into bytes. Conditions: it may be, and fits. What bytes say of a node. Conditions: none. What bytes say of a node, read. Conditions: the bytes are readable. The node of bytes. Conditions: the bytes are readable. slices.Insert of cells. Conditions: the slice is one's own. -/
import Derived.Test.YtfegfklipbnhjaaGreatPkZ4
import Derived.Defers
import Derived.Scope
set_option maxRecDepth 100000
set_option maxHeartbeats 2000000
set_option linter.all false
namespace Go.Proofs.YtfegfklipbnhjaaGreat
open Go Go.HL
section
variable {h:Heap} {lcc:Nat} {la:Option Addr}
def ckA (k:Nat) (ky:Int) (ch:Nat):Bool:=!okKd k || (hasCh k && !pgNo ch) || (!hasCh k && decide ((ch:Int)≠0)) || (!hasKy k && decide (ky≠0))
def ckB (tt sp:Nat) (lc:List UInt8):Bool:=decide ((tt:Int)≠0) || decide ((lc.length:Int)≠0) || decide ((sp:Int)≠0)
def ckC (tt:Nat) (lc:List UInt8):Bool:=decide (16384<(tt:Int)) || decide ((tt:Int)<(lc.length:Int))
def ckD (tt sp:Nat) (lc:List UInt8):Bool:=(decide ((lc.length:Int)=(tt:Int)) && decide ((sp:Int)≠0)) || (decide ((lc.length:Int)<(tt:Int)) && !pgNo sp)
section
variable {k ch tt sp:Nat} {ky:Int} {lc:List UInt8} (hky : -9223372036854775808<=ky/\ky<=9223372036854775807)
theorem ck_a (h:ckA k ky ch=true):¬okCl k ⟨ky,ch,tt,lc,sp⟩:=by
 rintro ⟨h0,h1,h2,_⟩;simp only [ckA] at h;cases hc:hasCh k<;>cases hk:hasKy k<;>simp_all<;>omega
theorem ck_b (h0:hasPy k=false) (h:ckB tt sp lc=true):¬okCl k ⟨ky,ch,tt,lc,sp⟩:=by
 rintro ⟨_,_,_,h3⟩;rw [if_neg (by rw [h0];decide)] at h3;obtain ⟨h1,h2,h4⟩:=h3;simp only at h1 h2 h4;subst h1 h2 h4;exact absurd h (by decide)
theorem ck_c (h0:hasPy k=true) (h:ckC tt lc=true):¬okCl k ⟨ky,ch,tt,lc,sp⟩:=by
 rintro ⟨_,_,_,h3⟩;rw [if_pos h0] at h3;have h1:=h3.1;have h2:=h3.2.1;simp only at h1 h2;simp only [ckC,Bool.or_eq_true,decide_eq_true_eq] at h;omega
theorem ck_d (h0:hasPy k=true) (h:ckD tt sp lc=true):¬okCl k ⟨ky,ch,tt,lc,sp⟩:=by
 rintro ⟨_,_,_,h3⟩;rw [if_pos h0] at h3;obtain ⟨_,_,h4⟩:=h3;simp only at h4;simp only [ckD,Bool.or_eq_true,Bool.and_eq_true,decide_eq_true_eq,Bool.not_eq_true'] at h;split at h4
 ·rcases h with h | h<;>omega
 ·rcases h with h | h
  ·omega
  ·rw [h4] at h;exact absurd h.2 (by decide)
include hky
theorem ck_y (h1:ckA k ky ch=false) (h2:hasPy k=false->ckB tt sp lc=false) (h3:hasPy k=true->ckC tt lc=false/\ckD tt sp lc=false):okCl k ⟨ky,ch,tt,lc,sp⟩:=by
 simp only [ckA,Bool.or_eq_false_iff,Bool.and_eq_false_iff,Bool.not_eq_false',decide_eq_false_iff_not] at h1;obtain ⟨⟨⟨a1,a2⟩,a3⟩,a4⟩:=h1;refine ⟨a1,?_,?_,?_⟩
 ·split
  ·rename_i hc;rw [hc] at a2;simpa using a2
  ·rename_i hc;have:hasCh k=false:=by simpa using hc
   rw [this] at a3;show ch=0;have:¬(ch:Int)≠0:=a3.resolve_left (by simp);omega
 ·split
  ·exact hky
  ·rename_i hc;have:hasKy k=false:=by simpa using hc
   rw [this] at a4;have:¬ky≠0:=a4.resolve_left (by simp);exact Classical.not_not.1 this
 ·split
  ·rename_i hc;obtain ⟨b1,b2⟩:=h3 hc;simp only [ckC,Bool.or_eq_false_iff,decide_eq_false_iff_not] at b1;simp only [ckD,Bool.or_eq_false_iff,Bool.and_eq_false_iff,decide_eq_false_iff_not,Bool.not_eq_false'] at b2;refine ⟨by show tt<=16384;omega,by show lc.length<=tt;omega,?_⟩;show if lc.length=tt then sp=0 else _
   split
   ·have:=b2.1;omega
   ·exact b2.2.resolve_left (by omega)
  ·rename_i hc;have b:=h2 (by simpa using hc);simp only [ckB,Bool.or_eq_false_iff,decide_eq_false_iff_not] at b;exact ⟨by show tt=0;omega,qW (by show lc.length=0;omega),by show sp=0;omega⟩
end
theorem okCl_rg {k ch tt sp:Nat} {ky:Int} {lc:List UInt8} (h:okCl k ⟨ky,ch,tt,lc,sp⟩):(-9223372036854775808<=ky/\ky<=9223372036854775807)/\ch<=1048576/\sp<=1048576/\lc.length<=tt/\tt<=16384:=by
 obtain ⟨h0,h1,h2,h3⟩:=h;simp only at h1 h2 h3;have a1:ch<=1048576:=by
  split at h1
  ·exact (pgNo_b h1).2
  ·omega
 have a2 : -9223372036854775808<=ky/\ky<=9223372036854775807:=by
  split at h2
  ·exact h2
  ·subst h2;decide
 refine ⟨a2,a1,?_⟩;split at h3
 ·obtain ⟨b1,b2,b3⟩:=h3;refine ⟨?_,b2,b1⟩;split at b3
  ·omega
  ·exact (pgNo_b b3).2
 ·obtain ⟨rfl,rfl,rfl⟩:=h3;decide
theorem clhas_any {k:Nat} :
  Hc 213 #[.J (k:Int)] h (fun v h'=>v=.tuple #[.bool (hasCh k),.bool (hasKy k),.bool (hasPy k),.bool (okKd k)]/\h'=h):=by
 refine HC.go Tryz.func213 18 ?_;refine .s<|.z .asB<|.z .asB<|.z .asB<|.z .asB<|.nil ?_;refine .seq<|.s<|.z .mvI<|.nil ?_;refine .block fun K0 hK0=>.seq<|.block fun K1 hK1=>.seq<|.block fun K2 hK2=>.seq<|.block fun K3 hK3=>.seq<|.block fun K4 hK4=>.seq<|.block fun K5 hK5=>.seq<|.seq<|.s<|.z .eql<|.z .asB<|.nil ?_;refine .cd (fun C0=>?_) (fun C0=>?_)
 ·
  refine .exit<|hK5 _ _<|.seq<|.s<|.z .asB<|.nil ?_;refine .r<|.z .asB<|.nil ?_;refine .exit<|hK0 _ _<|.s<|.z .mvB<|.z .mvB<|.z .mvB<|.z .asB<|.z .asB<|.z .asB<|.z .asB<|.nil ?_;refine .ret ⟨.tuple #[.bool true,.bool true,.bool false,.bool true],Res.many (vs:=[.bool true,.bool true,.bool false,.bool true]) rfl ⟨rfl,rfl,rfl,rfl,trivial⟩ rfl,⟨by first | (obtain rfl:k=1:=(by omega);rfl) | (obtain rfl:k=2:=(by omega);rfl) | (obtain rfl:k=3:=(by omega);rfl) | (obtain rfl:k=4:=(by omega);rfl),rfl⟩⟩
 refine .skip<|.seq<|.s<|.z .eql<|.z .asB<|.nil ?_;refine .cd (fun C1=>?_) (fun C1=>?_)
 ·
  refine .exit<|hK4 _ _<|.r<|.z .asB<|.nil ?_;refine .end<|hK3 _ _<|.s<|.z .asB<|.nil ?_;refine .exit<|hK0 _ _<|.s<|.z .mvB<|.z .mvB<|.z .mvB<|.z .asB<|.z .asB<|.z .asB<|.z .asB<|.nil ?_;refine .ret ⟨.tuple #[.bool true,.bool false,.bool true,.bool true],Res.many (vs:=[.bool true,.bool false,.bool true,.bool true]) rfl ⟨rfl,rfl,rfl,rfl,trivial⟩ rfl,⟨by first | (obtain rfl:k=1:=(by omega);rfl) | (obtain rfl:k=2:=(by omega);rfl) | (obtain rfl:k=3:=(by omega);rfl) | (obtain rfl:k=4:=(by omega);rfl),rfl⟩⟩
 refine .skip<|.seq<|.s<|.z .eql<|.z .asB<|.nil ?_;refine .cd (fun C2=>?_) (fun C2=>?_)
 ·
  refine .exit<|hK3 _ _<|.s<|.z .asB<|.nil ?_;refine .exit<|hK0 _ _<|.s<|.z .mvB<|.z .mvB<|.z .mvB<|.z .asB<|.z .asB<|.z .asB<|.z .asB<|.nil ?_;refine .ret ⟨.tuple #[.bool false,.bool false,.bool true,.bool true],Res.many (vs:=[.bool false,.bool false,.bool true,.bool true]) rfl ⟨rfl,rfl,rfl,rfl,trivial⟩ rfl,⟨by first | (obtain rfl:k=1:=(by omega);rfl) | (obtain rfl:k=2:=(by omega);rfl) | (obtain rfl:k=3:=(by omega);rfl) | (obtain rfl:k=4:=(by omega);rfl),rfl⟩⟩
 refine .skip<|.s<|.z .eql<|.z .asB<|.nil ?_;refine .cd (fun C3=>?_) (fun C3=>?_)
 ·
  refine .exit<|hK2 _ _<|.seq<|.s<|.z .asB<|.nil ?_;refine .r<|.z .asB<|.nil ?_;refine .exit<|hK0 _ _<|.s<|.z .mvB<|.z .mvB<|.z .mvB<|.z .asB<|.z .asB<|.z .asB<|.z .asB<|.nil ?_;refine .ret ⟨.tuple #[.bool false,.bool true,.bool true,.bool true],Res.many (vs:=[.bool false,.bool true,.bool true,.bool true]) rfl ⟨rfl,rfl,rfl,rfl,trivial⟩ rfl,⟨by first | (obtain rfl:k=1:=(by omega);rfl) | (obtain rfl:k=2:=(by omega);rfl) | (obtain rfl:k=3:=(by omega);rfl) | (obtain rfl:k=4:=(by omega);rfl),rfl⟩⟩
 refine .skip<|.exit<|hK1 _ _<|.seq<|.s<|.z .asB<|.z .asB<|.z .asB<|.z .asB<|.nil ?_;refine .ret ⟨.tuple #[.bool false,.bool false,.bool false,.bool false],Res.many (vs:=[.bool false,.bool false,.bool false,.bool false]) rfl ⟨rfl,rfl,rfl,rfl,trivial⟩ rfl,⟨by rw [show hasCh k=false by simp [hasCh];omega,show hasKy k=false by simp [hasKy];omega,show hasPy k=false by simp [hasPy];omega,show okKd k=false by simp [okKd];omega],rfl⟩⟩
theorem clpage_any {n:Int} :
  Hc 254 #[.J n] h (fun v h'=>v=.bool (pgNo n)/\h'=h):=by
 refine HC.go Tryz.func254 9 ?_;refine .s<|.z .asB<|.nil ?_;refine .s<|.z .mvI<|.z .geq<|.z .mvB<|.sd (fun G5=>?_) (fun G5=>?_)
 ·
  refine .z .mvI<|.z .leq<|.z .pkt<|.z .asB<|.nil ?_;refine .ret ⟨.bool (decide (n<=1048576)),Res.one rfl rfl,⟨by unfold pgNo;simp only [Value.bool.injEq];first | (rw [decide_eq_decide];omega) | (symm;rw [decide_eq_false_iff_not];omega),rfl⟩⟩
 refine .y<|.y<|.z .pkf<|.z .asB<|.nil ?_;refine .ret ⟨.bool false,Res.one rfl rfl,⟨by unfold pgNo;simp only [Value.bool.injEq];first | (rw [decide_eq_decide];omega) | (symm;rw [decide_eq_false_iff_not];omega),rfl⟩⟩
theorem clchk_any {k ch tt sp:Nat} {ky:Int} {lc:List UInt8} (hky : -9223372036854775808<=ky/\ky<=9223372036854775807) :
  Hc 210 #[.J (k:Int),.agg #[.J ky,.J (ch:Int),.J (tt:Int),.slice la lc.length lcc,.J (sp:Int)]] h (fun v h'=>v=.J ((if okCl k (⟨ky,ch,tt,lc,sp⟩:Cel) then 0 else 1:Nat):Int)/\Ext h h'):=by
 have ok:=Hp.nil h none_;refine HC.go Tryz.func210 102 ?_;refine .s<|.a' 3 (.bxA (cs:=[.J ky,.J (ch:Int),.J (tt:Int),.slice la lc.length lcc,.J (sp:Int)]) ok) ?_;rintro _ U1 ⟨pb1,rfl,ok,xe⟩;refine .z .asI<|.nil ?_;refine .s<|.z .mvI<|.k 11 .func (clhas_any (k:=k))<|.z .mvU<|.z .ex<|.z .ex<|.z .ex<|.z .ex<|.z .asB<|.z .asB<|.z .asB<|.z .asB<|.nil ?_;refine .seq<|.seq<|.join (fun s hh=>∃(b1:Bool),Has s [(3,.P pb1),(7,.bool (hasPy k)),(44,.bool b1)]/\Hp h none_ [boxI pb1 113 [.J ky,.J (ch:Int),.J (tt:Int),.slice la lc.length lcc,.J (sp:Int)]] [] hh/\b1=ckA k ky ch) ?_ ?_
 ·
  refine .r<|.z .mvB<|.z .not<|.z .mvB<|.spl (fun G18=>?_) (fun G18=>?_)
  ·
   refine .y<|.y<|.y<|.y<|.y<|.y<|.y<|.z .pkt<|.z .mvB<|.y<|.y<|.y<|.y<|.y<|.y<|.y<|.z .pkt<|.z .mvB<|.y<|.y<|.y<|.y<|.y<|.y<|.y<|.z .pkt<|.nil ?_;refine .end<|⟨_,⟨rfl,rfl,rfl,trivial⟩,ok,by simp only [ckA,ckB,ckC,ckD];simp_all<;>(intros;omega)⟩
  refine .z .mvB<|.z .mvB<|.spl (fun G20=>?_) (fun G20=>?_)
  ·
   refine .z (.fa T.fd113_1)<|.z (.ldx T.ag3 ok.m0)<|.k 23 .func (clpage_any (n:=(ch:Int)))<|.z .not<|.z .pkt<|.z .pkf<|.z .mvB<|.spl (fun G27=>?_) (fun G27=>?_)
   ·
    refine .y<|.y<|.y<|.y<|.y<|.y<|.y<|.z .pkt<|.z .mvB<|.y<|.y<|.y<|.y<|.y<|.y<|.y<|.z .pkt<|.nil ?_;refine .end<|⟨_,⟨rfl,rfl,rfl,trivial⟩,ok,by simp only [ckA,ckB,ckC,ckD];simp_all<;>(intros;omega)⟩
   refine .z .mvB<|.z .not<|.z .mvB<|.spl (fun G30=>?_) (fun G30=>?_)
   ·
    refine .z (.fa T.fd113_1)<|.z (.ldx T.ag3 ok.m0)<|.z .neq<|.z .pkt<|.z .pkf<|.z .mvB<|.sd (fun G36=>?_) (fun G36=>?_)
    ·
     refine .y<|.y<|.y<|.y<|.y<|.y<|.y<|.z .pkt<|.nil ?_;refine .end<|⟨_,⟨rfl,rfl,rfl,trivial⟩,ok,by simp only [ckA,ckB,ckC,ckD];simp_all<;>(intros;omega)⟩
    refine .z .mvB<|.z .not<|.z .mvB<|.spl (fun G39=>?_) (fun G39=>?_)
    ·
     refine .z (.fa T.fd113_0)<|.z (.ldx T.ag2 ok.m0)<|.z .neq<|.z .pkt<|.z .pkf<|.nil ?_;refine .end<|⟨_,⟨rfl,rfl,rfl,trivial⟩,ok,by simp only [ckA,ckB,ckC,ckD];simp_all<;>(intros;omega)⟩
    refine .y<|.y<|.y<|.z .pkf<|.z .pkf<|.nil ?_;refine .end<|⟨_,⟨rfl,rfl,rfl,trivial⟩,ok,by simp only [ckA,ckB,ckC,ckD];simp_all<;>(intros;omega)⟩
   refine .y<|.y<|.y<|.z .pkf<|.z .pkf<|.z .mvB<|.z .mvB<|.z .not<|.z .mvB<|.spl (fun G39=>?_) (fun G39=>?_)
   ·
    refine .z (.fa T.fd113_0)<|.z (.ldx T.ag2 ok.m0)<|.z .neq<|.z .pkt<|.z .pkf<|.nil ?_;refine .end<|⟨_,⟨rfl,rfl,rfl,trivial⟩,ok,by simp only [ckA,ckB,ckC,ckD];simp_all<;>(intros;omega)⟩
   refine .y<|.y<|.y<|.z .pkf<|.z .pkf<|.nil ?_;refine .end<|⟨_,⟨rfl,rfl,rfl,trivial⟩,ok,by simp only [ckA,ckB,ckC,ckD];simp_all<;>(intros;omega)⟩
  refine .y<|.y<|.y<|.y<|.z .pkf<|.z .pkf<|.z .mvB<|.z .mvB<|.z .not<|.z .mvB<|.spl (fun G30=>?_) (fun G30=>?_)
  ·
   refine .z (.fa T.fd113_1)<|.z (.ldx T.ag3 ok.m0)<|.z .neq<|.z .pkt<|.z .pkf<|.z .mvB<|.sd (fun G36=>?_) (fun G36=>?_)
   ·
    refine .y<|.y<|.y<|.y<|.y<|.y<|.y<|.z .pkt<|.nil ?_;refine .end<|⟨_,⟨rfl,rfl,rfl,trivial⟩,ok,by simp only [ckA,ckB,ckC,ckD];simp_all<;>(intros;omega)⟩
   refine .z .mvB<|.z .not<|.z .mvB<|.spl (fun G39=>?_) (fun G39=>?_)
   ·
    refine .z (.fa T.fd113_0)<|.z (.ldx T.ag2 ok.m0)<|.z .neq<|.z .pkt<|.z .pkf<|.nil ?_;refine .end<|⟨_,⟨rfl,rfl,rfl,trivial⟩,ok,by simp only [ckA,ckB,ckC,ckD];simp_all<;>(intros;omega)⟩
   refine .y<|.y<|.y<|.z .pkf<|.z .pkf<|.nil ?_;refine .end<|⟨_,⟨rfl,rfl,rfl,trivial⟩,ok,by simp only [ckA,ckB,ckC,ckD];simp_all<;>(intros;omega)⟩
  refine .y<|.y<|.y<|.z .pkf<|.z .pkf<|.z .mvB<|.z .mvB<|.z .not<|.z .mvB<|.spl (fun G39=>?_) (fun G39=>?_)
  ·
   refine .z (.fa T.fd113_0)<|.z (.ldx T.ag2 ok.m0)<|.z .neq<|.z .pkt<|.z .pkf<|.nil ?_;refine .end<|⟨_,⟨rfl,rfl,rfl,trivial⟩,ok,by simp only [ckA,ckB,ckC,ckD];simp_all<;>(intros;omega)⟩
  refine .y<|.y<|.y<|.z .pkf<|.z .pkf<|.nil ?_;refine .end<|⟨_,⟨rfl,rfl,rfl,trivial⟩,ok,by simp only [ckA,ckB,ckC,ckD];simp_all<;>(intros;omega)⟩
 rintro s U2 ⟨b1,hs,ok,hb1⟩;refine .frame hs fun τ=>?_;refine .cond (fun C0=>?_) (fun C0=>?_)
 ·
  refine .s<|.z .asI<|.nil ?_;refine .ret ⟨.J 1,Res.one rfl rfl,⟨by rw [if_neg (ck_a (by rw [<-hb1];exact C0))];rfl,ok.chg⟩⟩
 refine .skip<|.seq<|.s<|.z .mvB<|.z .not<|.nil ?_;refine .cond (fun C1=>?_) (fun C1=>?_)
 ·
  refine .seq<|.seq<|.join (fun s hh=>∃(b2:Bool),Has s [(60,.bool b2)]/\Hp h none_ [boxI pb1 113 [.J ky,.J (ch:Int),.J (tt:Int),.slice la lc.length lcc,.J (sp:Int)]] [] hh/\b2=ckB tt sp lc) ?_ ?_
  ·
   refine .r<|.z (.fa T.fd113_2)<|.z (.ldx T.ag3 ok.m0)<|.z .neq<|.z .mvB<|.sd (fun G50=>?_) (fun G50=>?_)
   ·
    refine .y<|.y<|.y<|.y<|.z .pkt<|.z .mvB<|.y<|.y<|.y<|.z .pkt<|.nil ?_;refine .end<|⟨_,⟨rfl,trivial⟩,ok,by simp only [ckA,ckB,ckC,ckD];simp_all<;>(intros;omega)⟩
   refine .z (.fa T.fd113_3)<|.z (.ldx T.ag35 ok.m0)<|.z (.len T.el35)<|.z .neq<|.z .pkf<|.z .mvB<|.sd (fun G56=>?_) (fun G56=>?_)
   ·
    refine .y<|.y<|.y<|.z .pkt<|.nil ?_;refine .end<|⟨_,⟨rfl,trivial⟩,ok,by simp only [ckA,ckB,ckC,ckD];simp_all<;>(intros;omega)⟩
   refine .z (.fa T.fd113_4)<|.z (.ldx T.ag3 ok.m0)<|.z .neq<|.z .pkf<|.nil ?_;refine .end<|⟨_,⟨rfl,trivial⟩,ok,by simp only [ckA,ckB,ckC,ckD];simp_all<;>(intros;omega)⟩
  rintro s U3 ⟨b2,hs,ok,hb2⟩;refine .frame hs fun τ=>?_;refine .cond (fun C2=>?_) (fun C2=>?_)
  ·
   refine .s<|.z .asI<|.nil ?_;refine .ret ⟨.J 1,Res.one rfl rfl,⟨by rw [if_neg (ck_b (by simpa using C1) (by rw [<-hb2];exact C2))];rfl,ok.chg⟩⟩
  refine .skip<|.s<|.z .asI<|.nil ?_;refine .ret ⟨.J 0,Res.one rfl rfl,⟨by rw [if_pos (ck_y hky (by rw [<-hb1];exact C0) (fun _=>by rw [<-hb2];exact C2) (fun h=>by rw [h] at C1;simp at C1))];rfl,ok.chg⟩⟩
 refine .skip<|.seq<|.seq<|.join (fun s hh=>∃(b3:Bool),Has s [(3,.P pb1),(76,.bool b3)]/\Hp h none_ [boxI pb1 113 [.J ky,.J (ch:Int),.J (tt:Int),.slice la lc.length lcc,.J (sp:Int)]] [] hh/\b3=ckC tt lc) ?_ ?_
 ·
  refine .r<|.z (.fa T.fd113_2)<|.z (.ldx T.ag3 ok.m0)<|.z .lss<|.z .mvB<|.sd (fun G64=>?_) (fun G64=>?_)
  ·
   refine .y<|.y<|.y<|.z .pkt<|.z .mvB<|.y<|.y<|.y<|.y<|.y<|.y<|.z .pkt<|.nil ?_;refine .end<|⟨_,⟨rfl,rfl,trivial⟩,ok,by simp only [ckA,ckB,ckC,ckD];simp_all<;>(intros;omega)⟩
  refine .z (.fa T.fd113_2)<|.z (.ldx T.ag3 ok.m0)<|.z .gtr<|.z .pkf<|.z .mvB<|.sd (fun G69=>?_) (fun G69=>?_)
  ·
   refine .y<|.y<|.y<|.y<|.y<|.y<|.z .pkt<|.nil ?_;refine .end<|⟨_,⟨rfl,rfl,trivial⟩,ok,by simp only [ckA,ckB,ckC,ckD];simp_all<;>(intros;omega)⟩
  refine .z (.fa T.fd113_3)<|.z (.ldx T.ag35 ok.m0)<|.z (.len T.el35)<|.z (.fa T.fd113_2)<|.z (.ldx T.ag3 ok.m0)<|.z .gtr<|.z .pkf<|.nil ?_;refine .end<|⟨_,⟨rfl,rfl,trivial⟩,ok,by simp only [ckA,ckB,ckC,ckD];simp_all<;>(intros;omega)⟩
 rintro s U4 ⟨b3,hs,ok,hb3⟩;refine .frame hs fun τ=>?_;refine .cond (fun C3=>?_) (fun C3=>?_)
 ·
  refine .s<|.z .asI<|.nil ?_;refine .ret ⟨.J 1,Res.one rfl rfl,⟨by rw [if_neg (ck_c (by simpa using C1) (by rw [<-hb3];exact C3))];rfl,ok.chg⟩⟩
 refine .skip<|.seq<|.seq<|.join (fun s hh=>∃(b4:Bool),Has s [(101,.bool b4)]/\Hp h none_ [boxI pb1 113 [.J ky,.J (ch:Int),.J (tt:Int),.slice la lc.length lcc,.J (sp:Int)]] [] hh/\b4=ckD tt sp lc) ?_ ?_
 ·
  refine .r<|.z (.fa T.fd113_3)<|.z (.ldx T.ag35 ok.m0)<|.z (.len T.el35)<|.z (.fa T.fd113_2)<|.z (.ldx T.ag3 ok.m0)<|.z .eql<|.z .mvB<|.sd (fun G83=>?_) (fun G83=>?_)
  ·
   refine .z (.fa T.fd113_4)<|.z (.ldx T.ag3 ok.m0)<|.z .neq<|.z .pkt<|.z .mvB<|.sd (fun G88=>?_) (fun G88=>?_)
   ·
    refine .y<|.y<|.y<|.y<|.y<|.y<|.y<|.y<|.y<|.y<|.y<|.y<|.z .pkt<|.nil ?_;refine .end<|⟨_,⟨rfl,trivial⟩,ok,by simp only [ckA,ckB,ckC,ckD];simp_all<;>(intros;omega)⟩
   refine .z (.fa T.fd113_3)<|.z (.ldx T.ag35 ok.m0)<|.z (.len T.el35)<|.z (.fa T.fd113_2)<|.z (.ldx T.ag3 ok.m0)<|.z .lss<|.z .mvB<|.sd (fun G95=>?_) (fun G95=>?_)
   ·
    refine .z (.fa T.fd113_4)<|.z (.ldx T.ag3 ok.m0)<|.k 98 .func (clpage_any (n:=(sp:Int)))<|.z .not<|.z .pkt<|.z .pkf<|.nil ?_;refine .end<|⟨_,⟨rfl,trivial⟩,ok,by simp only [ckA,ckB,ckC,ckD];simp_all<;>(intros;omega)⟩
   refine .y<|.y<|.y<|.y<|.z .pkf<|.z .pkf<|.nil ?_;refine .end<|⟨_,⟨rfl,trivial⟩,ok,by simp only [ckA,ckB,ckC,ckD];simp_all<;>(intros;omega)⟩
  refine .y<|.y<|.y<|.z .pkf<|.z .mvB<|.z (.fa T.fd113_3)<|.z (.ldx T.ag35 ok.m0)<|.z (.len T.el35)<|.z (.fa T.fd113_2)<|.z (.ldx T.ag3 ok.m0)<|.z .lss<|.z .mvB<|.sd (fun G95=>?_) (fun G95=>?_)
  ·
   refine .z (.fa T.fd113_4)<|.z (.ldx T.ag3 ok.m0)<|.k 98 .func (clpage_any (n:=(sp:Int)))<|.z .not<|.z .pkt<|.z .pkf<|.nil ?_;refine .end<|⟨_,⟨rfl,trivial⟩,ok,by simp only [ckA,ckB,ckC,ckD];simp_all<;>(intros;omega)⟩
  refine .y<|.y<|.y<|.y<|.z .pkf<|.z .pkf<|.nil ?_;refine .end<|⟨_,⟨rfl,trivial⟩,ok,by simp only [ckA,ckB,ckC,ckD];simp_all<;>(intros;omega)⟩
 rintro s U5 ⟨b4,hs,ok,hb4⟩;refine .frame hs fun τ=>?_;refine .cond (fun C4=>?_) (fun C4=>?_)
 ·
  refine .s<|.z .asI<|.nil ?_;refine .ret ⟨.J 1,Res.one rfl rfl,⟨by rw [if_neg (ck_d (by simpa using C1) (by rw [<-hb4];exact C4))];rfl,ok.chg⟩⟩
 refine .skip<|.s<|.z .asI<|.nil ?_;refine .ret ⟨.J 0,Res.one rfl rfl,⟨by rw [if_pos (ck_y hky (by rw [<-hb1];exact C0) (fun h=>by rw [h] at C1;simp at C1) (fun _=>⟨by rw [<-hb3];exact C3,by rw [<-hb4];exact C4⟩))];rfl,ok.chg⟩⟩
theorem clenc_any {F E:Nat->Prop} {k ch tt sp:Nat} {ky:Int} {lc:List UInt8} (ho:okCl k (⟨ky,ch,tt,lc,sp⟩:Cel)) (hl:RdL h F E (la,lc.length,lcc) lc) :
  Hc 165 #[.J (k:Int),.agg #[.J ky,.J (ch:Int),.J (tt:Int),.slice la lc.length lcc,.J (sp:Int)]] h (fun v h'=>∃w,v=.tuple #[w,.J 0]/\Own h h' 1 5 w ((encCl k (⟨ky,ch,tt,lc,sp⟩:Cel)).map bv)):=by
 obtain ⟨hky,hck,hsk,hlk⟩:=okCl_rg ho;have hm:=hl.m;have hc:=hl.c;simp only at hm hc;have ok:=(Hp.nil h none_).arg hl;refine HC.go Tryz.func165 59 ?_;refine .s<|.a' 3 (.bxA (cs:=[.J ky,.J (ch:Int),.J (tt:Int),.slice la lc.length lcc,.J (sp:Int)]) ok) ?_;rintro _ U1 ⟨pb1,rfl,ok,xe⟩;refine .z .asS<|.z .asI<|.nil ?_;refine .seq<|.s<|.z .mvI<|.z (.ldb T.ag113 ok.m0 T.sz113)<|.c' 14 .func (clchk_any (k:=k) (ky:=ky) (ch:=ch) (tt:=tt) (la:=la) (lcc:=lcc) (lc:=lc) (sp:=sp) hky) ?_;rintro _ U2 ⟨rfl,hx⟩;have ok:=ok.ext hx;rw [show (if okCl k (⟨ky,ch,tt,lc,sp⟩:Cel) then 0 else 1)=0 from if_pos ho];refine .z .asI<|.nil ?_;refine .s<|.z .mvI<|.z .neq<|.nil ?_;refine .cd (fun C0=>?_) (fun C0=>?_)
 ·
  exact absurd rfl C0
 refine .skip<|.s<|.z .mvI<|.k 20 .func (clhas_any (k:=k))<|.z .mvU<|.z .ex<|.z .ex<|.z .ex<|.z .ex<|.z .asB<|.z .asB<|.z .asB<|.z .asB<|.nil ?_;refine .s<|.z .asS<|?_;have ok:=ok.nilC (k:=1) (e:=5);refine .nil ?_;refine .seq<|.s<|.z .mvB<|.nil ?_;refine .join (fun s hh=>∃(o1:List UInt8) (ao1:Option Addr) (co1:Nat),Has s [(3,.P pb1),(8,.bool (hasKy k)),(9,.bool (hasPy k)),(11,.slice ao1 o1.length co1)]/\Hp h none_ [capI 1 5 (ao1,o1.length,co1) (o1.map bv),boxI pb1 113 [.J ky,.J (ch:Int),.J (tt:Int),.slice la lc.length lcc,.J (sp:Int)]] [rdI (nS h F) (nS h E) (la,lc.length,lcc) lc] hh/\o1=(if hasCh k=true then vint (ch:Int) else [])) ?_ ?_
 ·
  refine .cond (fun C1=>?_) (fun C1=>?_)
  ·
   refine .r<|.z .mvS<|.z (.fa T.fd113_1)<|.z (.ldx T.ag3 ok.m1)<|.c' 29 .func (varint_any (n:=(ch:Int)) (by omega) (by omega)) ?_;rintro _ U3 own;obtain ⟨ya1,yc1,rfl⟩:=own.formB;have ok:=ok.own own;refine .a' 30 (.app (news:=(vint (ch:Int)).map bv) T.el35 T.sz5 T.by5 T.zr5 ok.n1 (ok.n1.m1).sl bv_all (by simp only [qM,qB,List.length_flatten,kE,List.map_nil,List.sum_cons,List.sum_nil];have h4:=vint_len (n:=(tt:Int));have h5:=vint_len (n:=(lc.length:Int));have h1:=vint_len (n:=(ch:Int));have h2:=vint_len (n:=ky);have h3:=vint_len (n:=(sp:Int));omega)) ?_;rintro _ U4 ⟨ya2,yn2,yc2,rfl,ok,ap⟩;have ok:=ok.cx (ys:=(([]:List UInt8)++(vint (ch:Int))).map bv) (by simp [bv]);obtain rfl:yn2=(([]:List UInt8)++(vint (ch:Int))).length:=ok.lenB;refine .z .asS<|.nil ?_;refine .end<|⟨(([]:List UInt8)++(vint (ch:Int))),ya2,yc2,⟨rfl,rfl,rfl,rfl,trivial⟩,(ok.n2.n1).k2,by simp [C1]⟩
  refine .skip<|.end<|⟨([]:List UInt8),none,0,⟨rfl,rfl,rfl,rfl,trivial⟩,(ok).k2,by simp [C1]⟩
 rintro s U5 ⟨o1,ao1,co1,hs,ok,ho1⟩;refine .frame hs fun τ=>?_;have hl1:o1.length<=10:=by rw [ho1];split;exact vint_len;simp
 refine .seq<|.s<|.z .mvB<|.nil ?_;refine .join (fun s hh=>∃(o2:List UInt8) (ao2:Option Addr) (co2:Nat),Has s [(3,.P pb1),(9,.bool (hasPy k)),(11,.slice ao2 o2.length co2)]/\Hp h none_ [capI 1 5 (ao2,o2.length,co2) (o2.map bv),boxI pb1 113 [.J ky,.J (ch:Int),.J (tt:Int),.slice la lc.length lcc,.J (sp:Int)]] [rdI (nS h F) (nS h E) (la,lc.length,lcc) lc] hh/\o2=o1++(if hasKy k=true then vint ky else [])) ?_ ?_
 ·
  refine .cond (fun C2=>?_) (fun C2=>?_)
  ·
   refine .r<|.z .mvS<|.z (.fa T.fd113_0)<|.z (.ldx T.ag2 ok.m1)<|.c' 35 .func (varint_any (n:=ky) (by omega) (by omega)) ?_;rintro _ U6 own;obtain ⟨ya3,yc3,rfl⟩:=own.formB;have ok:=ok.own own;refine .a' 36 (.app (news:=(vint ky).map bv) T.el35 T.sz5 T.by5 T.zr5 ok.n1 (ok.n1.m1).sl bv_all (by simp only [qM,qB,List.length_flatten,kE,List.map_nil,List.sum_cons,List.sum_nil];have h4:=vint_len (n:=(tt:Int));have h5:=vint_len (n:=(lc.length:Int));have h1:=vint_len (n:=(ch:Int));have h2:=vint_len (n:=ky);have h3:=vint_len (n:=(sp:Int));omega)) ?_;rintro _ U7 ⟨ya4,yn4,yc4,rfl,ok,ap⟩;have ok:=ok.cx (ys:=(o1++(vint ky)).map bv) (by simp [bv]);obtain rfl:yn4=(o1++(vint ky)).length:=ok.lenB;refine .z .asS<|.nil ?_;refine .end<|⟨(o1++(vint ky)),ya4,yc4,⟨rfl,rfl,rfl,trivial⟩,(ok.n2.n1).k2,by simp [C2]⟩
  refine .skip<|.end<|⟨o1,ao1,co1,⟨rfl,rfl,rfl,trivial⟩,(ok).k2,by simp [C2]⟩
 rintro s U8 ⟨o2,ao2,co2,hs,ok,ho2⟩;refine .frame hs fun τ=>?_;have hl2:o2.length<=20:=by rw [ho2,qA];have:(if hasKy k=true then vint ky else []).length<=10:=(by split;exact vint_len;simp);omega
 refine .seq<|.s<|.z .mvB<|.nil ?_;refine .cond (fun C3=>?_) (fun C3=>?_)
 ·
  refine .seq<|.a 13 (fun fl hh=>Hp h none_ [capI 1 5 (ao2,o2.length,co2) (o2.map bv),boxI pb1 113 [.J ky,.J (ch:Int),.J (tt:Int),.slice la lc.length lcc,.J (sp:Int)]] [rdI (nS h F) (nS h E) (la,lc.length,lcc) lc] hh) mixed ?_;have hS:=ok;refine .g 0 false rfl 38 hS (fun _=>.mvS)<|.g 1 false rfl 39 hS (fun _=>.fa T.fd113_2)<|.lw 2 false rfl 40 hS (fun _ _ hS=>.ldx T.ag3 hS.m1)<|.g 4 false rfl 42 hS (fun _=>.fa T.fd113_3)<|.lw 5 false rfl 43 hS (fun _ _ hS=>.ldx T.ag35 hS.m1)<|.g 6 false rfl 44 hS (fun _=>.len T.el35)<|.g 8 false rfl 46 hS (fun _=>.fa T.fd113_3)<|.lw 9 false rfl 47 hS (fun _ _ hS=>.ldx T.ag35 hS.m1)<|.o1 3<|.c' false rfl 41 .func (varint_any (n:=(tt:Int)) (by omega) (by omega)) ?_;rintro _ U9 own;obtain ⟨ya5,yc5,rfl⟩:=own.formB;have ok:=ok.own own;refine ⟨ok.n2.n2.k2,?_⟩;have hS:=ok.n2.n2.k2;refine .o1 7<|.c' false rfl 45 .func (varint_any (n:=(lc.length:Int)) (by omega) (by omega)) ?_;rintro _ U10 own;obtain ⟨ya6,yc6,rfl⟩:=own.formB;have ok:=ok.own own;refine ⟨ok.n3.n3.k2,?_⟩;have hS:=ok.n3.n3.k2;refine .o1 10<|.a' false rfl 48 (.lit [.tmp 38,.tmp 41,.tmp 45,.tmp 47] (cs:=[.slice ao2 o2.length co2,.slice ya5 ((vint (tt:Int)).length) yc5,.slice ya6 ((vint (lc.length:Int)).length) yc6,.slice la lc.length lcc]) T.el79 T.sz35 T.zr35 ok ⟨rfl,rfl,rfl,rfl,trivial⟩) ?_;rintro _ U11 ⟨pb2,rfl,ok,xe⟩;refine ⟨ok.n4.n4.k2,?_⟩;have hS:=ok.n4.n4.k2;refine .o1 11<|.c' false rfl 49 .func (njoin_any (a:=some ⟨pb2,0,none⟩) (c:=4) (L:=[o2,(vint (tt:Int)),(vint (lc.length:Int)),lc]) (RdL.rows (v:=(some ⟨pb2,0,none⟩,4,4)) (xs:=[(ao2,o2.length,co2),(ya5,(vint (tt:Int)).length,yc5),(ya6,(vint (lc.length:Int)).length,yc6),(la,lc.length,lcc)]) (ls:=[o2,(vint (tt:Int)),(vint (lc.length:Int)),lc]) ok.m0 ⟨⟨_,_,(RdL.ofCapB (v:=(ao2,o2.length,co2)) (l:=o2) ok.m3)⟩,⟨_,_,(RdL.ofCapB (v:=(ya5,(vint (tt:Int)).length,yc5)) (l:=(vint (tt:Int))) ok.m2)⟩,⟨_,_,(RdL.ofCapB (v:=(ya6,(vint (lc.length:Int)).length,yc6)) (l:=(vint (lc.length:Int))) ok.m1)⟩,⟨_,_,ok.r0⟩,trivial⟩) (by rw [show ([o2,(vint (tt:Int)),(vint (lc.length:Int)),lc].flatten).length=o2.length+((vint (tt:Int)).length+((vint (lc.length:Int)).length+lc.length)) from by simp];have h1:=vint_len (n:=(tt:Int));have h2:=vint_len (n:=(lc.length:Int));omega)) ?_;rintro _ U12 own;obtain ⟨ya7,yc7,rfl⟩:=own.formB;have ok:=ok.own own;refine ⟨ok.n5.n5.k2,?_⟩;have hS:=ok.n5.n5.k2;refine .g 12 false rfl 11 hS (fun _=>.asS)<|.e ?_;refine .s<|.z (.fa T.fd113_4)<|.z (.ldx T.ag3 ok.m5)<|.z .neq<|.nil ?_;refine .cd (fun C4=>?_) (fun C4=>?_)
  ·
   refine .r<|.z .mvS<|.z (.fa T.fd113_4)<|.z (.ldx T.ag3 ok.m5)<|.c' 56 .func (varint_any (n:=(sp:Int)) (by omega) (by omega)) ?_;rintro _ U13 own;obtain ⟨ya8,yc8,rfl⟩:=own.formB;have ok:=ok.own own;refine .a' 57 (.app (news:=(vint (sp:Int)).map bv) T.el35 T.sz5 T.by5 T.zr5 ok.n1 (ok.n1.m1).sl bv_all (by simp only [qM,qB,List.length_flatten,kE,List.map_nil,List.sum_cons,List.sum_nil];have h4:=vint_len (n:=(tt:Int));have h5:=vint_len (n:=(lc.length:Int));have h1:=vint_len (n:=(ch:Int));have h2:=vint_len (n:=ky);have h3:=vint_len (n:=(sp:Int));omega)) ?_;rintro _ U14 ⟨ya9,yn9,yc9,rfl,ok,ap⟩;have ok:=ok.cx (ys:=((([o2,(vint (tt:Int)),(vint (lc.length:Int)),lc]).flatten)++(vint (sp:Int))).map bv) (by simp [bv]);obtain rfl:yn9=((([o2,(vint (tt:Int)),(vint (lc.length:Int)),lc]).flatten)++(vint (sp:Int))).length:=ok.lenB;refine .z .asS<|.nil ?_;refine .s<|.z .mvS<|.z .asS<|.z .asI<|.nil ?_;refine .ret ⟨.tuple #[.slice ya9 (((([o2,(vint (tt:Int)),(vint (lc.length:Int)),lc]).flatten)++(vint (sp:Int))).length) yc9,.J 0],Res.two rfl rfl rfl,⟨_,rfl,by rw [show encCl k (⟨ky,ch,tt,lc,sp⟩:Cel)=(([o2,(vint (tt:Int)),(vint (lc.length:Int)),lc]).flatten)++(vint (sp:Int)) from by unfold encCl payB;simp_all];exact (ok).toOwn⟩⟩
  refine .skip<|.s<|.z .mvS<|.z .asS<|.z .asI<|.nil ?_;refine .ret ⟨.tuple #[.slice ya7 ((([o2,(vint (tt:Int)),(vint (lc.length:Int)),lc]).flatten).length) yc7,.J 0],Res.two rfl rfl rfl,⟨_,rfl,by rw [show encCl k (⟨ky,ch,tt,lc,sp⟩:Cel)=([o2,(vint (tt:Int)),(vint (lc.length:Int)),lc]).flatten from by unfold encCl payB;simp_all];exact (ok).toOwn⟩⟩
 refine .skip<|.s<|.z .mvS<|.z .asS<|.z .asI<|.nil ?_;refine .ret ⟨.tuple #[.slice ao2 o2.length co2,.J 0],Res.two rfl rfl rfl,⟨_,rfl,by rw [show encCl k (⟨ky,ch,tt,lc,sp⟩:Cel)=o2 from by unfold encCl payB;simp_all];exact (ok).toOwn⟩⟩
theorem clsize_any {F E:Nat->Prop} {k ch tt sp:Nat} {ky:Int} {lc:List UInt8} (ho:okCl k (⟨ky,ch,tt,lc,sp⟩:Cel)) (hl:RdL h F E (la,lc.length,lcc) lc) :
  Hc 286 #[.J (k:Int),.agg #[.J ky,.J (ch:Int),.J (tt:Int),.slice la lc.length lcc,.J (sp:Int)]] h (fun v h'=>v=.J ((encCl k (⟨ky,ch,tt,lc,sp⟩:Cel)).length:Int)/\Ext h h'):=by
 have hm:=hl.m;have hc:=hl.c;simp only at hm hc;have ok:=(Hp.nil h none_).arg hl;refine HC.go Tryz.func286 15 ?_;refine .s<|.a' 3 (.bxA (cs:=[.J ky,.J (ch:Int),.J (tt:Int),.slice la lc.length lcc,.J (sp:Int)]) ok) ?_;rintro _ U1 ⟨pb1,rfl,ok,xe⟩;refine .z .asI<|.nil ?_;refine .s<|.z .mvI<|.z (.ldb T.ag113 ok.m0 T.sz113)<|.c' 10 .func (clenc_any (k:=k) (ky:=ky) (ch:=ch) (tt:=tt) (la:=la) (lcc:=lcc) (lc:=lc) (sp:=sp) ho ok.r0) ?_;rintro _ U2 ⟨yw1,rfl,own⟩;obtain ⟨ya1,yc1,rfl⟩:=own.formB;have ok:=ok.own own;refine .z .mvU<|.z .ex<|.z .ex<|.z .asS<|.z .asI<|.nil ?_;refine .s<|.z .mvS<|.z (.len T.el35)<|.z .asI<|.nil ?_;refine .ret ⟨.J (((encCl k (⟨ky,ch,tt,lc,sp⟩:Cel)).length:Nat):Int),Res.one rfl rfl,⟨rfl,ok.chg⟩⟩
end
open Go Go.HL
section
variable {b:Bool} {r1 r2 r3 r4 r5:RdS} {h:Heap} {D:Nat->Prop} {rb c n:Nat} {a:Option Addr}
theorem uvG_le {l:List UInt8} {p:Nat} : ∀(f i z:Nat),(uvG l p f i z).2.2=0->(uvG l p f i z).2.1<=l.length
 | 0,_,_,h=>absurd h (by show ¬(9:Nat)=0;decide)
 | f+1,i,z,h=>by
  unfold uvG at h⊢;split at h
  ·exact absurd h (by decide)
  rename_i h1;rw [if_neg h1];split at h
  ·exact absurd h (by decide)
  rename_i h2;rw [if_neg h2];split at h
  ·rename_i h3;rw [if_pos h3];exact uvG_le f (i+1) _ h
  rename_i h3;rw [if_neg h3];split at h
  ·exact absurd h (by decide)
  rename_i h4;rw [if_neg h4];show p+i+1<=l.length;omega
theorem uvG_rg {l:List UInt8} {p:Nat} : ∀(f i z:Nat),i+f=10->z<128 ^ i->-9223372036854775808<=(uvG l p f i z).1/\(uvG l p f i z).1<=9223372036854775807
 | 0,_,_,_,_=>by unfold uvG;exact ⟨by decide,by decide⟩
 | f+1,i,z,hf,hz=>by
  unfold uvG;have hx8:(l.getD (p+i) 0).toNat<256:=UInt8.toNat_lt _;split
  ·exact ⟨by decide,by decide⟩
  split
  ·exact ⟨by decide,by decide⟩
  rename_i h2;have h9:=grp_lt (i:=i) (by omega) hx8 h2;have h10:=grp_lt2 (i:=i) (by omega) hz hx8 h2;split
  ·exact uvG_rg f (i+1) _ (by omega) (by omega)
  split
  ·exact ⟨by decide,by decide⟩
  ·exact unzz_b h10
section
variable {l:List UInt8} {p e:Nat} {r r':RdS} {z:Int}
theorem nxtR_e (h:((e:Nat):Int)≠0):nxtR l ⟨p,e⟩=(0,⟨p,e⟩):=if_pos (by intro h0;exact h (by show ((e:Nat):Int)=0;have:e=0:=h0;omega))
theorem nxtR_b (h:¬((e:Nat):Int)≠0) (h2:(((uvN l p).2.2:Nat):Int)≠0):nxtR l ⟨p,e⟩=(0,⟨p,(uvN l p).2.2⟩):=by unfold nxtR;rw [if_neg (show ¬e≠0 by omega),if_pos (show (uvN l p).2.2≠0 by omega)]
theorem nxtR_0 (h:¬((e:Nat):Int)≠0) (h2:¬(((uvN l p).2.2:Nat):Int)≠0):nxtR l ⟨p,e⟩=((uvN l p).1,⟨(uvN l p).2.1,e⟩):=by unfold nxtR;rw [if_neg (show ¬e≠0 by omega),if_neg (show ¬(uvN l p).2.2≠0 by omega),show e=0 by omega]
theorem nxtR_rg (hp:p<=l.length) (h:nxtR l ⟨p,e⟩=(z,r)):(-9223372036854775808<=z/\z<=9223372036854775807)/\r.p<=l.length:=by
 unfold nxtR at h;split at h
 ·injection h with h1 h2;subst h1 h2;exact ⟨⟨by decide,by decide⟩,hp⟩
 split at h
 ·injection h with h1 h2;subst h1 h2;exact ⟨⟨by decide,by decide⟩,hp⟩
 ·rename_i h3;injection h with h1 h2;subst h1 h2;exact ⟨uvG_rg 10 0 0 rfl (by decide),uvG_le 10 0 0 (Classical.not_not.1 h3)⟩
theorem frmR_p (h:frmR r b=r'):r'.p=r.p:=by unfold frmR at h;split at h<;>(subst h;rfl)
theorem frmR_e (h:frmR r b=r') (h0:r'.e=0):r.e=0/\b=true:=by
 unfold frmR at h;split at h
 ·subst h;exact absurd h0 (by show ¬(8:Nat)=0;decide)
 ·rename_i h1;subst h;refine ⟨h0,?_⟩;cases b
  ·exact absurd ⟨h0,rfl⟩ h1
  ·rfl
theorem nxtR_z {r0:RdS} (h:nxtR l r0=(z,r)) (h0:r.e=0):r0.e=0:=by
 unfold nxtR at h;split at h
 ·injection h with h1 h2;subst h2;exact h0
 ·rename_i h1;exact Classical.not_not.1 h1
theorem ld_n {nn:Nat} {k:Int} (h3:nxtR l r2=(k,r3)) (h2:frmR r1 (decide (0<=(nn:Int)/\(nn:Int)<=16384))=r2) (h:r3.e=0):nn<=16384:=by
 have:=of_decide_eq_true (frmR_e h2 (nxtR_z h3 h)).2;omega
theorem frmR_0 (h:frmR r b=r') (h0:r'.e=0):b=true/\r'=r:=by
 unfold frmR at h;split at h
 ·subst h;exact absurd h0 (by show ¬(8:Nat)=0;decide)
 ·rename_i h1;subst h;refine ⟨?_,rfl⟩;cases b
  ·exact absurd ⟨h0,rfl⟩ h1
  ·rfl
end
theorem rnext_any {F E:Nat->Prop} {p e:Nat} {l:List UInt8} (ok:Hp h D [boxI rb 352 [.slice a l.length c,.J (p:Int),.J (e:Int)]] [rdI F E (a,l.length,c) l] h) (hp:p<=l.length) (hN:l.length<=1000000) :
  Hc 252 #[.P rb] h (fun v h'=>∃z r,nxtR l ⟨p,e⟩=(z,r)/\v=.J z/\Hp h D [boxI rb 352 [.slice a l.length c,.J (r.p:Int),.J (r.e:Int)]] [] h'):=by
 have hN:=hN;have hm:=ok.r0.m;have hc:=ok.r0.c;simp only at hm hc;refine HC.go Tryz.func252 35 ?_;refine .s<|.z .asI<|.nil ?_;refine .seq<|.s<|.z .mvP<|.z .nil<|.z (.fa T.fd352_2)<|.z (.ldx T.ag39 ok.m0)<|.z .neq<|.nil ?_;refine .cd (fun C0=>?_) (fun C0=>?_)
 ·
  refine .s<|.z .asI<|.nil ?_;refine .ret ⟨.J 0,Res.one rfl rfl,⟨_,_,nxtR_e C0,rfl,(ok).k1.e0⟩⟩
 refine .skip<|.seq<|.q (hm:=mixed)<|.z .mvP<|.z .nil<|.z (.fa T.fd352_0)<|.z (.ldx T.ag35 ok.m0)<|.z .mvP<|.z .nil<|.z (.fa T.fd352_1)<|.z (.ldx T.ag3 ok.m0)<|.k 20 .func (unvarint_any (p:=p) (a:=a) (c:=c) (l:=l) ok.r0 (by omega) (by omega))<|.z .mvU<|.z .ex<|.z .ex<|.z .ex<|.z .asI<|.z .asI<|.z .asI<|.nil ?_;refine .seq<|.s<|.z .mvI<|.z .neq<|.nil ?_;refine .cd (fun C1=>?_) (fun C1=>?_)
 ·
  refine .s<|.z .mvP<|.z .mvI<|.z .nil<|.z (.fa T.fd352_2)<|.ur' (.stI T.sz39 ok) ?_;rintro U1 ⟨ok,cg⟩;refine .nil ?_;refine .s<|.z .asI<|.nil ?_;refine .ret ⟨.J 0,Res.one rfl rfl,⟨_,_,nxtR_b C0 C1,rfl,(ok).k1.e0⟩⟩
 refine .skip<|.s<|.z .mvP<|.z .mvI<|.z .nil<|.z (.fa T.fd352_1)<|.ur' (.stI T.sz3 ok) ?_;rintro U2 ⟨ok,cg⟩;refine .nil ?_;refine .s<|.z .mvI<|.z .asI<|.nil ?_;refine .ret ⟨.J ((uvN l p).1),Res.one rfl rfl,⟨_,_,nxtR_0 C0 C1,rfl,(ok).k1.e0⟩⟩
theorem rform_any {p e:Nat} (ok:Hp h D [boxI rb 352 [.slice a n c,.J (p:Int),.J (e:Int)]] [] h) :
  Hc 253 #[.P rb,.bool b] h (fun v h'=>∃r,frmR ⟨p,e⟩ b=r/\v=.tuple #[]/\Hp h D [boxI rb 352 [.slice a n c,.J (r.p:Int),.J (r.e:Int)]] [] h'):=by
 refine HC.go Tryz.func253 16 ?_;refine .s<|.z .mvP<|.z .nil<|.z (.fa T.fd352_2)<|.z (.ldx T.ag39 ok.m0)<|.z .eql<|.z .mvB<|.sd (fun G9=>?_) (fun G9=>?_)
 ·
  refine .z .mvB<|.z .not<|.z .pkt<|.nil ?_;refine .cond (fun C0=>?_) (fun C0=>?_)
  ·
   refine .r<|.z .mvP<|.z .nil<|.z (.fa T.fd352_2)<|.ur' (.stI T.sz39 ok) ?_;rintro U1 ⟨ok,cg⟩;refine .nil ?_;refine .end<|⟨.tuple #[],Res.none rfl,⟨⟨p,8⟩,if_pos ⟨(show e=0 by omega),by simp_all⟩,rfl,(ok).k1⟩⟩
  refine .skip<|.end<|⟨.tuple #[],Res.none rfl,⟨⟨p,e⟩,if_neg (by rintro ⟨h1,h2⟩;have h1:e=0:=h1;first | omega | simp_all),rfl,(ok).k1⟩⟩
 refine .y<|.y<|.z .pkf<|.nil ?_;refine .cf<|.skip<|.end<|⟨.tuple #[],Res.none rfl,⟨⟨p,e⟩,if_neg (by rintro ⟨h1,h2⟩;have h1:e=0:=h1;first | omega | simp_all),rfl,(ok).k1⟩⟩
theorem ldR_bad {l:List UInt8} {c:Cel} {r:RdS} {n k:Int} (h1:nxtR l r=(n,r1)) (h2:frmR r1 (decide (0<=n/\n<=16384))=r2) (h3:nxtR l r2=(k,r3)) (h4:frmR r3 (decide (0<=k/\k<=n))=r4) (h5:(if r4.e=0/\(l.length:Int)-r4.p<k then ⟨r4.p,6⟩ else r4:RdS)=r5) (h6:r5.e≠0):ldR l c r=(c,r5):=by
 unfold ldR;simp only [h1,h2,h3,h4,h5];unfold ldT;rw [if_pos h6]
theorem ldR_sp {l:List UInt8} {c:Cel} {r r6 r7:RdS} {k:Nat} {d:Int} (h1:nxtR l r=((n:Int),r1)) (h2:frmR r1 (decide (0<=(n:Int)/\(n:Int)<=16384))=r2) (h3:nxtR l r2=((k:Int),r3)) (h4:frmR r3 (decide (0<=(k:Int)/\(k:Int)<=n))=r4) (h5:(if r4.e=0/\(l.length:Int)-r4.p<(k:Int) then ⟨r4.p,6⟩ else r4:RdS)=r5) (h6:r5.e=0) (h7:(k:Int)<n) (h8:nxtR l ⟨r5.p+k,r5.e⟩=(d,r6)) (h9:frmR r6 (pgNo d)=r7):ldR l c r=({ c with total:=n,loc:=(l.drop r5.p).take k,spill:=d.toNat },r7):=by
 rw [h6] at h8;unfold ldR;simp only [h1,h2,h3,h4,h5];unfold ldT;simp only [Int.toNat_natCast];rw [if_neg (by omega),if_pos h7];simp only [h8,h9]
theorem ldR_no {l:List UInt8} {c:Cel} {r:RdS} {k:Nat} (h1:nxtR l r=((n:Int),r1)) (h2:frmR r1 (decide (0<=(n:Int)/\(n:Int)<=16384))=r2) (h3:nxtR l r2=((k:Int),r3)) (h4:frmR r3 (decide (0<=(k:Int)/\(k:Int)<=n))=r4) (h5:(if r4.e=0/\(l.length:Int)-r4.p<(k:Int) then ⟨r4.p,6⟩ else r4:RdS)=r5) (h6:r5.e=0) (h7:¬(k:Int)<n):ldR l c r=({ c with total:=n,loc:=(l.drop r5.p).take k },⟨r5.p+k,r5.e⟩):=by
 rw [h6];unfold ldR;simp only [h1,h2,h3,h4,h5];unfold ldT;simp only [Int.toNat_natCast];rw [if_neg (by omega),if_neg h7]
theorem rload_any {F E:Nat->Prop} {cb p e:Nat} {l:List UInt8} {ky zc:Int} (ok:Hp h D [boxI rb 352 [.slice a l.length c,.J (p:Int),.J (e:Int)],boxI cb 113 [.J ky,.J zc,.J 0,.N,.J 0]] [rdI F E (a,l.length,c) l] h) (hp:p<=l.length) (hN:l.length<=1000000) :
  Hc 255 #[.P rb,.P cb] h (fun v h'=>∃c' r',ldR l cel0 ⟨p,e⟩=(c',r')/\v=.tuple #[]/\∃sz x cx,sz.toNat=c'.spill/\(r'.e=0->0<=sz)/\Hp h D [boxI cb 113 [.J ky,.J zc,.J (c'.total:Int),.slice x c'.loc.length cx,.J sz],capI 1 5 (x,c'.loc.length,cx) (c'.loc.map bv),boxI rb 352 [.slice a l.length c,.J (r'.p:Int),.J (r'.e:Int)]] [] h'):=by
 have hN:=hN;have hm:=ok.r0.m;have hc:=ok.r0.c;simp only at hm hc;refine HC.go Tryz.func255 99 ?_;refine .s<|.z .mvP<|.c' 8 .func (rnext_any (p:=p) (e:=e) (l:=l) (ok).loc1 (by omega) hN) ?_;rintro _ U1 ⟨n1,r1,hnr1,rfl,q⟩;have ok:=(ok).lift1 q;have hrr1:=nxtR_rg (by omega) hnr1;have hrzr1:=hrr1.1.1;have hryr1:=hrr1.1.2;have hrpr1:=hrr1.2;refine .z .asI<|.nil ?_;refine .seq<|.join (fun s hh=>∃(r2:RdS),Has s [(0,.P rb),(1,.P cb),(4,.J n1)]/\Hp h D [boxI rb 352 [.slice a l.length c,.J (r2.p:Int),.J (r2.e:Int)],boxI cb 113 [.J ky,.J zc,.J 0,.N,.J 0]] [rdI F E (a,l.length,c) l] hh/\frmR r1 (decide (0<=n1/\n1<=16384))=r2) ?_ ?_
 ·
  refine .r<|.z .mvP<|.z .mvI<|.z .geq<|.z .mvB<|.sd (fun G12=>?_) (fun G12=>?_)
  ·
   refine .z .mvI<|.z .leq<|.z .pkt<|.c' 16 .func (rform_any (p:=r1.p) (e:=r1.e) (b:=decide (n1<=16384)) (ok).loc0) ?_;rintro _ U2 ⟨r2,hfr2,rfl,q⟩;have ok:=(ok).lift1 q;have hrpr2:=frmR_p hfr2;dsimp only at hrpr2;refine .nil ?_;refine .end<|⟨r2,⟨rfl,rfl,rfl,trivial⟩,(ok).k2,by first | exact hfr2 | (rw [show decide (0<=n1/\n1<=16384)=decide (n1<=16384) from by rw [decide_eq_decide];omega];exact hfr2) | (rw [show decide (0<=n1/\n1<=16384)=false from decide_eq_false (by omega)];exact hfr2)⟩
  refine .y<|.y<|.z .pkf<|.c' 16 .func (rform_any (p:=r1.p) (e:=r1.e) (b:=false) (ok).loc0) ?_;rintro _ U3 ⟨r2,hfr2,rfl,q⟩;have ok:=(ok).lift1 q;have hrpr2:=frmR_p hfr2;dsimp only at hrpr2;refine .nil ?_;refine .end<|⟨r2,⟨rfl,rfl,rfl,trivial⟩,(ok).k2,by first | exact hfr2 | (rw [show decide (0<=n1/\n1<=16384)=decide (n1<=16384) from by rw [decide_eq_decide];omega];exact hfr2) | (rw [show decide (0<=n1/\n1<=16384)=false from decide_eq_false (by omega)];exact hfr2)⟩
 rintro s U4 ⟨r2,hs,ok,hfr2⟩;refine .frame hs fun τ=>?_;have hrpr2:=frmR_p hfr2;refine .s<|.z .mvP<|.c' 18 .func (rnext_any (p:=r2.p) (e:=r2.e) (l:=l) (ok).loc1 (by omega) hN) ?_;rintro _ U5 ⟨k1,r3,hnr3,rfl,q⟩;have ok:=(ok).lift1 q;have hrr3:=nxtR_rg (by omega) hnr3;have hrzr3:=hrr3.1.1;have hryr3:=hrr3.1.2;have hrpr3:=hrr3.2;refine .z .asI<|.nil ?_;refine .seq<|.join (fun s hh=>∃(r4:RdS),Has s [(0,.P rb),(1,.P cb),(4,.J n1),(5,.J k1)]/\Hp h D [boxI rb 352 [.slice a l.length c,.J (r4.p:Int),.J (r4.e:Int)],boxI cb 113 [.J ky,.J zc,.J 0,.N,.J 0]] [rdI F E (a,l.length,c) l] hh/\frmR r3 (decide (0<=k1/\k1<=n1))=r4) ?_ ?_
 ·
  refine .r<|.z .mvP<|.z .mvI<|.z .geq<|.z .mvB<|.sd (fun G22=>?_) (fun G22=>?_)
  ·
   refine .z .mvI<|.z .mvI<|.z .leq<|.z .pkt<|.c' 27 .func (rform_any (p:=r3.p) (e:=r3.e) (b:=decide (k1<=n1)) (ok).loc0) ?_;rintro _ U6 ⟨r4,hfr4,rfl,q⟩;have ok:=(ok).lift1 q;have hrpr4:=frmR_p hfr4;dsimp only at hrpr4;refine .nil ?_;refine .end<|⟨r4,⟨rfl,rfl,rfl,rfl,trivial⟩,(ok).k2,by first | exact hfr4 | (rw [show decide (0<=k1/\k1<=n1)=decide (k1<=n1) from by rw [decide_eq_decide];omega];exact hfr4) | (rw [show decide (0<=k1/\k1<=n1)=false from decide_eq_false (by omega)];exact hfr4)⟩
  refine .y<|.y<|.y<|.z .pkf<|.c' 27 .func (rform_any (p:=r3.p) (e:=r3.e) (b:=false) (ok).loc0) ?_;rintro _ U7 ⟨r4,hfr4,rfl,q⟩;have ok:=(ok).lift1 q;have hrpr4:=frmR_p hfr4;dsimp only at hrpr4;refine .nil ?_;refine .end<|⟨r4,⟨rfl,rfl,rfl,rfl,trivial⟩,(ok).k2,by first | exact hfr4 | (rw [show decide (0<=k1/\k1<=n1)=decide (k1<=n1) from by rw [decide_eq_decide];omega];exact hfr4) | (rw [show decide (0<=k1/\k1<=n1)=false from decide_eq_false (by omega)];exact hfr4)⟩
 rintro s U8 ⟨r4,hs,ok,hfr4⟩;refine .frame hs fun τ=>?_;have hrpr4:=frmR_p hfr4;refine .seq<|.seq<|.q (hm:=mixed)<|.z .mvP<|.z .nil<|.z (.fa T.fd352_2)<|.z (.ldx T.ag39 ok.m0)<|.z .eql<|.z .mvB<|.sd (fun G33=>?_) (fun G33=>?_)
 ·
  refine .z .mvP<|.z .nil<|.z (.fa T.fd352_0)<|.z (.ldx T.ag35 ok.m0)<|.z (.len T.el35)<|.z .mvP<|.z .nil<|.z (.fa T.fd352_1)<|.z (.ldx T.ag3 ok.m0)<|.z .sub<|.z .mvI<|.z .lss<|.z .pkt<|.nil ?_;refine .join (fun s hh=>∃(r5:RdS),Has s [(0,.P rb),(1,.P cb),(4,.J n1),(5,.J k1)]/\Hp h D [boxI rb 352 [.slice a l.length c,.J (r5.p:Int),.J (r5.e:Int)],boxI cb 113 [.J ky,.J zc,.J 0,.N,.J 0]] [rdI F E (a,l.length,c) l] hh/\(if r4.e=0/\(l.length:Int)-r4.p<k1 then ⟨r4.p,6⟩ else r4:RdS)=r5) ?_ ?_
  ·
   refine .cd (fun C0=>?_) (fun C0=>?_)
   ·
    refine .r<|.z .mvP<|.z .nil<|.z (.fa T.fd352_2)<|.ur' (.stI T.sz39 ok) ?_;rintro U9 ⟨ok,cg⟩;refine .nil ?_;refine .end<|⟨⟨r4.p,6⟩,⟨rfl,rfl,rfl,rfl,trivial⟩,(ok).k2,if_pos ⟨by omega,by omega⟩⟩
   refine .skip<|.end<|⟨r4,⟨rfl,rfl,rfl,rfl,trivial⟩,(ok).k2,if_neg (by rintro ⟨h1,h2⟩;omega)⟩
  rintro s U10 ⟨r5,hs,ok,hr5⟩;refine .frame hs fun τ=>?_;refine .seq<|.s<|.z .mvP<|.z .nil<|.z (.fa T.fd352_2)<|.z (.ldx T.ag39 ok.m0)<|.z .neq<|.nil ?_;refine .cd (fun C1=>?_) (fun C1=>?_)
  ·
   have ok:=ok.nilC (k:=1) (e:=5);refine .ret ⟨.tuple #[],Res.none rfl,⟨_,_,ldR_bad hnr1 hfr2 hnr3 hfr4 hr5 (by omega),rfl,0,none,0,rfl,fun _=>Int.le_refl _,(ok.n1.n1.n2).k3.e0⟩⟩
  refine .skip<|.seq<|?_;have h50:r5.e=0:=by omega
  have h54:r5=r4/\r4.e=0/\¬(l.length:Int)-r4.p<k1:=by
   split at hr5
   ·subst hr5;exact absurd h50 (by show ¬(6:Nat)=0;decide)
   ·rename_i h1;subst hr5;exact ⟨rfl,h50,fun h2=>h1 ⟨h50,h2⟩⟩
  obtain ⟨hk1,hk2⟩:=frmR_0 hfr4 h54.2.1;have hk3:=of_decide_eq_true hk1;obtain ⟨nn,rfl⟩:∃nn:Nat,n1=(nn:Int):=⟨n1.toNat,by omega⟩;obtain ⟨kn,rfl⟩:∃kn:Nat,k1=(kn:Int):=⟨k1.toNat,by omega⟩;have hpk:r5.p+kn<=l.length:=by
   have h8:=h54.2.2;have h9:r4.p<=l.length:=by rw [hk2];exact hrpr3
   rw [h54.1];omega
  have hn16:nn<=16384:=by
   have h6:r3.e=0:=by rw [<-hk2];exact h54.2.1
   exact ld_n hnr3 hfr2 h6
  refine .r<|.z .mvP<|.z .mvI<|.z .nil<|.z (.fa T.fd113_2)<|.ur' (.stI T.sz3 ok.n1) ?_;rintro U11 ⟨ok,cg⟩;refine .nil ?_;refine .seq<|.a 19 (fun fl hh=>cond fl True (Hp h D [boxI cb 113 [.J ky,.J zc,.J (nn:Int),.N,.J 0],boxI rb 352 [.slice a l.length c,.J (r5.p:Int),.J (r5.e:Int)]] [rdI F E (a,l.length,c) l] hh)) mixed ?_;have hS:=ok;refine .g 0 false rfl 59 hS (fun _=>.mvP)<|.g 1 false rfl 60 hS (fun _=>.mvP)<|.g 2 false rfl 61 hS (fun _=>.nil)<|.g 3 false rfl 62 hS (fun _=>.fa T.fd352_0)<|.l 4 false rfl 63 hS (fun _ hS=>.ldx T.ag35 hS.m1)<|.g 5 false rfl 64 hS (fun _=>.mvP)<|.g 6 false rfl 65 hS (fun _=>.nil)<|.g 7 false rfl 66 hS (fun _=>.fa T.fd352_1)<|.l 8 false rfl 67 hS (fun _ hS=>.ldx T.ag3 hS.m1)<|.g 9 false rfl 68 hS (fun _=>.mvP)<|.g 10 false rfl 69 hS (fun _=>.nil)<|.g 11 false rfl 70 hS (fun _=>.fa T.fd352_1)<|.l 12 false rfl 71 hS (fun _ hS=>.ldx T.ag3 hS.m1)<|.g 13 false rfl 72 hS (fun _=>.mvI)<|.g 14 false rfl 73 hS (fun _=>.addI)<|.g 15 false rfl 74 hS (fun _=>.slh r5.p (r5.p+kn) T.el35 T.sz5)<|?_;generalize hc1:cutA a r5.p c 1=ca1;generalize hn1:(r5.p+kn)-r5.p=cn1;obtain rfl:cn1=(((l.drop r5.p).take kn)).length:=by rw [<-hn1];simp<;>omega
  have ok:=ok.d0 (rdI F E (ca1,(((l.drop r5.p).take kn)).length,c-r5.p) ((l.drop r5.p).take kn)) (by have h1:=ok.r0.cut (i:=r5.p) (j:=(r5.p+kn)) (by omega) (by omega);rw [show ((l).drop r5.p).take ((r5.p+kn)-r5.p)=((l.drop r5.p).take kn) from (by congr 1;omega)] at h1;rw [<-hc1,<-hn1];exact h1) (fun _ h=>h);refine .o1 16<|?_;have ok:=ok.nilC (k:=1) (e:=5);refine .a' false rfl 75 (.app (news:=((l.drop r5.p).take kn).map bv) T.el35 T.sz5 T.by5 T.zr5 ok (ok.r0).by bv_all (by simp only [qM,qA,qJ,qV,qB,kW,List.length_range,fixedN_len,sealN_len];omega)) ?_;rintro _ U12 ⟨ya1,yn1,yc1,rfl,ok,ap⟩;have ok:=ok.cx (ys:=(((l.drop r5.p).take kn)).map bv) (by simp [bv]);obtain rfl:yn1=(((l.drop r5.p).take kn)).length:=ok.lenB;refine ⟨ok.n2.n2.k2.tR,?_⟩;have hS:=ok.n2.n2.k2.tR;refine .g 17 false rfl 76 hS (fun _=>.nil)<|.g 18 false rfl 77 hS (fun _=>.fa T.fd113_3)<|.o1 19<|.ur' true rfl (.stS T.sz35 ok.n1) ?_;rintro U13 ⟨ok,cg⟩;refine ⟨trivial,?_⟩;refine .e ?_;refine .s<|.z .mvP<|.z .nil<|.z (.fa T.fd352_1)<|.z (.ldx T.ag3 ok.m2)<|.z .mvI<|.z .addI<|.z .nil<|.z (.fa T.fd352_1)<|.ur' (.stI T.sz3 ok.n2) ?_;rintro U14 ⟨ok,cg⟩;refine .nil ?_;refine .s<|.z .mvI<|.z .mvI<|.z .lss<|.nil ?_;refine .cd (fun C2=>?_) (fun C2=>?_)
  ·
   refine .s<|.z .mvP<|.c' 90 .func (rnext_any (p:=(r5.p+kn)) (e:=r5.e) (l:=l) (ok.f1.e1).loc1 (by omega) hN) ?_;rintro _ U15 ⟨d1,r6,hnr6,rfl,q⟩;have ok:=(ok).lift1 q;have hrr6:=nxtR_rg (by omega) hnr6;have hrzr6:=hrr6.1.1;have hryr6:=hrr6.1.2;have hrpr6:=hrr6.2;refine .z .asI<|.nil ?_;refine .s<|.z .mvP<|.z .mvI<|.k 93 .func (clpage_any (n:=d1))<|.c' 94 .func (rform_any (p:=r6.p) (e:=r6.e) (b:=(pgNo d1)) (ok).loc0) ?_;rintro _ U16 ⟨r7,hfr7,rfl,q⟩;have ok:=(ok).lift1 q;have hrpr7:=frmR_p hfr7;dsimp only at hrpr7;refine .nil ?_;refine .r<|.z .mvP<|.z .mvI<|.z .nil<|.z (.fa T.fd113_4)<|.ur' (.stI T.sz3 ok.n1) ?_;rintro U17 ⟨ok,cg⟩;refine .nil ?_;refine .end<|⟨.tuple #[],Res.none rfl,⟨_,_,ldR_sp hnr1 hfr2 hnr3 hfr4 hr5 h50 (by omega) hnr6 hfr7,rfl,d1,_,_,rfl,(fun h=>by have:=(frmR_0 hfr7 h).1;have:=of_decide_eq_true this;omega),(ok.n1.n2.n2).k3.e0⟩⟩
  refine .skip<|.end<|⟨.tuple #[],Res.none rfl,⟨_,_,ldR_no hnr1 hfr2 hnr3 hfr4 hr5 h50 (by omega),rfl,0,_,_,rfl,fun _=>Int.le_refl _,(ok.n2.n2).k3.e0⟩⟩
 refine .y<|.y<|.y<|.y<|.y<|.y<|.y<|.y<|.y<|.y<|.y<|.y<|.z .pkf<|.nil ?_;refine .join (fun s hh=>∃(r5:RdS),Has s [(0,.P rb),(1,.P cb),(4,.J n1),(5,.J k1)]/\Hp h D [boxI rb 352 [.slice a l.length c,.J (r5.p:Int),.J (r5.e:Int)],boxI cb 113 [.J ky,.J zc,.J 0,.N,.J 0]] [rdI F E (a,l.length,c) l] hh/\(if r4.e=0/\(l.length:Int)-r4.p<k1 then ⟨r4.p,6⟩ else r4:RdS)=r5) ?_ ?_
 ·
  refine .cf<|.skip<|.end<|⟨r4,⟨rfl,rfl,rfl,rfl,trivial⟩,(ok).k2,if_neg (by rintro ⟨h1,h2⟩;omega)⟩
 rintro s U18 ⟨r5,hs,ok,hr5⟩;refine .frame hs fun τ=>?_;refine .seq<|.s<|.z .mvP<|.z .nil<|.z (.fa T.fd352_2)<|.z (.ldx T.ag39 ok.m0)<|.z .neq<|.nil ?_;refine .cd (fun C1=>?_) (fun C1=>?_)
 ·
  have ok:=ok.nilC (k:=1) (e:=5);refine .ret ⟨.tuple #[],Res.none rfl,⟨_,_,ldR_bad hnr1 hfr2 hnr3 hfr4 hr5 (by omega),rfl,0,none,0,rfl,fun _=>Int.le_refl _,(ok.n1.n1.n2).k3.e0⟩⟩
 refine .skip<|.seq<|?_;have h50:r5.e=0:=by omega
 have h54:r5=r4/\r4.e=0/\¬(l.length:Int)-r4.p<k1:=by
  split at hr5
  ·subst hr5;exact absurd h50 (by show ¬(6:Nat)=0;decide)
  ·rename_i h1;subst hr5;exact ⟨rfl,h50,fun h2=>h1 ⟨h50,h2⟩⟩
 obtain ⟨hk1,hk2⟩:=frmR_0 hfr4 h54.2.1;have hk3:=of_decide_eq_true hk1;obtain ⟨nn,rfl⟩:∃nn:Nat,n1=(nn:Int):=⟨n1.toNat,by omega⟩;obtain ⟨kn,rfl⟩:∃kn:Nat,k1=(kn:Int):=⟨k1.toNat,by omega⟩;have hpk:r5.p+kn<=l.length:=by
  have h8:=h54.2.2;have h9:r4.p<=l.length:=by rw [hk2];exact hrpr3
  rw [h54.1];omega
 have hn16:nn<=16384:=by
  have h6:r3.e=0:=by rw [<-hk2];exact h54.2.1
  exact ld_n hnr3 hfr2 h6
 refine .r<|.z .mvP<|.z .mvI<|.z .nil<|.z (.fa T.fd113_2)<|.ur' (.stI T.sz3 ok.n1) ?_;rintro U19 ⟨ok,cg⟩;refine .nil ?_;refine .seq<|.a 19 (fun fl hh=>cond fl True (Hp h D [boxI cb 113 [.J ky,.J zc,.J (nn:Int),.N,.J 0],boxI rb 352 [.slice a l.length c,.J (r5.p:Int),.J (r5.e:Int)]] [rdI F E (a,l.length,c) l] hh)) mixed ?_;have hS:=ok;refine .g 0 false rfl 59 hS (fun _=>.mvP)<|.g 1 false rfl 60 hS (fun _=>.mvP)<|.g 2 false rfl 61 hS (fun _=>.nil)<|.g 3 false rfl 62 hS (fun _=>.fa T.fd352_0)<|.l 4 false rfl 63 hS (fun _ hS=>.ldx T.ag35 hS.m1)<|.g 5 false rfl 64 hS (fun _=>.mvP)<|.g 6 false rfl 65 hS (fun _=>.nil)<|.g 7 false rfl 66 hS (fun _=>.fa T.fd352_1)<|.l 8 false rfl 67 hS (fun _ hS=>.ldx T.ag3 hS.m1)<|.g 9 false rfl 68 hS (fun _=>.mvP)<|.g 10 false rfl 69 hS (fun _=>.nil)<|.g 11 false rfl 70 hS (fun _=>.fa T.fd352_1)<|.l 12 false rfl 71 hS (fun _ hS=>.ldx T.ag3 hS.m1)<|.g 13 false rfl 72 hS (fun _=>.mvI)<|.g 14 false rfl 73 hS (fun _=>.addI)<|.g 15 false rfl 74 hS (fun _=>.slh r5.p (r5.p+kn) T.el35 T.sz5)<|?_;generalize hc2:cutA a r5.p c 1=ca2;generalize hn2:(r5.p+kn)-r5.p=cn2;obtain rfl:cn2=(((l.drop r5.p).take kn)).length:=by rw [<-hn2];simp<;>omega
 have ok:=ok.d0 (rdI F E (ca2,(((l.drop r5.p).take kn)).length,c-r5.p) ((l.drop r5.p).take kn)) (by have h1:=ok.r0.cut (i:=r5.p) (j:=(r5.p+kn)) (by omega) (by omega);rw [show ((l).drop r5.p).take ((r5.p+kn)-r5.p)=((l.drop r5.p).take kn) from (by congr 1;omega)] at h1;rw [<-hc2,<-hn2];exact h1) (fun _ h=>h);refine .o1 16<|?_;have ok:=ok.nilC (k:=1) (e:=5);refine .a' false rfl 75 (.app (news:=((l.drop r5.p).take kn).map bv) T.el35 T.sz5 T.by5 T.zr5 ok (ok.r0).by bv_all (by simp only [qM,qA,qJ,qV,qB,kW,List.length_range,fixedN_len,sealN_len];omega)) ?_;rintro _ U20 ⟨ya2,yn2,yc2,rfl,ok,ap⟩;have ok:=ok.cx (ys:=(((l.drop r5.p).take kn)).map bv) (by simp [bv]);obtain rfl:yn2=(((l.drop r5.p).take kn)).length:=ok.lenB;refine ⟨ok.n2.n2.k2.tR,?_⟩;have hS:=ok.n2.n2.k2.tR;refine .g 17 false rfl 76 hS (fun _=>.nil)<|.g 18 false rfl 77 hS (fun _=>.fa T.fd113_3)<|.o1 19<|.ur' true rfl (.stS T.sz35 ok.n1) ?_;rintro U21 ⟨ok,cg⟩;refine ⟨trivial,?_⟩;refine .e ?_;refine .s<|.z .mvP<|.z .nil<|.z (.fa T.fd352_1)<|.z (.ldx T.ag3 ok.m2)<|.z .mvI<|.z .addI<|.z .nil<|.z (.fa T.fd352_1)<|.ur' (.stI T.sz3 ok.n2) ?_;rintro U22 ⟨ok,cg⟩;refine .nil ?_;refine .s<|.z .mvI<|.z .mvI<|.z .lss<|.nil ?_;refine .cd (fun C2=>?_) (fun C2=>?_)
 ·
  refine .s<|.z .mvP<|.c' 90 .func (rnext_any (p:=(r5.p+kn)) (e:=r5.e) (l:=l) (ok.f1.e1).loc1 (by omega) hN) ?_;rintro _ U23 ⟨d1,r6,hnr6,rfl,q⟩;have ok:=(ok).lift1 q;have hrr6:=nxtR_rg (by omega) hnr6;have hrzr6:=hrr6.1.1;have hryr6:=hrr6.1.2;have hrpr6:=hrr6.2;refine .z .asI<|.nil ?_;refine .s<|.z .mvP<|.z .mvI<|.k 93 .func (clpage_any (n:=d1))<|.c' 94 .func (rform_any (p:=r6.p) (e:=r6.e) (b:=(pgNo d1)) (ok).loc0) ?_;rintro _ U24 ⟨r7,hfr7,rfl,q⟩;have ok:=(ok).lift1 q;have hrpr7:=frmR_p hfr7;dsimp only at hrpr7;refine .nil ?_;refine .r<|.z .mvP<|.z .mvI<|.z .nil<|.z (.fa T.fd113_4)<|.ur' (.stI T.sz3 ok.n1) ?_;rintro U25 ⟨ok,cg⟩;refine .nil ?_;refine .end<|⟨.tuple #[],Res.none rfl,⟨_,_,ldR_sp hnr1 hfr2 hnr3 hfr4 hr5 h50 (by omega) hnr6 hfr7,rfl,d1,_,_,rfl,(fun h=>by have:=(frmR_0 hfr7 h).1;have:=of_decide_eq_true this;omega),(ok.n1.n2.n2).k3.e0⟩⟩
 refine .skip<|.end<|⟨.tuple #[],Res.none rfl,⟨_,_,ldR_no hnr1 hfr2 hnr3 hfr4 hr5 h50 (by omega),rfl,0,_,_,rfl,fun _=>Int.le_refl _,(ok.n2.n2).k3.e0⟩⟩
end
open Go Go.HL
def decK (k:Nat) (l:List UInt8):Cel × Nat:=if okKd k=true then decCl k l else (cel0,1)
theorem ldR_c {l:List UInt8} {ky:Int} {ch:Nat} {r r':RdS} {C:Cel} (h:ldR l cel0 r=(C,r')):ldR l ⟨ky,ch,0,[],0⟩ r=(⟨ky,ch,C.total,C.loc,C.spill⟩,r'):=by
 have g:∀n k r,ldT l cel0 n k r=(C,r')->ldT l ⟨ky,ch,0,[],0⟩ n k r=(⟨ky,ch,C.total,C.loc,C.spill⟩,r'):=fun n k r h=>by
  unfold ldT at h⊢;split at h<;>rename_i h1
  ·rw [if_pos h1];injection h with h2 h3;subst h2 h3;rfl
  ·rw [if_neg h1];split at h<;>rename_i h2
   ·rw [if_pos h2];injection h with h3 h4;subst h3 h4;rfl
   ·rw [if_neg h2];injection h with h3 h4;subst h3 h4;rfl
 exact g _ _ _ h
theorem decK_1 {k:Nat} {l:List UInt8} (h:okKd k=false):decK k l=(cel0,1):=if_neg (by rw [h];decide)
section
variable {k:Nat} {l:List UInt8} {zc kz:Int} {r1 r2 r3 r4:RdS} {C:Cel} (h0:okKd k=true) (h1:dcA k l=(zc,r1)) (h2:dcB k l r1=(kz,r2)) (h3:dcD k l ⟨kz,zc.toNat,0,[],0⟩ r2=(⟨kz,zc.toNat,C.total,C.loc,C.spill⟩,r3)) (h4:frmR r3 (decide ((r3.p:Int)=(l.length:Int)))=r4)
include h0 h1 h2 h3 h4
theorem decK_e (h:((r4.e:Nat):Int)≠0):decK k l=(cel0,r4.e):=by
 unfold decK decCl;rw [if_pos h0,h1];simp only [h2,h3];have h5:decide (r3.p=l.length)=decide ((r3.p:Int)=(l.length:Int)):=by rw [decide_eq_decide];omega
 unfold dcE;simp only [h5,h4];rw [if_pos (show r4.e≠0 by omega)]
theorem decK_0 (h:¬((r4.e:Nat):Int)≠0):decK k l=(⟨kz,zc.toNat,C.total,C.loc,C.spill⟩,0):=by
 unfold decK decCl;rw [if_pos h0,h1];simp only [h2,h3];have h5:decide (r3.p=l.length)=decide ((r3.p:Int)=(l.length:Int)):=by rw [decide_eq_decide];omega
 unfold dcE;simp only [h5,h4];rw [if_neg (show ¬r4.e≠0 by omega)]
end
theorem ld_z {l:List UInt8} {r r':RdS} {C:Cel} (h:ldR l cel0 r=(C,r')) (h0:r'.e=0):r.e=0:=by
 refine Classical.byContradiction fun hne=>?_;have a1:nxtR l r=(0,r):=if_pos hne;have f1:∀b,frmR r b=r:=fun b=>if_neg (fun h=>hne h.1);unfold ldR at h;simp only [a1,f1] at h;rw [if_neg (show ¬(r.e=0/\_) from fun h=>hne h.1)] at h;unfold ldT at h;rw [if_pos hne] at h;injection h with h1 h2;subst h2;exact hne h0
theorem cldec_any {h:Heap} {F E:Nat->Prop} {k c:Nat} {a:Option Addr} {l:List UInt8} (hl:RdL h F E (a,l.length,c) l) (hN:l.length<=1000000) :
  Hc 204 #[.J (k:Int),.slice a l.length c] h (fun v h'=>∃x cx,v=.tuple #[.agg #[.J (decK k l).1.key,.J ((decK k l).1.child:Int),.J ((decK k l).1.total:Int),.slice x (decK k l).1.loc.length cx,.J ((decK k l).1.spill:Int)],.J ((decK k l).2:Int)]/\Hp h none_ [capI 1 5 (x,(decK k l).1.loc.length,cx) ((decK k l).1.loc.map bv)] [] h'):=by
 have hm:=hl.m;have hc:=hl.c;simp only at hm hc;have ok:=(Hp.nil h none_).arg hl;refine HC.go Tryz.func204 62 ?_;refine .s<|.a' 4 (.alA T.zr113 ok) ?_;rintro _ U1 ⟨pb1,rfl,ok,xe⟩;refine .z .asI<|.nil ?_;refine .s<|.z .mvI<|.k 15 .func (clhas_any (k:=k))<|.z .mvU<|.z .ex<|.z .ex<|.z .ex<|.z .ex<|.z .asB<|.z .asB<|.z .asB<|.z .asB<|.nil ?_;refine .seq<|.s<|.z .mvB<|.z .not<|.nil ?_;refine .cond (fun C0=>?_) (fun C0=>?_)
 ·
  refine .s<|.z (.bd #[.J 0,.J 0,.J 0,.N,.J 0] T.zr113 T.pl113 rfl)<|.ur' (.stW (vs:=[.J 0,.J 0,.J 0,.N,.J 0]) T.sz113 ok (oneL rfl)) ?_;rintro U2 ⟨ok,cg⟩;refine .z .asI<|.nil ?_;have ok:=ok.nilC (k:=1) (e:=5);refine .ret ⟨.tuple #[.agg #[.J 0,.J 0,.J 0,.N,.J 0],.J 1],Res.many (vs:=[.agg #[.J 0,.J 0,.J 0,.N,.J 0],.J 1]) rfl ⟨⟨_,rfl,load_ag T.ag113 ok.m1 T.sz113⟩,rfl,trivial⟩ rfl,⟨none,0,by rw [decK_1 (by simpa using C0)];rfl,by rw [decK_1 (by simpa using C0)];exact (ok).k1.e0⟩⟩
 refine .skip<|.s<|.z .mvS<|.z (.bd #[.slice a l.length c,.J 0,.J 0] T.zr352 T.pl352 rfl)<|.a' 25 (.bxA (cs:=[.slice a l.length c,.J 0,.J 0]) ok) ?_;rintro _ U3 ⟨pb2,rfl,ok,xe⟩;refine .z .asP<|.nil ?_;refine .s<|.a' 11 (.alA T.zr113 ok) ?_;rintro _ U4 ⟨pb3,rfl,ok,xe⟩;refine .nil ?_;refine .seq<|.s<|.z .mvB<|.nil ?_;refine .join (fun s hh=>∃(zc:Int) (r1:RdS),Has s [(1,.slice a l.length c),(4,.P pb1),(7,.bool (hasKy k)),(8,.bool (hasPy k)),(10,.P pb2),(11,.P pb3)]/\Hp h none_ [boxI pb2 352 [.slice a l.length c,.J (r1.p:Int),.J (r1.e:Int)],boxI pb3 113 [.J 0,.J zc,.J 0,.N,.J 0],boxI pb1 113 [.J 0,.J 0,.J 0,.N,.J 0]] [rdI (nS h F) (nS h E) (a,l.length,c) l] hh/\dcA k l=(zc,r1)/\r1.p<=l.length/\(r1.e=0->0<=zc)) ?_ ?_
 ·
  refine .cond (fun C1=>?_) (fun C1=>?_)
  ·
   refine .s<|.z .mvP<|.c' 28 .func (rnext_any (p:=0) (e:=0) (l:=l) (ok.n1).loc1 (by first | omega | exact qL _) hN) ?_;rintro _ U5 ⟨z0,ra,hnra,rfl,q⟩;have ok:=(ok.n1).lift1 q;have hrra:=nxtR_rg (by first | omega | exact qL _) hnra;have hrzra:=hrra.1.1;have hryra:=hrra.1.2;have hrpra:=hrra.2;refine .z .asI<|.nil ?_;refine .s<|.z .mvP<|.z .mvI<|.k 31 .func (clpage_any (n:=z0))<|.c' 32 .func (rform_any (p:=ra.p) (e:=ra.e) (b:=(pgNo z0)) (ok).loc0) ?_;rintro _ U6 ⟨rb1,hfrb1,rfl,q⟩;have ok:=(ok).lift1 q;have hrprb1:=frmR_p hfrb1;dsimp only at hrprb1;refine .nil ?_;refine .r<|.z .mvI<|.z (.fa T.fd113_1)<|.ur' (.stI T.sz3 ok.n1) ?_;rintro U7 ⟨ok,cg⟩;refine .nil ?_;refine .end<|⟨z0,rb1,⟨rfl,rfl,rfl,rfl,rfl,rfl,trivial⟩,(ok.n2.n1.n2).k3,by unfold dcA;rw [if_pos C1,hnra,hfrb1],by omega,fun h=>by have:=(frmR_e hfrb1 h).2;have:=of_decide_eq_true this;omega⟩
  refine .skip<|.end<|⟨0,⟨0,0⟩,⟨rfl,rfl,rfl,rfl,rfl,rfl,trivial⟩,(ok.n2.n1.n2).k3,by unfold dcA;rw [if_neg (by rw [C1];decide)],qL _,fun _=>Int.le_refl _⟩
 rintro s U8 ⟨zc,r1,hs,ok,hA,hp1,hz1⟩;refine .frame hs fun τ=>?_;refine .seq<|.s<|.z .mvB<|.nil ?_;refine .join (fun s hh=>∃(kz:Int) (r2:RdS),Has s [(1,.slice a l.length c),(4,.P pb1),(8,.bool (hasPy k)),(10,.P pb2),(11,.P pb3)]/\Hp h none_ [boxI pb2 352 [.slice a l.length c,.J (r2.p:Int),.J (r2.e:Int)],boxI pb3 113 [.J kz,.J zc,.J 0,.N,.J 0],boxI pb1 113 [.J 0,.J 0,.J 0,.N,.J 0]] [rdI (nS h F) (nS h E) (a,l.length,c) l] hh/\dcB k l r1=(kz,r2)/\r2.p<=l.length/\(r2.e=0->0<=zc)) ?_ ?_
 ·
  refine .cond (fun C2=>?_) (fun C2=>?_)
  ·
   refine .r<|.z .mvP<|.c' 37 .func (rnext_any (p:=r1.p) (e:=r1.e) (l:=l) (ok).loc1 (by first | omega | exact qL _) hN) ?_;rintro _ U9 ⟨kk,rk,hnrk,rfl,q⟩;have ok:=(ok).lift1 q;have hrrk:=nxtR_rg (by first | omega | exact qL _) hnrk;have hrzrk:=hrrk.1.1;have hryrk:=hrrk.1.2;have hrprk:=hrrk.2;refine .z (.fa T.fd113_0)<|.ur' (.stI T.sz2 ok.n1) ?_;rintro U10 ⟨ok,cg⟩;refine .nil ?_;refine .end<|⟨kk,rk,⟨rfl,rfl,rfl,rfl,rfl,trivial⟩,(ok.n2.n1.n2).k3,by unfold dcB;rw [if_pos C2];exact hnrk,by omega,fun h=>hz1 (nxtR_z hnrk h)⟩
  refine .skip<|.end<|⟨0,r1,⟨rfl,rfl,rfl,rfl,rfl,trivial⟩,(ok).k3,by unfold dcB;rw [if_neg (by rw [C2];decide)],hp1,hz1⟩
 rintro s U11 ⟨kz,r2,hs,ok,hB,hp2,hz2⟩;refine .frame hs fun τ=>?_;refine .seq<|.s<|.z .mvB<|.nil ?_;refine .join (fun s hh=>∃(C:Cel) (r3:RdS) (sz:Int) (x:Option Addr) (cx:Nat),Has s [(1,.slice a l.length c),(4,.P pb1),(10,.P pb2),(11,.P pb3)]/\Hp h none_ [boxI pb2 352 [.slice a l.length c,.J (r3.p:Int),.J (r3.e:Int)],boxI pb3 113 [.J kz,.J zc,.J (C.total:Int),.slice x C.loc.length cx,.J sz],capI 1 5 (x,C.loc.length,cx) (C.loc.map bv),boxI pb1 113 [.J 0,.J 0,.J 0,.N,.J 0]] [rdI (nS h F) (nS h E) (a,l.length,c) l] hh/\dcD k l ⟨kz,zc.toNat,0,[],0⟩ r2=(⟨kz,zc.toNat,C.total,C.loc,C.spill⟩,r3)/\sz.toNat=C.spill/\(r3.e=0->0<=sz)/\(r3.e=0->0<=zc)) ?_ ?_
 ·
  refine .cond (fun C3=>?_) (fun C3=>?_)
  ·
   refine .r<|.z .mvP<|.c' 41 .func (rload_any (p:=r2.p) (e:=r2.e) (l:=l) (Hp.lc2 (ok)) hp2 hN) ?_;rintro _ U12 ⟨C,rl,hld,rfl,sz,x,cx,hsz,hsz0,q⟩;have ok:=Hp.lf2 (ok) q;refine .nil ?_;refine .end<|⟨C,rl,sz,x,cx,⟨rfl,rfl,rfl,rfl,trivial⟩,(ok.n3.n2.n2.n3).k4,by unfold dcD;rw [if_pos C3];exact ldR_c hld,hsz,hsz0,fun h=>hz2 (ld_z hld h)⟩
  refine .skip<|.end<|?_;have ok:=ok.nilC (k:=1) (e:=5);refine ⟨cel0,r2,0,none,0,⟨rfl,rfl,rfl,rfl,trivial⟩,(ok.n3.n1.n3.n3).k4,by unfold dcD;rw [if_neg (by rw [C3];decide)];rfl,rfl,fun _=>Int.le_refl _,hz2⟩
 rintro s U13 ⟨C,r3,sz,x,cx,hs,ok,hD,hsz,hsz0,hz3⟩;refine .frame hs fun τ=>?_;refine .s<|.z .mvP<|.z .mvP<|.z .nil<|.z (.fa T.fd352_1)<|.z (.ldx T.ag3 ok.m0)<|.z .mvS<|.z (.len T.el35)<|.z .eql<|.c' 50 .func (rform_any (p:=r3.p) (e:=r3.e) (b:=decide ((r3.p:Int)=(l.length:Int))) (ok).loc0) ?_;rintro _ U14 ⟨r4,hfr4,rfl,q⟩;have ok:=(ok).lift1 q;have hrpr4:=frmR_p hfr4;dsimp only at hrpr4;refine .nil ?_;refine .seq<|.s<|.z .mvP<|.z .nil<|.z (.fa T.fd352_2)<|.z (.ldx T.ag39 ok.m0)<|.z .neq<|.nil ?_;refine .cd (fun C4=>?_) (fun C4=>?_)
 ·
  refine .seq<|.a 7 (fun fl hh=>Hp h none_ [boxI pb2 352 [.slice a l.length c,.J (r4.p:Int),.J (r4.e:Int)],boxI pb3 113 [.J kz,.J zc,.J (C.total:Int),.slice x C.loc.length cx,.J sz],capI 1 5 (x,C.loc.length,cx) (C.loc.map bv)] [rdI (nS h F) (nS h E) (a,l.length,c) l] hh) mixed ?_;have hS:=ok.k3;refine .g 0 false rfl 56 hS (fun _=>.bd #[.J 0,.J 0,.J 0,.N,.J 0] T.zr113 T.pl113 rfl)<|.g 1 false rfl 57 hS (fun _=>.mvP)<|.g 2 false rfl 58 hS (fun _=>.nil)<|.g 3 false rfl 59 hS (fun _=>.fa T.fd352_2)<|.lw 4 false rfl 60 hS (fun _ _ hS=>.ldx T.ag39 hS.m0)<|.o1 5<|.ur' false rfl (.stW (vs:=[.J 0,.J 0,.J 0,.N,.J 0]) T.sz113 ok.n3 (oneL rfl)) ?_;rintro U15 ⟨ok,cg⟩;refine ⟨ok.n3.n3.n3.k3,?_⟩;have hS:=ok.n3.n3.n3.k3;refine .g 6 false rfl 5 hS (fun _=>.asI)<|.e ?_;have ok:=ok.nilC (k:=1) (e:=5);refine .ret ⟨.tuple #[.agg #[.J 0,.J 0,.J 0,.N,.J 0],.J (r4.e:Int)],Res.many (vs:=[.agg #[.J 0,.J 0,.J 0,.N,.J 0],.J (r4.e:Int)]) rfl ⟨⟨_,rfl,load_ag T.ag113 ok.m1 T.sz113⟩,rfl,trivial⟩ rfl,⟨none,0,by rw [decK_e (by simpa using C0) hA hB hD hfr4 C4];rfl,by rw [decK_e (by simpa using C0) hA hB hD hfr4 C4];exact (ok).k1.e0⟩⟩
 refine .skip<|.s<|.z (.ldb T.ag113 ok.m1 T.sz113)<|.ur' (.stW (vs:=[.J kz,.J zc,.J (C.total:Int),.slice x C.loc.length cx,.J sz]) T.sz113 ok.n3 (oneL rfl)) ?_;rintro U16 ⟨ok,cg⟩;refine .z .asI<|.nil ?_;have hz4:=frmR_e hfr4 (show r4.e=0 by omega);have hzz:=hz3 hz4.1;have hss:=hsz0 hz4.1;refine .ret ⟨.tuple #[.agg #[.J kz,.J zc,.J (C.total:Int),.slice x C.loc.length cx,.J sz],.J 0],Res.many (vs:=[.agg #[.J kz,.J zc,.J (C.total:Int),.slice x C.loc.length cx,.J sz],.J 0]) rfl ⟨⟨_,rfl,load_ag T.ag113 ok.m0 T.sz113⟩,rfl,trivial⟩ rfl,⟨x,cx,by rw [decK_0 (by simpa using C0) hA hB hD hfr4 C4];simp only [];rw [show ((zc.toNat:Nat):Int)=zc by omega,show ((C.spill:Nat):Int)=sz by omega];rfl,by rw [decK_0 (by simpa using C0) hA hB hD hfr4 C4];exact (ok.n3).k1.e0⟩⟩
open Go Go.HL
section
variable {h:Heap} {k c nb nn nc rt:Nat} {F E D:Nat->Prop} {l:List Cel} {na:Option Addr}
instance:Rep Cel where
 k:=5
 rd h F cs x:=∃s:SV,cs=[.J x.key,.J (x.child:Int),.J (x.total:Int),sv s,.J (x.spill:Int)]/\RdL h F F s x.loc/\-9223372036854775808<=x.key/\x.key<=9223372036854775807
 kpos:=by omega
 len:=fun ⟨_,h,_⟩=>by rw [h];rfl
 one:=fun ⟨_,h,_⟩ u hu=>by
  rw [h] at hu;simp only [qK,List.not_mem_nil,or_false] at hu;rcases hu with rfl | rfl | rfl | rfl | rfl<;>rfl
 st:=fun c d ⟨x,e,r,b⟩=>⟨x,e,r.st c d d,b⟩
 mono:=fun d ⟨x,e,r,b⟩=>⟨x,e,r.mono d d,b⟩
 lt:=fun ⟨x,e,r,b⟩=>⟨x,e,r.lt,b⟩
def celV (x:Cel) (a:Option Addr) (c:Nat):List Value:=[.J x.key,.J (x.child:Int),.J (x.total:Int),.slice a x.loc.length c,.J (x.spill:Int)]
theorem _root_.Go.HL.RdL.cel {b o n:Nat} (r:RdL h F E (some ⟨b,o,none⟩,n,c) l) {i:Nat} (hi:i<l.length):∃(a:Option Addr) (c':Nat),(∀j v,(celV l[i] a c')[j]? = some v->cell h b (o+i*5+j)=some v)/\RdL h E E (a,l[i].loc.length,c') l[i].loc/\-9223372036854775808<=l[i].key/\l[i].key<=9223372036854775807:=by
 obtain ⟨cs,⟨y,rfl,h1,h3⟩,h2⟩:=r.el hi;obtain ⟨a,c',rfl,_⟩:=h1.form;exact ⟨a,c',h2,h1,h3⟩
theorem ndsize_any {n:Nat} (hn:n<=1000000000) :
  Hc 156 #[.J (n:Int)] h (fun v h'=>v=.bool (okSz n)/\h'=h):=by
 refine HC.go Tryz.func156 16 ?_;refine .s<|.z .asB<|.nil<|.s<|.z .mvI<|.z .geq<|.z .mvB<|.sd (fun G5=>?_) (fun G5=>?_)
 ·
  refine .z .mvI<|.z .leq<|.z .pkt<|.z .mvB<|.sd (fun G9=>?_) (fun G9=>?_)
  ·
   have hq:=and_pow n (by omega) (by omega);refine .z .mvI<|.z .mvI<|.z .sub<|.z (.bandI n (n-1))<|.z .eql<|.z .pkt<|.z .asB<|.nil<|.ret ⟨.bool (decide ((((n &&& (n-1)):Nat):Int)=0)),Res.one rfl rfl,⟨congrArg _ (by simp only [okSz];first | (rw [Bool.eq_iff_iff];simp only [decide_eq_true_eq,Bool.or_eq_true,beq_iff_eq];omega) | (symm;rw [Bool.eq_false_iff];simp only [ne_eq,Bool.or_eq_true,beq_iff_eq];omega)),rfl⟩⟩
  refine .y<|.y<|.y<|.y<|.y<|.z .pkf<|.z .asB<|.nil<|.ret ⟨.bool false,Res.one rfl rfl,⟨congrArg _ (by simp only [okSz];first | (rw [Bool.eq_iff_iff];simp only [decide_eq_true_eq,Bool.or_eq_true,beq_iff_eq];omega) | (symm;rw [Bool.eq_false_iff];simp only [ne_eq,Bool.or_eq_true,beq_iff_eq];omega)),rfl⟩⟩
 refine .y<|.y<|.z .pkf<|.z .mvB<|.y<|.y<|.y<|.y<|.y<|.z .pkf<|.z .asB<|.nil<|.ret ⟨.bool false,Res.one rfl rfl,⟨congrArg _ (by simp only [okSz];first | (rw [Bool.eq_iff_iff];simp only [decide_eq_true_eq,Bool.or_eq_true,beq_iff_eq];omega) | (symm;rw [Bool.eq_false_iff];simp only [ne_eq,Bool.or_eq_true,beq_iff_eq];omega)),rfl⟩⟩
theorem ndinner_any :
  Hc 207 #[.J (k:Int)] h (fun v h'=>v=.bool (hasCh k)/\h'=h):=by
 refine HC.go Tryz.func207 9 ?_;refine .s<|.z .asB<|.nil<|.s<|.z .mvI<|.z .eql<|.z .mvB<|.sd (fun G5=>?_) (fun G5=>?_)
 ·
  refine .y<|.y<|.z .pkt<|.z .asB<|.nil<|.ret ⟨.bool true,Res.one rfl rfl,⟨congrArg _ (by first | (rw [Bool.eq_iff_iff];simp [hasCh];omega) | (rw [Bool.eq_iff_iff];simp [hasCh]) | (simp [hasCh];omega)),rfl⟩⟩
 refine .z .mvI<|.z .eql<|.z .pkf<|.z .asB<|.nil<|.ret ⟨.bool (decide ((k:Int)=4)),Res.one rfl rfl,⟨congrArg _ (by first | (rw [Bool.eq_iff_iff];simp [hasCh];omega) | (rw [Bool.eq_iff_iff];simp [hasCh]) | (simp [hasCh];omega)),rfl⟩⟩
theorem ndck_any {ch tt sp lcc:Nat} {ky:Int} {la:Option Addr} {lc:List UInt8} (ok:Hp h D [boxI nb 116 [.J (k:Int),.slice na nn nc,.J (rt:Int)]] [] h) (hky : -9223372036854775808<=ky/\ky<=9223372036854775807) :
  Hc 209 #[.agg #[.J ky,.J (ch:Int),.J (tt:Int),.slice la lc.length lcc,.J (sp:Int)],.P nb] h (fun v h'=>v=.bool (decide (¬okCl k (⟨ky,ch,tt,lc,sp⟩:Cel)))/\Hp h D [boxI nb 116 [.J (k:Int),.slice na nn nc,.J (rt:Int)]] [] h'):=by
 refine HC.go Tryz.func209 9 ?_;refine .s<|.a' 2 (.bxA (cs:=[.J ky,.J (ch:Int),.J (tt:Int),.slice la lc.length lcc,.J (sp:Int)]) ok) ?_;rintro _ U1 ⟨pb1,rfl,ok,xe⟩;refine .z .asB<|.nil<|.s<|.z (.fa T.fd116_0)<|.z (.ldx T.ag3 ok.m1)<|.z (.ldb T.ag113 ok.m0 T.sz113)<|.c' 7 .func (clchk_any (k:=k) (ky:=ky) (ch:=ch) (tt:=tt) (la:=la) (lcc:=lcc) (lc:=lc) (sp:=sp) hky) ?_;rintro _ U2 ⟨rfl,hx⟩;have ok:=ok.ext hx;refine .z .neq<|.z .asB<|.nil<|.ret ⟨.bool (decide (((if okCl k (⟨ky,ch,tt,lc,sp⟩:Cel) then 0 else 1:Nat):Int)≠0)),Res.one rfl rfl,⟨congrArg _ (decide_eq_decide.2 (by by_cases q:okCl k (⟨ky,ch,tt,lc,sp⟩:Cel)<;>simp [q])),(ok.n1).k1⟩⟩
theorem ndix_any {a:Option Addr} (ok:Hp h D [boxI nb 116 [.J (k:Int),.slice na nn nc,.J (rt:Int)]] [rdI F E (a,l.length,c) l] h) :
  Hc 256 #[.slice a l.length c,.func (.func 209) #[] #[.P nb]] h (fun v h'=>∃i:Int,v=.J i/\((0<=i/\∃x∈l,¬okCl k x)\/(i<0/\∀x∈l,okCl k x))/\Hp h D [boxI nb 116 [.J (k:Int),.slice na nn nc,.J (rt:Int)]] [] h'):=by
 have hlm:=ok.r0.m;have hlc:=ok.r0.c;simp only at hlm hlc;refine HC.go Tryz.func256 19 ?_;refine .s<|.z .asI<|.nil<|.seq<|.s<|.z .mvS<|.z (.len T.el114)<|.z .mvI<|.nil<|.block fun K0 hK0=>.loop (fun m s hh=>∃(i:Nat),Has s [(0,.slice a l.length c),(1,.func (.func 209) #[] #[.P nb]),(7,.J (l.length:Int)),(8,.J (i:Int))]/\Hp h D [boxI nb 116 [.J (k:Int),.slice na nn nc,.J (rt:Int)]] [rdI F E (a,l.length,c) l] hh/\i<=l.length/\(∀j (hj:j<l.length),j<i->okCl k l[j])/\m=l.length-i) ?_ ?_
 ·exact ⟨_,0,⟨rfl,rfl,rfl,rfl,trivial⟩,(ok).k1,qL _,fun _ _ h=>absurd h (by omega),rfl⟩
 rintro _ _ U1 ⟨i,hs,ok,hi,hz,rfl⟩ J0 hJ0;refine .frame hs fun τ=>?_;refine .s<|.z .lss<|.nil<|.seq<|.cdr (fun C0=>?_) (fun C0=>?_)
 ·
  have hil:i=l.length:=by omega
  refine .exit<|hK0 _ _<|.s<|.z .asI<|.nil<|.ret ⟨.J (-1),Res.one rfl rfl,⟨_,rfl,.inr ⟨by decide,fun x hx=>(by obtain ⟨j,hj,rfl⟩:=qO.1 hx;exact hz j hj (by omega))⟩,(ok).k1.e0⟩⟩
 have hil:i<l.length:=by omega
 refine .skip<|.seq<|.block fun K1 hK1=>.s<|.z .mvI<|.z .asI<|.nil<|.s<|.z .mvF<|.z .mvS<|.z .mvI<|?_;obtain ⟨bb1,oo1,rfl,fb1⟩:=ok.r0.pos (by omega);refine .z (.ix i T.el114 T.sz113)<|?_;obtain ⟨xa1,xc1,hv1,hw1,hk1⟩:=ok.r0.cel (i:=i) (by omega);have ok:=ok.d0 (rdI E E (xa1,l[i].loc.length,xc1) (l[i].loc)) hw1 (fun _ h=>.inr (h.elim id id));refine .z (.ldc (vs:=celV l[i] xa1 xc1) T.ag113 hv1 T.sz113)<|.c' 16 .dyn (ndck_any (k:=k) (ky:=l[i].key) (ch:=l[i].child) (tt:=l[i].total) (la:=xa1) (lcc:=xc1) (lc:=l[i].loc) (sp:=l[i].spill) (ok).loc0 hk1) ?_;rintro _ U2 ⟨rfl,q⟩;have ok:=(ok).lift1 q;refine .nil ?_;refine .cd (fun C1=>?_) (fun C1=>?_)
 ·
  refine .s<|.z .mvI<|.z .asI<|.nil<|.ret ⟨.J (i:Int),Res.one rfl rfl,⟨_,rfl,.inl ⟨by omega,_,qP hil,C1⟩,(ok).k1.e0⟩⟩
 refine .skip<|.end<|hK1 _ _<|.r<|.z (.addI (b:=1))<|.z .mvI<|.nil<|.end<|hJ0 _ _ _ ⟨i+1,⟨rfl,rfl,rfl,rfl,trivial⟩,(ok).k1.f1.e1,by omega,fun j hj h=>(by by_cases hji:j=i;(subst hji;exact Classical.not_not.1 C1);exact hz j hj (by omega)),rfl⟩ (by omega)
theorem ndcf_any {a:Option Addr} (ok:Hp h D [boxI nb 116 [.J (k:Int),.slice na nn nc,.J (rt:Int)]] [rdI F E (a,l.length,c) l] h) :
  Hc 208 #[.slice a l.length c,.func (.func 209) #[] #[.P nb]] h (fun v h'=>v=.bool (decide (¬ ∀x∈l,okCl k x))/\Hp h D [boxI nb 116 [.J (k:Int),.slice na nn nc,.J (rt:Int)]] [] h'):=by
 refine HC.go Tryz.func208 9 ?_;refine .s<|.z .asB<|.nil<|.s<|.z .mvS<|.z .mvF<|.c' 7 .func (ndix_any (ok).loc1) ?_;rintro _ U1 ⟨ix,rfl,hix,q⟩;have ok:=(ok).lift1 q;refine .z .geq<|.z .asB<|.nil<|.ret ⟨.bool (decide (0<=ix)),Res.one rfl rfl,⟨congrArg _ (decide_eq_decide.2 ⟨fun h1 h2=>hix.elim (fun ⟨_,x,hx,hn⟩=>hn (h2 x hx)) fun h3=>absurd h1 (by omega),fun h1=>hix.elim (·.1) fun h3=>absurd h3.2 h1⟩),(ok).k1.e0⟩⟩
end
open Go Go.HL
section
variable {k rt:Nat}
theorem okKd_iff : okKd k=true↔1<=k/\k<=4:=by simp [okKd,or_assoc];omega
theorem nd_rt (h:if hasCh k=true then pgNo (rt:Int)=true else rt=0):(hasCh k=decide ((rt:Int)≠0))/\rt<=1048576:=by
 cases hk:hasCh k<;>rw [hk] at h
 ·simp at h;subst h;simp
 ·rw [if_pos rfl] at h;have h1:1<=(rt:Int)/\(rt:Int)<=1048576:=of_decide_eq_true h;exact ⟨(decide_eq_true (by omega)).symm,by omega⟩
theorem nd_rt2 (h:hasCh k=decide ((rt:Int)≠0)) (h2:rt<=1048576):if hasCh k=true then pgNo (rt:Int)=true else rt=0:=by
 cases hk:hasCh k<;>rw [hk] at h
 ·rw [if_neg (by decide)];have:=of_decide_eq_false h.symm;omega
 ·rw [if_pos rfl];have:=of_decide_eq_true h.symm;exact decide_eq_true ⟨by omega,by omega⟩
theorem ifl {p:Prop} [Decidable p] {x:List UInt8} {m:Nat} (h:x.length<=m):(if p then x else []).length<=m:=by split;exact h;simp
theorem ifl2 {p:Prop} [Decidable p] {x:List UInt8} {m:Nat} (h:x.length<=m):(if p then [] else x).length<=m:=by split;simp;exact h
theorem encCl_few {c:Cel} (h:okCl k c):(encCl k c).length<=16450:=by
 obtain ⟨_,_,_,h1,h2⟩:=okCl_rg (ky:=c.key) (ch:=c.child) (tt:=c.total) (lc:=c.loc) (sp:=c.spill) h;unfold encCl;rw [qA,qA];have a:=ifl (p:=hasCh k=true) (vint_len (n:=(c.child:Int)));have b:=ifl (p:=hasKy k=true) (vint_len (n:=c.key));have d:(payB c).length<=30+16384:=by
  unfold payB;rw [qA,qA,qA];have e:=vint_len (n:=(c.total:Int));have f:=vint_len (n:=(c.loc.length:Int));have g:=ifl2 (p:=c.spill=0) (vint_len (n:=(c.spill:Int)));omega
 have e:=ifl (p:=hasPy k=true) d;omega
theorem tksC_s {l:List Cel} {i:Nat} (h:i<l.length):tksC k (l.take (i+1))=tksC k (l.take i)+((encCl k l[i]).length+4):=by rw [qG h,tksC_app];rfl
theorem ndright_any {h:Heap} {F E:Nat->Prop} {c:Nat} {a:Option Addr} {l:List Cel} (hl:RdL h F E (a,l.length,c) l) :
  Hc 162 #[.agg #[.J (k:Int),.slice a l.length c,.J (rt:Int)]] h (fun v h'=>v=.bool (decide (OkNd (⟨k,l,rt⟩:Nod)))/\Ext h h'):=by
 have ok:=(Hp.nil h none_).arg hl;have hlm:=hl.m;have hlc:=hl.c;simp only at hlm hlc;refine HC.go Tryz.func162 33 ?_;refine .s<|.a' 1 (.bxA (cs:=[.J (k:Int),.slice a l.length c,.J (rt:Int)]) ok) ?_;rintro _ U1 ⟨pb1,rfl,ok,xe⟩;refine .z .asB<|.nil<|.seq<|.s<|.z (.fa T.fd116_0)<|.z (.ldx T.ag3 ok.m0)<|.z .lss<|.z .mvB<|.sd (fun G6=>?_) (fun G6=>?_)
 ·
  refine .y<|.y<|.y<|.z .pkt<|.nil<|.ct<|.s<|.z .asB<|.nil<|.ret ⟨.bool false,Res.one rfl rfl,⟨congrArg _ (decide_eq_false (fun o=>by have h1:okKd k=true:=o.k;rw [okKd_iff] at h1;omega)).symm,ok.chg⟩⟩
 refine .z (.fa T.fd116_0)<|.z (.ldx T.ag3 ok.m0)<|.z .gtr<|.z .pkf<|.nil<|.cd (fun C0=>?_) (fun C0=>?_)
 ·
  refine .s<|.z .asB<|.nil<|.ret ⟨.bool false,Res.one rfl rfl,⟨congrArg _ (decide_eq_false (fun o=>by have h1:okKd k=true:=o.k;rw [okKd_iff] at h1;omega)).symm,ok.chg⟩⟩
 refine .skip<|.seq<|.seq<|.q (hm:=mixed)<|.z (.fa T.fd116_0)<|.z (.ldx T.ag3 ok.m0)<|.k 13 .func (ndinner_any (k:=k))<|.z (.fa T.fd116_2)<|.z (.ldx T.ag3 ok.m0)<|.z .neq<|.z (.bNe T.bo4)<|.z .mvB<|.spl (fun G18=>?_) (fun G18=>?_)
 ·
  refine .y<|.y<|.y<|.z .pkt<|.z .mvB<|.y<|.y<|.y<|.z .pkt<|.nil<|.ct<|.s<|.z .asB<|.nil<|.ret ⟨.bool false,Res.one rfl rfl,⟨congrArg _ (decide_eq_false (fun o=>by have h1:=nd_rt (k:=k) (rt:=rt) o.r;first | omega | (rw [h1.1] at G18;simp at G18))).symm,ok.chg⟩⟩
 refine .z (.fa T.fd116_2)<|.z (.ldx T.ag3 ok.m0)<|.z .lss<|.z .pkf<|.z .mvB<|.sd (fun G23=>?_) (fun G23=>?_)
 ·
  omega
 refine .z (.fa T.fd116_2)<|.z (.ldx T.ag3 ok.m0)<|.z .gtr<|.z .pkf<|.nil<|.cd (fun C1=>?_) (fun C1=>?_)
 ·
  refine .s<|.z .asB<|.nil<|.ret ⟨.bool false,Res.one rfl rfl,⟨congrArg _ (decide_eq_false (fun o=>by have h1:=nd_rt (k:=k) (rt:=rt) o.r;first | omega | (rw [h1.1] at G18;simp at G18))).symm,ok.chg⟩⟩
 refine .skip<|.s<|.z (.fa T.fd116_1)<|.z (.ldx T.ag114 ok.m0)<|.z (.mkf (vs:=[.P pb1]))<|.c' 31 .func (ndcf_any (ok).loc1) ?_;rintro _ U2 ⟨rfl,q⟩;have ok:=(ok).lift1 q;refine .z .notd<|.z .asB<|.nil<|.ret ⟨.bool (decide (¬(¬ ∀x∈l,okCl k x))),Res.one rfl rfl,⟨congrArg _ (by rw [Bool.eq_iff_iff];simp only [Bool.not_eq_true',decide_eq_false_iff_not,Classical.not_not,decide_eq_true_eq];exact ⟨fun h1=>⟨okKd_iff.2 (show 1<=k/\k<=4 by omega),nd_rt2 (bne_eq_false_iff_eq.1 G18) (show rt<=1048576 by omega),h1⟩,fun o=>o.c⟩),ok.chg⟩⟩
theorem ndtakes_any {h:Heap} {F E:Nat->Prop} {ch tt sp lcc:Nat} {ky:Int} {la:Option Addr} {lc:List UInt8} (ho:okCl k (⟨ky,ch,tt,lc,sp⟩:Cel)) (hl:RdL h F E (la,lc.length,lcc) lc) (hN:lc.length<=16384) :
  Hc 257 #[.J (k:Int),.agg #[.J ky,.J (ch:Int),.J (tt:Int),.slice la lc.length lcc,.J (sp:Int)]] h (fun v h'=>v=.J (((encCl k (⟨ky,ch,tt,lc,sp⟩:Cel)).length+4:Nat):Int)/\Ext h h'):=by
 have ok:=(Hp.nil h none_).arg hl;have hel:(encCl k (⟨ky,ch,tt,lc,sp⟩:Cel)).length<=16450:=encCl_few ho;refine HC.go Tryz.func257 9 ?_;refine .s<|.a' 3 (.bxA (cs:=[.J ky,.J (ch:Int),.J (tt:Int),.slice la lc.length lcc,.J (sp:Int)]) ok) ?_;rintro _ U1 ⟨pb1,rfl,ok,xe⟩;refine .z .asI<|.nil<|.s<|.z .mvI<|.z (.ldb T.ag113 ok.m0 T.sz113)<|.c' 7 .func (clsize_any (k:=k) (ky:=ky) (ch:=ch) (tt:=tt) (la:=la) (lcc:=lcc) (lc:=lc) (sp:=sp) ho ok.r0) ?_;rintro _ U2 ⟨rfl,hx⟩;have ok:=ok.ext hx;refine .z (.addI (b:=4))<|.z .asI<|.nil<|.ret ⟨.J (((encCl k (⟨ky,ch,tt,lc,sp⟩:Cel)).length+4:Nat):Int),Res.one rfl rfl,⟨rfl,ok.chg⟩⟩
end
open Go Go.HL
theorem tksC_few {k:Nat} : ∀ {l:List Cel},(∀x∈l,okCl k x)->tksC k l<=l.length*16454
 | [],_=>qR _
 | x::l,h=>by
  have h1:=encCl_few (h x qX);have h2:=tksC_few (k:=k) (l:=l) fun y hy=>h y (qQ _ hy);show (encCl k x).length+4+tksC k l<=(l.length+1)*16454;omega
theorem ndtotal_any {h:Heap} {F E:Nat->Prop} {k rt c:Nat} {a:Option Addr} {l:List Cel} (hl:RdL h F E (a,l.length,c) l) (ho:∀x∈l,okCl k x) (hN:l.length<=100000) :
  Hc 211 #[.agg #[.J (k:Int),.slice a l.length c,.J (rt:Int)]] h (fun v h'=>v=.J ((tksC k l:Nat):Int)/\Ext h h'):=by
 have ok:=(Hp.nil h none_).arg hl;have hlm:=hl.m;have hlc:=hl.c;simp only at hlm hlc;refine HC.go Tryz.func211 21 ?_;refine .s<|.a' 1 (.bxA (cs:=[.J (k:Int),.slice a l.length c,.J (rt:Int)]) ok) ?_;rintro _ U1 ⟨pb1,rfl,ok,xe⟩;refine .z .asI<|.nil<|.s<|.z .asI<|.nil<|.seq<|.s<|.z (.fa T.fd116_1)<|.z (.ldx T.ag114 ok.m0)<|.z (.len T.el114)<|.z .mvI<|.nil<|.block fun K0 hK0=>.loop (fun m s hh=>∃(i:Nat),Has s [(1,.P pb1),(3,.J ((tksC k (l.take i):Nat):Int)),(7,.slice a l.length c),(8,.J (l.length:Int)),(9,.J (i:Int))]/\Hp h none_ [boxI pb1 116 [.J (k:Int),.slice a l.length c,.J (rt:Int)]] [rdI (nS h F) (nS h E) (a,l.length,c) l] hh/\i<=l.length/\m=l.length-i) ?_ ?_
 ·exact ⟨_,0,⟨rfl,rfl,rfl,rfl,rfl,trivial⟩,(ok).k1,qL _,rfl⟩
 rintro _ _ U2 ⟨i,hs,ok,hi,rfl⟩ J0 hJ0;refine .frame hs fun τ=>?_;refine .s<|.z .lss<|.nil<|.seq<|.cdr (fun C0=>?_) (fun C0=>?_)
 ·
  refine .exit<|hK0 _ _<|.s<|.z .mvI<|.z .asI<|.nil<|.ret ⟨.J ((tksC k (l.take i):Nat):Int),Res.one rfl rfl,⟨by rw [show l.take i=l from qY (by omega)],ok.chg⟩⟩
 have hil:i<l.length:=by omega
 have hoi:=ho _ (qP hil);have hel:(encCl k (⟨l[i].key,l[i].child,l[i].total,l[i].loc,l[i].spill⟩:Cel)).length<=16450:=encCl_few hoi;have hlo:l[i].loc.length<=16384:=by have:=okCl_rg (ky:=l[i].key) (ch:=l[i].child) (tt:=l[i].total) (lc:=l[i].loc) (sp:=l[i].spill) hoi;omega
 have htk:=tksC_few (k:=k) (l:=l.take i) fun x hx=>ho x (qC hx);rw [qJ] at htk;have htm:min i l.length*16454<=100000*16454:=qE _ (by omega);refine .skip<|.seq<|.block fun K1 hK1=>.s<|?_;obtain ⟨bb1,oo1,rfl,fb1⟩:=ok.r0.pos (by omega);refine .z (.ix i T.el114 T.sz113)<|?_;obtain ⟨xa1,xc1,hv1,hw1,hk1⟩:=ok.r0.cel (i:=i) (by omega);have ok:=ok.d0 (rdI (nS h E) (nS h E) (xa1,l[i].loc.length,xc1) (l[i].loc)) hw1 (fun _ h=>.inr (h.elim id id));refine .z (.ldc (vs:=celV l[i] xa1 xc1) T.ag113 hv1 T.sz113)<|.a' 5 (.alA T.zr113 ok) ?_;rintro _ U3 ⟨pb2,rfl,ok,xe⟩;refine .ur' (.stW (vs:=[.J (l[i].key),.J (l[i].child:Int),.J (l[i].total:Int),.slice xa1 (l[i].loc.length) xc1,.J (l[i].spill:Int)]) T.sz113 ok (oneL rfl)) ?_;rintro U4 ⟨ok,cg⟩;refine .nil ?_;refine .r<|.z .mvI<|.z (.fa T.fd116_0)<|.z (.ldx T.ag3 ok.m1)<|.z (.ldb T.ag113 ok.m0 T.sz113)<|.c' 17 .func (ndtakes_any (k:=k) (ky:=l[i].key) (ch:=l[i].child) (tt:=l[i].total) (la:=xa1) (lcc:=xc1) (lc:=l[i].loc) (sp:=l[i].spill) (ho _ (qP hil)) ok.r0 (by omega)) ?_;rintro _ U5 ⟨rfl,hx⟩;have ok:=ok.ext hx;refine .z .addI<|?_;rw [show ((tksC k (l.take i))+((encCl k (⟨l[i].key,l[i].child,l[i].total,l[i].loc,l[i].spill⟩:Cel)).length+4))=(tksC k (l.take (i+1))) from (tksC_s hil).symm];refine .z .asI<|.nil<|.end<|hK1 _ _<|.r<|.z (.addI (b:=1))<|.z .mvI<|.nil<|.end<|hJ0 _ _ _ ⟨i+1,⟨rfl,rfl,rfl,rfl,rfl,trivial⟩,(ok.n1).k1.f1.e1,by omega,rfl⟩ (by omega)
theorem ndfits_any {h:Heap} {F E:Nat->Prop} {z k rt c:Nat} {a:Option Addr} {l:List Cel} (hl:RdL h F E (a,l.length,c) l) (ho:∀x∈l,okCl k x) (hN:l.length<=100000) (hz:z<=1000000000) :
  Hc 163 #[.agg #[.J (k:Int),.slice a l.length c,.J (rt:Int)],.J (z:Int)] h (fun v h'=>v=.bool (decide (FitNd (⟨k,l,rt⟩:Nod) z))/\Ext h h'):=by
 have ok:=(Hp.nil h none_).arg hl;have hlm:=hl.m;have hlc:=hl.c;simp only at hlm hlc;refine HC.go Tryz.func163 10 ?_;refine .s<|.a' 2 (.bxA (cs:=[.J (k:Int),.slice a l.length c,.J (rt:Int)]) ok) ?_;rintro _ U1 ⟨pb1,rfl,ok,xe⟩;refine .z .asB<|.nil<|.s<|.z (.ldb T.ag116 ok.m0 T.sz116)<|.c' 6 .func (ndtotal_any (k:=k) (rt:=rt) (a:=a) (c:=c) (l:=l) ok.r0 ho hN) ?_;rintro _ U2 ⟨rfl,hx⟩;have ok:=ok.ext hx;refine .z .mvI<|.z .sub<|.z .leq<|.z .asB<|.nil<|.ret ⟨.bool (decide (((tksC k l:Nat):Int)<=((z:Int)-10))),Res.one rfl rfl,⟨congrArg _ (decide_eq_decide.2 (by show _↔tksC k l+10<=z;omega)),ok.chg⟩⟩
end Go.Proofs.YtfegfklipbnhjaaGreat
namespace Go.HL
open Go
abbrev PD:=List Deferred->Exit->Slots->Heap->Prop
def LiftD (E:Env) (n:Nat) (Q:PD) (e:Exit) (a:Act) (w:World):Prop:=∃ds s h,Rel ds n s a/\At E h w/\Q ds e s h
def WD (P:Program) (n:Nat) (c:Code) (Q:PD) (s:Slots) (h:Heap):Prop:=∀E a w,E.ds=[]->Rel [] n s a->At E h w->c.wp P (LiftD E n Q) a w
def nxtD (P:Program) (n:Nat) (k:List Code) (Q:PD) (H:Slots->Heap->Prop):PD
 | [],.normal,s,h=>H s h
 | d::ds,.normal,s,h=>HS none P n k (Q (d::ds)) s h
 | ds,e,s,h=>Q ds e s h
def HSD (P:Program) (n:Nat):List Code->PD->Slots->Heap->Prop
 | [],Q,s,h=>Q [] .normal s h
 | c::k,Q,s,h=>WD P n c (nxtD P n k Q (HSD P n k Q)) s h
section
variable {P:Program} {n:Nat} {Q:PD} {s:Slots} {h:Heap} {k:List Code} {E:Env}
theorem At.ds {w:World} (at':At E h w) (ds:List Deferred):At { E with ds:=ds } h w:=⟨at'.heap,at'.os,at'.tape,at'.output⟩
theorem At.of_ds {w:World} {ds:List Deferred} (at':At { E with ds:=ds } h w):At E h w:=⟨at'.heap,at'.os,at'.tape,at'.output⟩
theorem HSD.seq {a b:Code} (hk:HSD P n (a::b::k) Q s h):HSD P n (.seq a b::k) Q s h:=by
 intro E a0 w hE r at';refine wp_seq (wp_mono (hk E a0 w hE r at') ?_);rintro e a' w' ⟨ds,s',h',r',at2,q⟩;cases e with
 | normal=>
  cases ds with
  | nil=>exact q E a' w' hE r' at2
  | cons d ds=>
   refine wp_mono (wpIn_wide.1 (q { E with ds:=d::ds } a' w' r' (at2.ds _))) ?_;rintro e a'' w'' ⟨s2,h2,r2,at3,q2⟩;refine ⟨d::ds,s2,h2,r2,at3.of_ds,?_⟩;cases e<;>exact q2
 | exit id=>exact ⟨ds,s',h',r',at2,by cases ds<;>exact q⟩
 | goto l=>exact ⟨ds,s',h',r',at2,by cases ds<;>exact q⟩
 | ret=>exact ⟨ds,s',h',r',at2,by cases ds<;>exact q⟩
 | panic c=>exact ⟨ds,s',h',r',at2,by cases ds<;>exact q⟩
 | outgrown=>exact ⟨ds,s',h',r',at2,by cases ds<;>exact q⟩
theorem HSD.lift {c:Code} (hx:HS none P n [c] (thn (HSD P n k Q) (Q [])) s h):HSD P n (c::k) Q s h:=by
 intro E a w hE r at';refine wp_mono (wpIn_wide.1 (hx E a w (hE▸r) at')) ?_;rintro e a' w' ⟨s',h',r',at2,q⟩;refine ⟨[],s',h',hE▸r',at2,?_⟩;cases e<;>exact q
theorem HSD.on {Q':Exit->Slots->Heap->Prop} (hk:HSD P n k Q s h):thn (HSD P n k Q) Q' .normal s h:=hk
end
open Go
structure LpC where
 n:Nat
 s:Slots
 ps:Array Tmp
 assign:Code
 body:Code
 D:Nat
def Lp (c:LpC) (l:Nat) (st:LoopState) (pe:Option Code) (h:Heap):Prop:=∃fn tmps,tmps.size=c.n/\(∀i,tmps.getD i undef=c.s i)/\h[l]? = some (.loop { state:=st,pending:=pe,fn,tmps,params:=c.ps,assign:=c.assign,body:=c.body,defers:=c.D })
def Df (D:Nat) (h:Heap):Prop:=h[D]? = some (.deferred (some []))
def col (D:Nat):Deferred:={ target:=.collected D,args:=#[] }
@[reducible] def lpI (c:LpC) (l:Nat) (st:LoopState) (pe:Option Code):Itm:=⟨Lp c l st pe,fun j=>j=l,fun _ _ G cg d ⟨fn,tm,h1,h2,h3⟩=>⟨fn,tm,h1,h2,by rw [cg.same l (Array.getElem?_eq_some_iff.1 h3).1 (d l rfl)];exact h3⟩⟩
@[reducible] def dfI (D:Nat):Itm:=⟨Df D,fun j=>j=D,fun _ _ G cg d h3=>(cg.same D (Array.getElem?_eq_some_iff.1 h3).1 (d D rfl)).trans h3⟩
def HY (P:Program) (l:Nat) (args:Array Value) (h:Heap) (R:Value->Heap->Prop):Prop:=∀E w,At E h w->YieldAt Fence.wide 0 P l args w fun e w'=>∃v h',e=.returned v/\At E h' w'/\R v h'
def updL:List (Tmp × Value)->Slots->Slots
 | [],s=>s
 | p::l,s=>updL l (upd s p.1 p.2)
theorem updL_rel {n:Nat} : ∀(l:List (Tmp × Value)) (s:Slots) (tm:Array Value),tm.size=n->(∀i,tm.getD i undef=s i)->(∀p∈l,Nat.blt p.1 n=true)->(l.foldl (fun t (p:Tmp × Value)=>t.setIfInBounds p.1 p.2) tm).size=n/\∀i,(l.foldl (fun t (p:Tmp × Value)=>t.setIfInBounds p.1 p.2) tm).getD i undef=updL l s i
 | [],_,_,h1,h2,_=>⟨h1,h2⟩
 | p::l,s,tm,h1,h2,h3=>by
  have r:=(⟨h1,h2,rfl⟩:Rel [] n s { tmps:=tm,defers:=[] }).put p.2 (h3 p (by simp));exact updL_rel l (upd s p.1 p.2) _ r.size r.get fun q hq=>h3 q (by simp [hq])
def rnd (c:LpC) (l:Nat) (R:Value->Heap->Prop):Exit->Slots->Heap->Prop
 | .normal,_,h=>Lp c l .busy none h/\∀h',Chg (fun j=>j=l) h h'->h'.size=h.size->Lp c l .ready none h'->R (.bool true) h'
 | .ret,_,h=>Lp c l .busy none h/\∀h',Chg (fun j=>j=l) h h'->h'.size=h.size->Lp c l .done (some .ret) h'->R (.bool false) h'
 | .exit id,_,h=>Lp c l .busy none h/\∀h',Chg (fun j=>j=l) h h'->h'.size=h.size->Lp c l .done (some (.exit id)) h'->R (.bool false) h'
 | _,_,_=>False
theorem putObj_chg {w:World} {l:Nat} {o:Obj} : Chg (fun j=>j=l) w.heap (w.putObj l o).heap/\(w.putObj l o).heap.size=w.heap.size:=
 ⟨⟨by simp,fun k _ hk=>World.putObj_heap_other hk⟩,by simp⟩
theorem HY.go {P:Program} {c:LpC} {l:Nat} {args:List Value} {h:Heap} {R:Value->Heap->Prop} (hl:Lp c l .ready none h) (hsz:args.length=c.ps.size:=by exact rfl) (hps:(c.ps.toList.all fun p=>Nat.blt p c.n)=true:=by exact rfl)
  (hc:HS (some l) P c.n [c.assign] (thn (fun s1 h1=>Lp c l .ready none h1/\∀h2,Chg (fun j=>j=l) h1 h2->h2.size=h1.size->Lp c l .busy none h2->HS (some l) P c.n [c.body] (rnd c l R) s1 h2) (fun _ _ _=>False)) (updL (c.ps.toList.zip args) c.s) h):HY P l args.toArray h R:=by
 intro E w at';obtain ⟨fn,tm,h1,h2,h3⟩:=hl;rw [<-at'.heap] at h3;refine ⟨fn,_,c.assign,c.body,run_yield h3 (by simpa using hsz),roundIn_of_wpIn trivial ?_⟩;have hr:=updL_rel (c.ps.toList.zip args) c.s tm h1 h2 (fun p hp=>List.all_eq_true.1 hps p.1 (List.of_mem_zip hp).1);have e:(c.ps.zip args.toArray).foldl (fun tmps (t,a)=>tmps.setIfInBounds t a) tm=(c.ps.toList.zip args).foldl (fun t (p:Tmp × Value)=>t.setIfInBounds p.1 p.2) tm:=by
  rw [<-Array.foldl_toList,Array.toList_zip]
 show c.assign.wpIn (fc (some l)) 0 P _ { tmps:=_,defers:=[] } w;rw [show ((c.ps.zip args.toArray).foldl (fun tmps (x:Tmp × Value)=>tmps.setIfInBounds x.1 x.2) tm)=_ from e];refine wpIn_mono (hc { E with ds:=[] } { tmps:=_,defers:=[] } w ⟨hr.1,hr.2,rfl⟩ ⟨at'.heap,at'.os,at'.tape,at'.output⟩) ?_;rintro ex a1 w1 ⟨s1,g1,r1,at1,q⟩;cases ex with
 | normal=>
  obtain ⟨⟨fn1,tm1,k1,k2,k3⟩,q⟩:=q;rw [<-at1.heap] at k3;refine ⟨_,run_beginRound k3 rfl,?_⟩;have hb:(w1.putObj l (.loop { state:=.busy,pending:=none,fn:=fn1,tmps:=tm1,params:=c.ps,assign:=c.assign,body:=c.body,defers:=c.D })).heap[l]? = _:=World.putObj_heap_same (Array.getElem?_eq_some_iff.1 k3).1;have hcg:=putObj_chg (w:=w1) (l:=l) (o:=.loop { state:=.busy,pending:=none,fn:=fn1,tmps:=tm1,params:=c.ps,assign:=c.assign,body:=c.body,defers:=c.D });have q2:=q _ (by rw [<-at1.heap];exact hcg.1) (by rw [<-at1.heap];exact hcg.2) ⟨fn1,tm1,k1,k2,hb⟩;refine wpIn_mono (q2 { E with ds:=[] } a1 _ r1 ⟨rfl,at1.os,at1.tape,at1.output⟩) ?_;have fin:∀(jump:Option Code) (w3:World) (g3:Heap),At { E with ds:=[] } g3 w3->Lp c l .busy none g3->∃w4,(Instr.endRound l jump).run P w3=.ok (.bool jump.isNone) w4/\At E w4.heap w4/\Chg (fun j=>j=l) g3 w4.heap/\w4.heap.size=g3.size/\Lp c l (if jump.isNone then .ready else .done) jump w4.heap:=by
   rintro jump w3 g3 at3 ⟨fn3,tm3,m1,m2,m3⟩;rw [<-at3.heap] at m3⊢;exact ⟨_,run_endRound jump m3,⟨rfl,at3.os,at3.tape,at3.output⟩,putObj_chg.1,putObj_chg.2,fn3,tm3,m1,m2,World.putObj_heap_same (Array.getElem?_eq_some_iff.1 m3).1⟩
  rintro ex a3 w3 ⟨s3,g3,r3,at3,q3⟩;cases ex with
  | normal=>obtain ⟨w4,e1,e2,e3,e4,e5⟩:=fin none w3 g3 at3 q3.1;exact ⟨_,w4,e1,_,_,rfl,e2,q3.2 _ e3 e4 e5⟩
  | ret=>obtain ⟨w4,e1,e2,e3,e4,e5⟩:=fin (some .ret) w3 g3 at3 q3.1;exact ⟨_,w4,e1,_,_,rfl,e2,q3.2 _ e3 e4 e5⟩
  | exit id=>obtain ⟨w4,e1,e2,e3,e4,e5⟩:=fin (some (.exit id)) w3 g3 at3 q3.1;exact ⟨_,w4,e1,_,_,rfl,e2,q3.2 _ e3 e4 e5⟩
  | goto t=>exact q3.elim
  | panic ch=>exact q3.elim
  | outgrown=>exact q3.elim
 | exit id=>exact q.elim
 | goto t=>exact q.elim
 | ret=>exact q.elim
 | panic ch=>exact q.elim
 | outgrown=>exact q.elim
def HOY (P:Program) (n:Nat) (ops:Array Oper) (l:List Oper) (K:Slots->Heap->Prop) (s:Slots) (h:Heap):Prop:=∀E a w,Rel E.ds n s a->At E h w->wpListIn (fc none) 0 P ops (Lift E n (nrm K)) l a w
section
variable {P:Program} {n:Nat} {ops:Array Oper} {l:List Oper} {o:Oper} {K:Slots->Heap->Prop} {s:Slots} {h:Heap}
theorem HOY.nil (hk:K s h):HOY P n ops [] K s h:=fun _ _ _ r at'=>⟨s,h,r,at',hk⟩
theorem HOY.w (d:Nat) {v:Value} (hv:OpV P o s h v) (hk:HOY P n ops l K (upd s d v) h) (hw:wants ops o s=true:=by exact rfl) (hd:o.dst=some d:=by exact rfl) (hn:Nat.blt d n=true:=by exact rfl):HOY P n ops (o::l) K s h:=by
 intro E a w r at';unfold wpListIn;rw [r.wanted,hw,if_pos rfl];refine ⟨fun _ _=>trivial,?_⟩;rw [show (fc none).round=none from rfl,Oper.semAt_none,r.eval',hv w at'.heap];simp only [Oper.uponIn,hd];exact hk E _ w (r.put v hn) at'
theorem run_callY {P:Program} {w:World} {s:Slots} {d:Option Tmp} {ty:TypeId} {pos:String} {af:Array Edge} {g:Option (Nat × Bool)} {x:Operand} {xs:Array Operand} {ts:Array TypeId} {q:Nat} (hx:ev s x=.func (.yield q) #[] #[]):(execOp (ev s) ⟨d,.call ⟨.value x,xs,ts⟩,ty,pos,af,g⟩).run P w=(Instr.yield q (xs.map (ev s))).run P w:=by
 simp [execOp,resolve,hx,Deferred.ofValue,invoke]
theorem HOY.y (d:Nat) {ty:TypeId} {pos:String} {af:Array Edge} {g:Option (Nat × Bool)} {x:Operand} {xs:Array Operand} {ts:Array TypeId} {q:Nat} {args:List Value} {R:Value->Heap->Prop} (hy:HY P q args.toArray h R) (hk:∀v h',R v h'->HOY P n ops l K (upd s d v) h') (hx:ev s x=.func (.yield q) #[] #[]:=by exact rfl) (ha:xs.toList.map (ev s)=args:=by exact rfl) (hw:wants ops ⟨some d,.call ⟨.value x,xs,ts⟩,ty,pos,af,g⟩ s=true:=by exact rfl) (hn:Nat.blt d n=true:=by exact rfl):HOY P n ops (⟨some d,.call ⟨.value x,xs,ts⟩,ty,pos,af,g⟩::l) K s h:=by
 intro E a w r at';unfold wpListIn;rw [r.wanted,hw,if_pos rfl];refine ⟨fun _ _=>trivial,?_⟩;have ha':xs.map (ev s)=args.toArray:=by rw [<-ha];apply Array.ext';simp
 obtain ⟨fn,tm,x1,y1,h1,h2⟩:=hy E w at';rw [show (fc none).round=none from rfl,Oper.semAt_none,r.eval',run_callY hx,ha',h1];simp only [Oper.uponIn];refine ⟨fun e=>(by cases e),h2.mono ?_⟩;rintro e w' ⟨v,h',rfl,at2,hR⟩;exact hk v h' hR E _ w' (r.put v hn) at2
theorem HS.ry {id:Nat} {l:List Oper} {Q:Exit->Slots->Heap->Prop} {k:List Code} (hk:HOY P n l.toArray l (fun s h=>HS none P n k Q s h) s h):HS none P n (.region id l.toArray false::k) Q s h:=by
 intro E a w r at';exact wpIn_mono (wpIn_region_lit (hk E a w r at')) fun _ _ _ q=>nrm_lift (Q:=thn (HS none P n k Q) Q) q
end
def rgEnd (c:LpC) (l:Nat) (K:Option Code->Heap->Prop) (h:Heap):Prop:=∃st pe,st≠.busy/\Lp c l st pe h/\∀h',Chg (fun j=>j=l) h h'->h'.size=h.size->K pe h'
section
variable {P:Program} {n:Nat} {s:Slots} {h:Heap} {k:List Code} {Q:PD}
def rgK (id:Nat) (D:Nat) (K:Slots->Heap->Prop) (Q:PD) (s:Slots):Option Code->Heap->Prop
 | none,h=>K s h
 | some .ret,h=>Q [col D] .ret s h
 | some (.exit i),h=>bif Nat.beq i id then K s h else Q [col D] (.exit i) s h
 | _,_=>False
theorem HSD.rg {id:Nat} {g:Operand} {ps:Array Tmp} {assign body:Code} {gf:FuncId} {lb:List Value} (hg:ev s g=.func (.func gf) #[] lb.toArray:=by exact rfl)
  (hk:∀h1,Ext h h1->h1.size=h.size+2->Lp ⟨n,s,ps,assign,body,h.size⟩ (h.size+1) .ready none h1->Df h.size h1->
   HC P gf (Value.func (.yield (h.size+1)) #[] #[]::lb).toArray h1 fun _ h2=>rgEnd ⟨n,s,ps,assign,body,h.size⟩ (h.size+1) (rgK id h.size (HS none P n k (Q [col h.size])) Q s) h2) :
  HSD P n (.block id (.rangeFunc g ps assign body)::k) Q s h:=by
 intro E a w hE r at';have hh:=at'.heap;refine wp_block ((wpIn_wide (n:=0)).1 (wpIn_rangeFunc fun fn _=>?_));obtain ⟨W1,hW1⟩:∃W1,(w.alloc (.deferred (some []))).alloc (.loop { state:=.ready,pending:=none,fn,tmps:=a.tmps,params:=ps,assign,body,defers:=w.heap.size })=W1:=⟨_,rfl⟩;have hL1:W1.heap[w.heap.size+1]? = some (.loop { state:=.ready,pending:=none,fn,tmps:=a.tmps,params:=ps,assign,body,defers:=w.heap.size }):=by
  rw [<-hW1];have:=World.alloc_heap_new (w.alloc (.deferred (some []))) (.loop { state:=.ready,pending:=none,fn,tmps:=a.tmps,params:=ps,assign,body,defers:=w.heap.size });rwa [World.size_alloc] at this
 have hD1:W1.heap[w.heap.size]? = some (.deferred (some [])):=by
  rw [<-hW1];show ((w.heap.push _).push _)[w.heap.size]? = _;rw [Array.getElem?_push_lt (by simp)];simp
 have hs1:W1.heap.size=h.size+2:=by rw [<-hW1,<-hh];show ((w.heap.push _).push _).size=_;simp
 have hx1:Ext h W1.heap:=by
  refine ⟨by rw [hs1];omega,fun b hb _=>?_⟩;rw [<-hW1,<-hh] at *;show ((w.heap.push _).push _)[b]? = _;rw [Array.getElem?_push_lt (by simp;omega)];simp [Array.getElem_push_lt hb]
 have at1:At E W1.heap W1:=⟨rfl,by rw [<-hW1];exact at'.os,by rw [<-hW1];exact at'.tape,by rw [<-hW1];exact at'.output⟩;obtain ⟨⟨fn',hf,hb,hbody⟩,hq⟩:=hk W1.heap hx1 hs1 ⟨fn,a.tmps,r.size,r.get,by rw [<-hh];exact hL1⟩ (by unfold Df;rw [<-hh];exact hD1);have h2' : ¬ fn'.name = "runtime.NumGoroutine" := by simpa using hb
 have h3':¬fn'.body=none:=by intro e;simp [e] at hbody
 refine ⟨w.heap.size+1,[{ target:=.collected w.heap.size,args:=#[] }],W1,{ target:=.fn (.func gf) lb.toArray,args:=#[.func (.yield (w.heap.size+1)) #[] #[]] },W1,gf,#[.func (.yield (w.heap.size+1)) #[] #[]]++lb.toArray,W1,?_,?_,fun _ _=>trivial,?_,fun e=>(by cases e),?_⟩
 ·rw [<-hW1];exact run_enterLoop_outer _ _ _ _ _
 ·have he:a.eval g=.func (.func gf) #[] lb.toArray:=by rw [r.eval];exact hg
  simp only [resolve,he];simp [go_sem]
 ·simp [invoke,callFunc,hf,h2',h3']
 ·have e1 : #[Value.func (.yield (w.heap.size+1)) #[] #[]]++lb.toArray=(Value.func (.yield (h.size+1)) #[] #[]::lb).toArray:=by rw [hh];simp
  rw [e1];refine callsIn_wide.2 ((hq E W1 at1).mono ?_);rintro e w3 ⟨v,h3,rfl,at3,st,pe,hst,⟨fn3,tm3,m1,m2,m3⟩,hK⟩;rw [<-at3.heap] at m3 hK;rw [hh];refine ⟨pe,_,run_endLoop m3 hst,?_⟩;have hK2:=hK _ (putObj_chg (w:=w3) (l:=h.size+1) (o:=.loop { state:=.exhausted,pending:=pe,fn:=fn3,tmps:=tm3,params:=ps,assign,body,defers:=h.size })).1 putObj_chg.2;have r2:Rel [col h.size] n s { a with defers:=[{ target:=.collected h.size,args:=#[] }]++a.defers }:=⟨r.size,r.get,by show _++a.defers=_;rw [r.defers];rfl⟩;have at4:At E (w3.putObj (h.size+1) (.loop { state:=.exhausted,pending:=pe,fn:=fn3,tmps:=tm3,params:=ps,assign,body,defers:=h.size })).heap (w3.putObj (h.size+1) (.loop { state:=.exhausted,pending:=pe,fn:=fn3,tmps:=tm3,params:=ps,assign,body,defers:=h.size })):=⟨rfl,at3.os,at3.tape,at3.output⟩;cases pe with
  | none=>exact ⟨[col h.size],s,_,r2,at4,hK2⟩
  | some c=>
   cases c with
   | ret=>exact wpIn_ret ⟨[col h.size],s,_,r2,at4,hK2⟩
   | exit i=>
    refine wpIn_exit ?_;simp only [rgK] at hK2;simp only [Exit.inBlock];by_cases hi:i=id
    ·subst hi;simp only [Nat.beq_refl,cond_true] at hK2;rw [if_pos rfl];exact ⟨[col h.size],s,_,r2,at4,hK2⟩
    ·have hb2:Nat.beq i id=false:=by cases hb3:Nat.beq i id with
      | true=>exact absurd (Nat.eq_of_beq_eq_true hb3) hi
      | false=>rfl
     simp only [hb2,cond_false] at hK2;rw [if_neg hi];exact ⟨[col h.size],s,_,r2,at4,hK2⟩
   | _=>exact hK2.elim
end
def finR (P:Program) (fn:Func) (R:Value->Heap->Prop):PD
 | [],.normal,s,h | [],.ret,s,h=>∃v,Res P fn s h v/\R v h
 | [d],.normal,s,h | [d],.ret,s,h=>∃D,d=col D/\Df D h/\∀h',Chg (fun j=>j=D) h h'->h'.size=h.size->∃v,Res P fn s h' v/\R v h'
 | _,_,_,_=>False
theorem leavesR {P:Program} {fn:Func} {R:Value->Heap->Prop} {s:Slots} {h:Heap} {n:Nat} {E:Env} {a:Act} {w:World} {ds:List Deferred} (r:Rel ds n s a) (at':At E h w) (q:finR P fn R ds .ret s h):LeavesInM Fence.wide 0 P fn a.tmps (fun e w'=>∃v h',e=.returned v/\At E h' w'/\R v h') a.defers .returning w:=by
 rw [r.defers]
 match ds,q with
 | [],⟨v,hv,hR⟩=>exact ⟨v,hv _ _ r.get at'.heap,v,h,rfl,at',hR⟩
 | [d],⟨D,hd,hD,hk⟩=>
  subst hd;unfold Df at hD;rw [<-at'.heap] at hD hk;obtain ⟨v,hv,hR⟩:=hk _ (putObj_chg (w:=w) (l:=D) (o:=.deferred none)).1 putObj_chg.2;exact ⟨by simp,.inl ⟨D,_,rfl,run_takeDeferred hD,v,hv _ _ r.get rfl,v,_,rfl,⟨rfl,at'.os,at'.tape,at'.output⟩,hR⟩⟩
theorem HC.goR {P:Program} {f:FuncId} {fn:Func} {c:Code} {args:List Value} {h:Heap} {R:Value->Heap->Prop} (hf:P.funcs[f]? = some fn) (n:Nat) (hc:HSD P n [c] (finR P fn R) (lst args) h) (hb:fn.body=some c:=by exact rfl)
  (hname : (fn.name == "runtime.NumGoroutine") = false := by first | exact rfl | kernel_rfl) (hn : fn.ntmps = n := by exact rfl) (hsz : Nat.ble args.length n = true := by exact rfl) : HC P f args.toArray h R := by
 have hsz:=Nat.le_of_ble_eq_true hsz;refine ⟨⟨fn,hf,hname,by simp [hb]⟩,fun E w at'=>(callsIn_wide (n:=0)).1 (callsIn_of_wp_marks hf hb trivial ?_)⟩;subst hn;refine wpIn_mono (wpIn_wide.2 (hc { E with ds:=[] } _ w rfl ⟨by simp;omega,fun i=>?_,rfl⟩ (at'.ds _))) ?_
 ·rw [<-lst_getD];simp only [Array.getD_eq_getD_getElem?,Array.getElem?_append,List.getD_eq_getElem?_getD];by_cases hi:i<args.length
  ·simp [hi]
  ·simp only [kF,hi,if_false];rw [List.getElem?_eq_none (by omega)];by_cases hj:i-args.length<fn.ntmps-args.length
   ·rw [Array.getElem?_replicate,if_pos hj];rfl
   ·rw [Array.getElem?_replicate,if_neg hj]
 ·rintro e a' w' ⟨ds,s',h',r',at2,q⟩;have at3:At E h' w':=at2.of_ds;cases e with
  | normal=>
   have q2:finR P fn R ds .ret s' h':=by
    match ds,q with
    | [],q=>exact q
    | [d],q=>exact q
    | _::_::_,q=>exact q
   exact leavesR r' at3 q2
  | ret=>exact leavesR r' at3 (by cases ds<;>exact q)
  | exit id=>cases ds with
   | nil=>exact q
   | cons d ds=>cases ds<;>exact q
  | goto l=>cases ds with
   | nil=>exact q
   | cons d ds=>cases ds<;>exact q
  | panic c=>cases ds with
   | nil=>exact False.elim q
   | cons d ds=>cases ds<;>exact False.elim q
  | outgrown=>cases ds with
   | nil=>exact False.elim q
   | cons d ds=>cases ds<;>exact False.elim q
section
variable {h0 h h':Heap} {D:Nat->Prop} {M R:List Itm} {c:LpC} {l:Nat} {st st':LoopState} {pe pe':Option Code}
theorem Hp.lp (ok:Hp h0 D (lpI c l st pe::M) R h) (cg:Chg (fun j=>j=l) h h') (hl:Lp c l st' pe' h'):Hp h0 D (lpI c l st' pe'::M) R h':=ok.upd cg (fun _ x=>x) (lpI c l st' pe') hl fun _ hj=>.inl hj
theorem Hp.df {d:Nat} (ok:Hp h0 D (dfI d::M) R h) (cg:Chg (fun j=>j=d) h h'):Hp h0 D M R h':=by
 have o:=ok.upd cg (fun _ x=>x) ⟨fun _=>True,fun j=>j=d,fun _ _ _ _ _ _=>trivial⟩ trivial fun _ hj=>.inl hj;exact o.tM
theorem Hp.rgNew (ok:Hp h0 D M R h) (x:Ext h h') (hs:h'.size=h.size+2) (hl:Lp c (h.size+1) .ready none h') (hd:Df h.size h'):Hp h0 D (lpI c (h.size+1) .ready none::dfI h.size::M) R h':=by
 have o:=ok.newM x (dfI h.size) hd fun j hj=>by have:j=h.size:=hj;omega
 refine ⟨o.chg,fun i hi=>?_,o.r,?_,fun a ha b hb j hj hb2=>?_⟩
 ·rcases qK.1 hi with rfl | hi
  ·exact ⟨hl,fun j hj=>by have:j=h.size+1:=hj;have:=ok.chg.size;exact ⟨by omega,.inr (by omega)⟩⟩
  ·exact o.m i hi
 ·refine kK.2 ⟨fun b hb j hj hb2=>?_,o.mm⟩;have hj1:j=h.size+1:=hj;rcases qK.1 hb with rfl | hb
  ·have:j=h.size:=hb2;omega
  ·have:=((ok.m b hb).2 j hb2).1;omega
 ·rcases qK.1 ha with rfl | ha
  ·have hj1:j=h.size+1:=hj;have:=(ok.r b hb).2 j hb2;omega
  ·exact o.mr a ha b hb j hj hb2
end
theorem HSD.rg' {P:Program} {n:Nat} {s:Slots} {h:Heap} {k:List Code} {Q:PD} {id:Nat} {g:Operand} {ps:Array Tmp} {assign body:Code} {gf:FuncId} {lb:List Value}
  (hk:∀(lc:LpC) (l D:Nat) (h1:Heap),lc=⟨n,s,ps,assign,body,D⟩->Ext h h1->h1.size=h.size+2->l=h.size+1->D=h.size->Lp lc l .ready none h1->Df D h1->
   HC P gf (Value.func (.yield l) #[] #[]::lb).toArray h1 fun _ h2=>rgEnd lc l (rgK id D (HS none P n k (Q [col D])) Q s) h2)
  (hg:ev s g=.func (.func gf) #[] lb.toArray:=by exact rfl):HSD P n (.block id (.rangeFunc g ps assign body)::k) Q s h:=
 HSD.rg hg fun h1 hx hs hl hd=>hk _ _ _ h1 rfl hx hs rfl rfl hl hd
theorem HY.go' {P:Program} {lc:LpC} {n:Nat} {s:Slots} {ps:Array Tmp} {assign body:Code} {D l:Nat} {args:List Value} {h:Heap} {R:Value->Heap->Prop} (hlc:lc=⟨n,s,ps,assign,body,D⟩) (hl:Lp lc l .ready none h)
  (hc:HS (some l) P n [assign] (thn (fun s1 h1=>Lp lc l .ready none h1/\∀h2,Chg (fun j=>j=l) h1 h2->h2.size=h1.size->Lp lc l .busy none h2->HS (some l) P n [body] (rnd lc l R) s1 h2) (fun _ _ _=>False)) (updL (ps.toList.zip args) s) h)
  (hsz:args.length=ps.size:=by exact rfl) (hps:(ps.toList.all fun p=>Nat.blt p n)=true:=by exact rfl):HY P l args.toArray h R:=by
 subst hlc;exact HY.go hl hsz hps hc
theorem Hp.rgNew' {h0 h h':Heap} {D:Nat->Prop} {M R:List Itm} {c:LpC} {l d:Nat} (ok:Hp h0 D M R h) (x:Ext h h') (hs:h'.size=h.size+2) (hl0:l=h.size+1) (hd0:d=h.size) (hl:Lp c l .ready none h') (hd:Df d h'):Hp h0 D (lpI c l .ready none::dfI d::M) R h':=by
 subst hl0 hd0;exact ok.rgNew x hs hl hd
theorem Hp.lpEnd {h0 h h':Heap} {D:Nat->Prop} {M R:List Itm} {c:LpC} {l:Nat} {st:LoopState} {pe:Option Code} (ok:Hp h0 D (lpI c l st pe::M) R h) (cg:Chg (fun j=>j=l) h h'):Hp h0 D M R h':=by
 have o:=ok.upd cg (fun _ x=>x) ⟨fun _=>True,fun j=>j=l,fun _ _ _ _ _ _=>trivial⟩ trivial fun _ hj=>.inl hj;exact o.tM
theorem Hp.addML {h0 h h':Heap} {D:Nat->Prop} {M R l:List Itm} (ok:Hp h0 D M R h) (q:Hp h none_ l [] h'):Hp h0 D (l++M) R h':=by
 have o:=ok.ext q.chg;have hn:∀a∈l,∀j,a.F j->h.size<=j:=fun a ha j hj=>((q.m a ha).2 j hj).2.elim (fun f=>f.elim) id;refine ⟨o.chg,fun i hi=>?_,o.r,List.pairwise_append.2 ⟨q.mm,o.mm,fun a ha b hb j hj hb2=>?_⟩,fun a ha b hb j hj hb2=>?_⟩
 ·rcases qD.1 hi with hi | hi
  ·exact ⟨(q.m i hi).1,fun j hj=>⟨((q.m i hi).2 j hj).1,.inr (kN ok.chg.size (hn i hi j hj))⟩⟩
  ·exact o.m i hi
 ·have:=hn a ha j hj;have:=((ok.m b hb).2 j hb2).1;omega
 ·rcases qD.1 ha with ha | ha
  ·have:=hn a ha j hj;have:=(ok.r b hb).2 j hb2;omega
  ·exact o.mr a ha b hb j hj hb2
theorem OpV.asN {P:Program} {s:Slots} {h:Heap} {d:Option Tmp} {ty:TypeId} {pos:String} {af:Array Edge} {g:Option (Nat × Bool)} {x:Operand} (hx:ev s x=.nilFunc:=by exact rfl):OpV P ⟨d,.assign x,ty,pos,af,g⟩ s h .nilFunc:=V.asv hx
section
variable {h0 h:Heap} {D:Nat->Prop} {M R:List Itm} {q0 q1 q2 q3 q4 q5 q6 q7 q8 q9 q10 q11 q12 q13 q14 q15:Itm}
theorem Hp.n10 (ok:Hp h0 D (q0::q1::q2::q3::q4::q5::q6::q7::q8::q9::q10::M) R h):Hp h0 D (q10::q0::q1::q2::q3::q4::q5::q6::q7::q8::q9::M) R h:=ok.perm (show (q10::([q0,q1,q2,q3,q4,q5,q6,q7,q8,q9]++M)).Perm ([q0,q1,q2,q3,q4,q5,q6,q7,q8,q9]++q10::M) from List.perm_middle.symm)
theorem Hp.m10 (ok:Hp h0 D (q0::q1::q2::q3::q4::q5::q6::q7::q8::q9::q10::M) R h):q10.p h:=(ok.m q10 (by simp)).1
theorem Hp.n11 (ok:Hp h0 D (q0::q1::q2::q3::q4::q5::q6::q7::q8::q9::q10::q11::M) R h):Hp h0 D (q11::q0::q1::q2::q3::q4::q5::q6::q7::q8::q9::q10::M) R h:=ok.perm (show (q11::([q0,q1,q2,q3,q4,q5,q6,q7,q8,q9,q10]++M)).Perm ([q0,q1,q2,q3,q4,q5,q6,q7,q8,q9,q10]++q11::M) from List.perm_middle.symm)
theorem Hp.n12 (ok:Hp h0 D (q0::q1::q2::q3::q4::q5::q6::q7::q8::q9::q10::q11::q12::M) R h):Hp h0 D (q12::q0::q1::q2::q3::q4::q5::q6::q7::q8::q9::q10::q11::M) R h:=ok.perm (show (q12::([q0,q1,q2,q3,q4,q5,q6,q7,q8,q9,q10,q11]++M)).Perm ([q0,q1,q2,q3,q4,q5,q6,q7,q8,q9,q10,q11]++q12::M) from List.perm_middle.symm)
theorem Hp.m12 (ok:Hp h0 D (q0::q1::q2::q3::q4::q5::q6::q7::q8::q9::q10::q11::q12::M) R h):q12.p h:=(ok.m q12 (by simp)).1
theorem Hp.k12 (ok:Hp h0 D (q0::q1::q2::q3::q4::q5::q6::q7::q8::q9::q10::q11::M) R h):Hp h0 D [q0,q1,q2,q3,q4,q5,q6,q7,q8,q9,q10,q11] R h:=ok.keep (show ([q0,q1,q2,q3,q4,q5,q6,q7,q8,q9,q10,q11]:List Itm).Sublist ([q0,q1,q2,q3,q4,q5,q6,q7,q8,q9,q10,q11]++M) from List.sublist_append_left _ _)
theorem Hp.n13 (ok:Hp h0 D (q0::q1::q2::q3::q4::q5::q6::q7::q8::q9::q10::q11::q12::q13::M) R h):Hp h0 D (q13::q0::q1::q2::q3::q4::q5::q6::q7::q8::q9::q10::q11::q12::M) R h:=ok.perm (show (q13::([q0,q1,q2,q3,q4,q5,q6,q7,q8,q9,q10,q11,q12]++M)).Perm ([q0,q1,q2,q3,q4,q5,q6,q7,q8,q9,q10,q11,q12]++q13::M) from List.perm_middle.symm)
theorem Hp.m13 (ok:Hp h0 D (q0::q1::q2::q3::q4::q5::q6::q7::q8::q9::q10::q11::q12::q13::M) R h):q13.p h:=(ok.m q13 (by simp)).1
theorem Hp.k13 (ok:Hp h0 D (q0::q1::q2::q3::q4::q5::q6::q7::q8::q9::q10::q11::q12::M) R h):Hp h0 D [q0,q1,q2,q3,q4,q5,q6,q7,q8,q9,q10,q11,q12] R h:=ok.keep (show ([q0,q1,q2,q3,q4,q5,q6,q7,q8,q9,q10,q11,q12]:List Itm).Sublist ([q0,q1,q2,q3,q4,q5,q6,q7,q8,q9,q10,q11,q12]++M) from List.sublist_append_left _ _)
end
theorem HOY.z {P:Program} {n:Nat} {ops:Array Oper} {l:List Oper} {K:Slots->Heap->Prop} {s:Slots} {h:Heap} {op:Op} {ty:TypeId} {pos:String} {af:Array Edge} {g:Option (Nat × Bool)} {d:Nat} {v:Value} (hv:OpV P ⟨some d,op,ty,pos,af,g⟩ s h v) (hk:HOY P n ops l K (upd s d v) h) (hw:wants ops ⟨some d,op,ty,pos,af,g⟩ s=true:=by exact rfl) (hn:Nat.blt d n=true:=by exact rfl):HOY P n ops (⟨some d,op,ty,pos,af,g⟩::l) K s h:=HOY.w d hv hk hw rfl hn
open Go
section
variable {P:Program} {s:Slots} {h:Heap} {d:Option Tmp} {t u ty:TypeId} {x y:Operand} {pos:String} {af:Array Edge} {g:Option (Nat × Bool)}
theorem OpV.shrI {ky:IntKind} {a k:Nat} (hk:k<64) (hx:ev s x=.J (a:Nat):=by exact rfl) (hy:ev s y=.int ky (k:Nat):=by exact rfl):OpV P ⟨d,.binOp .shr t x y u,ty,pos,af,g⟩ s h (.J ((a / 2 ^ k:Nat):Int)):=fun w _=>by
 have h0:min k IntKind.i64.bits=k:=by show min k 64=k;omega
 have h1:((a:Nat):Int).fdiv (2 ^ min k IntKind.i64.bits)=((a / 2 ^ k:Nat):Int):=by
  rw [h0,Int.fdiv_eq_ediv_of_nonneg _ (Int.pow_nonneg (by decide))];rw [Int.natCast_ediv,Int.natCast_pow];rfl
 have h2:¬((k:Nat):Int)<0:=by omega
 simp [execOp,hx,hy,V.eqG,binOp,Op.shift,h1,h2]
end
end Go.HL
namespace Go.Proofs.YtfegfklipbnhjaaGreat
open Go Go.HL
section
variable {z k rt c:Nat} {cs:List (List UInt8)} {h:Heap} {F E:Nat->Prop} {a:Option Addr}
theorem canS_0 (hz:10<=z):List.replicate z (0:UInt8)=canS z (List.replicate 8 0) []:=by
 obtain ⟨w,rfl⟩:∃w,z=8+(2+w):=⟨z-10,by omega⟩;unfold canS;show _=List.replicate 8 0++([0,0]++([]++(List.replicate (8+(2+w)-(List.replicate 8 (0:UInt8)).length-2-2*0-0) 0++[])));rw [kW,show 8+(2+w)-8-2-2*0-0=w by omega,<-List.replicate_append_replicate,<-List.replicate_append_replicate];simp
theorem sinsE {D:Nat->Prop} {pb m i bc:Nat} {ba:Option Addr} {fr b:List UInt8} (hi:i=cs.length) (ok:Hp h D [boxI pb 306 [.slice a m c,.J ((8:Nat):Int)],capI 1 5 (a,m,c) ((canS z fr cs).map bv)] [rdI F E (ba,b.length,bc) b] h) (hfr:fr.length=8) (hz:z<=4096) (hroom:8+2+2*(cs.length+1)+(tS cs+(2+b.length))<=z) :
  Hc 166 #[.P pb,.J (i:Int),.slice ba b.length bc] h (fun v h'=>v=.J 0/\Hp h D [boxI pb 306 [.slice a m c,.J ((8:Nat):Int)],capI 1 5 (a,m,c) ((canS z fr (cs++[b])).map bv)] [] h'):=by
 subst hi;exact sins_any (hd:=8) ok hfr hz hroom
theorem sbytesE {D:Nat->Prop} {pb n hd:Nat} {l:List UInt8} (hm:l.length=n) (ok:Hp h D [boxI pb 306 [.slice a n c,.J (hd:Int)]] [rdI F E (a,n,c) l] h) (hN:n<=1000000) :
  Hc 167 #[.P pb] h (fun v h'=>∃x m c',v=.slice x m c'/\Hp h D [capI 1 5 (x,m,c') (l.map bv),boxI pb 306 [.slice a n c,.J (hd:Int)]] [] h'):=by
 subst hm;exact sbytes_any ok hN
theorem canS_set {j:Nat} {fr:List UInt8} {x:UInt8} (h:j<fr.length):(canS z fr cs).set j x=canS z (fr.set j x) cs:=by
 unfold canS;rw [List.set_append_left _ _ h,List.length_set]
def fwN (k rt i:Nat):List UInt8:=[UInt8.ofNat k,0,0,0]++((fixedN rt 4).take i++List.replicate (4-i) 0)
theorem fwN_0 : ((canS z (List.replicate 8 0) cs).map bv).set 0 (.int .u8 ((k%256:Nat):Int))=(canS z (fwN k rt 0) cs).map bv:=by
 rw [show Value.int .u8 ((k%256:Nat):Int)=bv (UInt8.ofNat k) by simp [bv],<-List.map_set,canS_set (by simp)];rfl
theorem fwN_s {i:Nat} (hi:i<4):((canS z (fwN k rt i) cs).map bv).set (4+i) (.int .u8 ((rt / 2 ^ (8*(3-i))%256:Nat):Int))=(canS z (fwN k rt (i+1)) cs).map bv:=by
 have hl:(fwN k rt i).length=8:=by simp [fwN,fixedN_len];omega
 rw [show Value.int .u8 ((rt / 2 ^ (8*(3-i))%256:Nat):Int)=bv (UInt8.ofNat (rt / 256 ^ (3-i))) by simp [bv,Nat.pow_mul],<-List.map_set,canS_set (by omega)];have:i=0\/i=1\/i=2\/i=3:=by omega
 rcases this with rfl | rfl | rfl | rfl<;>rfl
theorem fwN_4 {l:List Cel} : fwN k rt 4=ndFr ⟨k,l,rt⟩:=by
 unfold fwN ndFr;rw [qY (by rw [fixedN_len];omega)];simp
theorem ndenc_any {l:List Cel} (hl:RdL h F E (a,l.length,c) l) (ho:OkNd (⟨k,l,rt⟩:Nod)) (hf:FitNd (⟨k,l,rt⟩:Nod) z) (hz:okSz z=true) (hN:l.length<=100000) :
  Hc 121 #[.agg #[.J (k:Int),.slice a l.length c,.J (rt:Int)],.J (z:Int)] h (fun v h'=>∃w,v=.tuple #[w,.J 0]/\Own h h' 1 5 w ((encNd (⟨k,l,rt⟩:Nod) z).map bv)):=by
 have ok:=(Hp.nil h none_).arg hl;have hlm:=hl.m;have hlc:=hl.c;simp only at hlm hlc;have hzc:z=256\/z=512\/z=1024\/z=2048\/z=4096:=by simpa [okSz,or_assoc] using hz
 have hrm:8+2+2*l.length+tS (l.map (encCl k))<=z:=by have:=fit_room hf;rw [ndFr_len,qM] at this;exact this
 refine HC.go Tryz.func121 86 ?_;refine .s<|.a' 2 (.bxA (cs:=[.J (k:Int),.slice a l.length c,.J (rt:Int)]) ok) ?_;rintro _ U1 ⟨pb1,rfl,ok,xe⟩;refine .z .asS<|.z .asI<|.nil<|.seq<|.block fun K0 hK0=>.s<|.z .mvI<|.k 16 .func (ndsize_any (n:=z) (by omega))<|?_;rw [hz];refine .z .not<|.z .mvB<|.z (.ldb T.ag116 ok.m0 T.sz116)<|.c' 20 .func (ndright_any (k:=k) (rt:=rt) (a:=a) (c:=c) (l:=l) ok.r0) ?_;rintro _ U2 ⟨rfl,hx⟩;have ok:=ok.ext hx;rw [decide_eq_true ho];refine .z .not<|.z .pkf<|.z .asB<|.nil<|.cf<|.s<|.z (.ldb T.ag116 ok.m0 T.sz116)<|.z .mvI<|.c' 26 .func (ndfits_any (k:=k) (rt:=rt) (z:=z) (a:=a) (c:=c) (l:=l) ok.r0 ho.c hN (by omega)) ?_;rintro _ U3 ⟨rfl,hx⟩;have ok:=ok.ext hx;rw [decide_eq_true hf];refine .z .not<|.z .asB<|.nil<|.cf<|.skip<|.end<|hK0 _ _<|.s<|.z .mvI<|.c' 30 .func (snew_any (z:=z) (hd:=8) (by omega) (by omega)) ?_;rintro _ U4 ⟨pg,pa,rfl,q⟩;have ok:=ok.addML q;have ok:=(ok.n1).cx (ys:=(canS z (List.replicate 8 0) ((l.take 0).map (encCl k))).map bv) (by rw [canS_0 (by omega)];rfl);refine .z .mvU<|.z .ex<|.z .ex<|.z .asP<|.z .asI<|.nil<|.seq<|.s<|.z .mvI<|.z .neq<|.nil<|.cf<|.skip<|.seq<|.s<|.z (.fa T.fd116_1)<|.z (.ldx T.ag114 ok.m2)<|.z (.len T.el114)<|.z .mvI<|.nil<|.block fun K1 hK1=>.loop (fun m s hh=>∃(i:Nat),Has s [(2,.P pb1),(6,.P pg),(37,.slice a l.length c),(38,.J (l.length:Int)),(39,.J (i:Int))]/\Hp h none_ [capI 1 5 (pa,z,z) ((canS z (List.replicate 8 0) ((l.take i).map (encCl k))).map bv),boxI pg 306 [.slice pa z z,.J ((8:Nat):Int)],boxI pb1 116 [.J (k:Int),.slice a l.length c,.J (rt:Int)]] [rdI (nS h F) (nS h E) (a,l.length,c) l] hh/\i<=l.length/\m=l.length-i) ?_ ?_
 ·exact ⟨_,0,⟨rfl,rfl,rfl,rfl,rfl,trivial⟩,(ok).k3,qL _,rfl⟩
 rintro _ _ U5 ⟨i,hs,ok,hi,rfl⟩ J0 hJ0;refine .frame hs fun τ=>?_;refine .s<|.z .lss<|.nil<|.seq<|.cdr (fun C3=>?_) (fun C3=>?_)
 ·
  refine .exit<|hK1 _ _<|.seq<|?_;have hln:=qY (show l.length<=i by omega);rw [hln] at ok;have hclz:(canS z (List.replicate 8 0) (l.map (encCl k))).length=z:=canS_len (by simpa using hrm);refine .r<|.z .mvP<|.c' 63 .func (sbytesE (l:=(canS z (List.replicate 8 0) (l.map (encCl k)))) (hd:=8) hclz (ok.n1).locMB (by omega)) ?_;rintro _ U6 ⟨oa,on,oc,rfl,q⟩;have ok:=(ok.n1).lift2 q;obtain rfl:on=(canS z (List.replicate 8 0) (l.map (encCl k))).length:=ok.lenB;refine .z .asS<|.nil<|.s<|.z .mvS<|.z (.fa T.fd116_0)<|.z (.ldx T.ag3 ok.m3)<|.z (.cvm T.in5 T.in3 (M:=256) rfl rfl)<|?_;obtain ⟨bb1,oo1,rfl,fb1⟩:=ok.m0.pos (n:=(canS z (List.replicate 8 0) (l.map (encCl k))).length) (by omega);refine .z (.ix1 0 T.el35 T.sz5)<|.ur' (.sxI (q:=0) T.sz5 ok) ?_;rintro U7 ⟨ok,cg⟩;refine .nil ?_;refine .seq<|.seq<|?_;have ok:=(ok).cx (ys:=(canS z (fwN k rt 0) (l.map (encCl k))).map bv) fwN_0;refine .r<|.z .mvI<|.nil<|.block fun K3 hK3=>.loop (fun m s hh=>∃(i:Nat),Has s [(2,.P pb1),(12,.slice (some ⟨bb1,oo1,none⟩) ((canS z (List.replicate 8 0) (l.map (encCl k))).length) oc),(69,.J (i:Int))]/\Hp h none_ [capI 1 5 (some ⟨bb1,oo1,none⟩,(canS z (List.replicate 8 0) (l.map (encCl k))).length,oc) ((canS z (fwN k rt i) (l.map (encCl k))).map bv),boxI pb1 116 [.J (k:Int),.slice a l.length c,.J (rt:Int)]] [] hh/\i<=4/\m=4-i) ?_ ?_
  ·exact ⟨_,0,⟨rfl,rfl,rfl,trivial⟩,(ok.n3.n1).k2.tR,qL _,rfl⟩
  rintro _ _ U8 ⟨i,hs,ok,hi4,rfl⟩ J1 hJ1;refine .frame hs fun τ=>?_;refine .s<|.z .lss<|.nil<|.seq<|.cdr (fun C6=>?_) (fun C6=>?_)
  ·
   refine .exit<|hK3 _ _<|.s<|.z .mvS<|.z .asS<|.z .asI<|.nil<|.ret ⟨.tuple #[.slice (some ⟨bb1,oo1,none⟩) ((canS z (List.replicate 8 0) (l.map (encCl k))).length) oc,.J 0],Res.two rfl rfl rfl,⟨_,rfl,by rw [show encNd (⟨k,l,rt⟩:Nod) z=(canS z (fwN k rt i) (l.map (encCl k))) from by unfold encNd;rw [<-fwN_4];rw [show i=4 by omega]];exact (ok).toOwn⟩⟩
  have hi4l:i<4:=by omega
  refine .skip<|.seq<|.block fun K4 hK4=>.s<|.z .mvI<|.z .asI<|.nil<|.r<|.z .mvS<|.z .mvI<|.z (.addI (a:=4))<|.z (.fa T.fd116_2)<|.z (.ldx T.ag3 ok.m1)<|.z .mvI<|.z .sub<|?_;rw [show (3-(i:Int))=((3-i:Nat):Int) from by omega];refine .z (.cvs T.in206 T.in3 (M:=18446744073709551616) rfl rfl)<|.z (.muln (M:=18446744073709551616) rfl rfl (a:=8))<|?_;rw [show ((8*(3-i))%18446744073709551616)=(8*(3-i)) from kD (by omega)];refine .z (.shrI (a:=rt) (k:=8*(3-i)) (by omega))<|.z (.cvm T.in5 T.in3 (M:=256) rfl rfl)<|.z (.ix1 (4+i) T.el35 T.sz5)<|.ur' (.sxI (q:=(4+i)) T.sz5 ok) ?_;rintro U9 ⟨ok,cg⟩;refine .nil ?_;refine .end<|hK4 _ _<|?_;have ok:=(ok).cx (ys:=(canS z (fwN k rt (i+1)) (l.map (encCl k))).map bv) (fwN_s hi4l);refine .r<|.z (.addI (b:=1))<|.z .mvI<|.nil<|.end<|hJ1 _ _ _ ⟨i+1,⟨rfl,rfl,rfl,trivial⟩,(ok).k2,by omega,rfl⟩ (by omega)
 have hil:i<l.length:=by omega
 have hoi:=ho.c _ (qP hil);have htt:=tS_take (cs:=l.map (encCl k)) (i:=i) (by simpa using hil);rw [<-List.map_take,<-List.map_take,List.getElem_map] at htt;have hcl:((l.take i).map (encCl k)).length=i:=by simp;omega
 have ht2:tS ((l.take (i+1)).map (encCl k))=tS ((l.take i).map (encCl k))+(2+(encCl k (⟨l[i].key,l[i].child,l[i].total,l[i].loc,l[i].spill⟩:Cel)).length):=htt.1;have ht3:=htt.2;refine .skip<|.seq<|.block fun K2 hK2=>.s<|.z .mvI<|?_;obtain ⟨bb2,oo2,rfl,fb2⟩:=ok.r0.pos (by omega);refine .z (.ix i T.el114 T.sz113)<|?_;obtain ⟨xa1,xc1,hv1,hw1,hk1⟩:=ok.r0.cel (i:=i) (by omega);have ok:=ok.d0 (rdI (nS h E) (nS h E) (xa1,l[i].loc.length,xc1) (l[i].loc)) hw1 (fun _ h=>.inr (h.elim id id));refine .z (.ldc (vs:=celV l[i] xa1 xc1) T.ag113 hv1 T.sz113)<|.a' 9 (.alA T.zr113 ok) ?_;rintro _ U10 ⟨pb2,rfl,ok,xe⟩;refine .z .asI<|.ur' (.stW (vs:=[.J (l[i].key),.J (l[i].child:Int),.J (l[i].total:Int),.slice xa1 (l[i].loc.length) xc1,.J (l[i].spill:Int)]) T.sz113 ok (oneL rfl)) ?_;rintro U11 ⟨ok,cg⟩;refine .nil ?_;refine .s<|.z (.fa T.fd116_0)<|.z (.ldx T.ag3 ok.m3)<|.z (.ldb T.ag113 ok.m0 T.sz113)<|.c' 48 .func (clenc_any (k:=k) (ky:=l[i].key) (ch:=l[i].child) (tt:=l[i].total) (la:=xa1) (lcc:=xc1) (lc:=l[i].loc) (sp:=l[i].spill) hoi ok.r0) ?_;rintro _ U12 ⟨yw1,rfl,own⟩;obtain ⟨ya1,yc1,rfl⟩:=own.formB;have ok:=ok.own own;refine .z .mvU<|.z .ex<|.z .ex<|.z .asS<|.z .asI<|.nil<|.seq<|.s<|.z .mvI<|.z .neq<|.nil ?_;have ok:=(ok).frzB (l:=(encCl k (⟨l[i].key,l[i].child,l[i].total,l[i].loc,l[i].spill⟩:Cel))) rfl;refine .cf<|.skip<|.s<|.z .mvP<|.z .mvI<|.z .mvS<|.c' 57 .func (sinsE (i:=i) (z:=z) hcl.symm (Hp.lc2 (ok.n1.n2.e1)) (by simp) (by omega) (by rw [hcl];omega)) ?_;rintro _ U13 ⟨rfl,q⟩;have ok:=Hp.lf2 (ok.n1.n2) q;have ok:=(ok.n1).cx (ys:=(canS z (List.replicate 8 0) ((l.take (i+1)).map (encCl k))).map bv) (by rw [qG hil,kJ];rfl);refine .z .asI<|.nil<|.s<|.z .mvI<|.z .neq<|.nil<|.cf<|.skip<|.end<|hK2 _ _<|.r<|.z (.addI (b:=1))<|.z .mvI<|.nil<|.end<|hJ0 _ _ _ ⟨i+1,⟨rfl,rfl,rfl,rfl,rfl,trivial⟩,(ok.n3.n2.n2).k3.f2.e1,by omega,rfl⟩ (by omega)
end
end Go.Proofs.YtfegfklipbnhjaaGreat
namespace Go.HL
open Go
theorem OpV.shl8 {P:Program} {s:Slots} {h:Heap} {d:Option Tmp} {t u ty:TypeId} {x y:Operand} {pos:String} {af:Array Edge} {g:Option (Nat × Bool)} {ky:IntKind} (a b:Nat) (hb:b<=64) (hr:a*2 ^ b<=9223372036854775807) (hx:ev s x=.J (a:Nat):=by exact rfl) (hy:ev s y=.int ky (b:Nat):=by exact rfl):OpV P ⟨d,.binOp .shl t x y u,ty,pos,af,g⟩ s h (.J ((a*2 ^ b:Nat):Int)):=fun w _=>by
 have h0:¬((b:Int)<0):=by omega
 have hm:min b IntKind.i64.bits=b:=Nat.min_eq_left hb;have h1:IntKind.wrap .i64 ((a:Int)*2 ^ min b IntKind.i64.bits)=((a*2 ^ b:Nat):Int):=by
  rw [hm];have e:(a:Int)*2 ^ b=((a*2 ^ b:Nat):Int):=by simp
  rw [e];exact IntWalk.i64_in _ (by omega)
 rw [hm] at h1;simp [execOp,hx,hy,V.eqG,binOp,Op.shift,h0];first | simpa using h1 | (rw [hm];simpa using h1)
theorem OpV.orI {P:Program} {s:Slots} {h:Heap} {d:Option Tmp} {t u ty:TypeId} {x y:Operand} {pos:String} {af:Array Edge} {g:Option (Nat × Bool)} (a b:Nat) (ha:a<9223372036854775808) (hb:b<9223372036854775808) (hx:ev s x=.J (a:Nat):=by exact rfl) (hy:ev s y=.J (b:Nat):=by exact rfl):OpV P ⟨d,.binOp .or t x y u,ty,pos,af,g⟩ s h (.J ((a ||| b:Nat):Int)):=fun w _=>by
 have h1:a ||| b<2 ^ 63:=Nat.or_lt_two_pow ha hb
 have h2:(BitVec.ofNat 64 a ||| BitVec.ofNat 64 b).toNat=a ||| b:=by simp [kD (show a<2 ^ 64 by omega),kD (show b<2 ^ 64 by omega)]
 have h3:IntKind.i64.wrap ((a ||| b:Nat):Int)=((a ||| b:Nat):Int):=IntWalk.i64_in _ (by omega);have h4:(BitVec.ofInt IntKind.i64.bits (a:Int) ||| BitVec.ofInt IntKind.i64.bits (b:Int)).toNat=a ||| b:=by rw [bv_nat,bv_nat];exact h2
 simp only [execOp,hx,hy,binOp,Op.intBits,h4,h3];simp [V.eqG]
end Go.HL
namespace Go.Proofs.YtfegfklipbnhjaaGreat
open Go Go.HL
section
variable {l:List UInt8} {i:Nat} {r:RdS}
theorem or_256 {r b:Nat} (hb:b<256):r*2 ^ 8 ||| b=r*256+b:=by
 have h:=Nat.shiftLeft_add_eq_or_of_lt (b:=b) (i:=8) hb r;rw [Nat.shiftLeft_eq] at h;rw [<-h]
theorem beN_take (h:i<l.length):beN (l.take (i+1))=beN (l.take i)*256+l[i].toNat:=by rw [qG h,beN_snoc]
def ndCs (l:List UInt8) (i:Nat):List Cel:=(List.range i).map fun i=>(decCl (kdOf l) (cllS l 8 i)).1
theorem ndCs_s : ndCs l (i+1)=ndCs l i++[(decCl (kdOf l) (cllS l 8 i)).1]:=by unfold ndCs;rw [List.range_succ,kJ];rfl
theorem ndCs_len : (ndCs l i).length=i:=by simp [ndCs]
theorem nxtR_i64 : -9223372036854775808<=(nxtR l r).1/\(nxtR l r).1<=9223372036854775807:=by
 unfold nxtR;split
 ·show -9223372036854775808<=(0:Int)/\(0:Int)<=9223372036854775807;exact ⟨by decide,by decide⟩
 split
 ·show -9223372036854775808<=(0:Int)/\(0:Int)<=9223372036854775807;exact ⟨by decide,by decide⟩
 ·exact uvG_rg 10 0 0 rfl (by decide)
theorem ldT_key {c:Cel} {n k:Int} : (ldT l c n k r).1.key=c.key:=by
 unfold ldT;split
 ·rfl
 ·split<;>rfl
theorem ldR_key {c:Cel} : (ldR l c r).1.key=c.key:=by unfold ldR;exact ldT_key
theorem decCl_key {k:Nat} : -9223372036854775808<=(decCl k l).1.key/\(decCl k l).1.key<=9223372036854775807:=by
 unfold decCl dcE;split
 ·show -9223372036854775808<=(0:Int)/\(0:Int)<=9223372036854775807;exact ⟨by decide,by decide⟩
 ·have e:∀(c:Cel) (r:RdS),(dcD k l c r).1.key=c.key:=fun c r=>by
   unfold dcD;split
   ·exact ldR_key
   ·rfl
  show -9223372036854775808<=(dcD k l _ _).1.key/\(dcD k l _ _).1.key<=_;rw [e];unfold dcB;split
  ·exact nxtR_i64
  ·show -9223372036854775808<=(0:Int)/\(0:Int)<=9223372036854775807;exact ⟨by decide,by decide⟩
end
open Go Go.HL
theorem Cel.rd_cap {h:Heap} {e:TypeId} {x:Cel} {a:Option Addr} {c:Nat} (r:Cap h 1 e (.slice a x.loc.length c) (x.loc.map bv)) (hk : -9223372036854775808<=x.key/\x.key<=9223372036854775807):Rep.rd h (blkC (.slice a x.loc.length c)) (celV x a c) x:=
 ⟨(a,x.loc.length,c),rfl,RdL.of_cap1 (f:=bv) (x:=(a,x.loc.length,c)) (l:=x.loc) rfl (fun _ _ _=>rfl) r,hk⟩
def OwnC (h h':Heap) (x:Option Addr) (n c:Nat) (l:List Cel):Prop:=∃E,(accI 113 (x,n,c) (none,0,0) E l []).p h'/\∀j,(accI 113 (x,n,c) (none,0,0) E l []).F j->Nw h h' j
theorem OwnC.rd {h h':Heap} {x:Option Addr} {n c:Nat} {l:List Cel} (o:OwnC h h' x n c l):RdL h' (Nw h h') (Nw h h') (x,n,c) l:=let ⟨_,a,f⟩:=o;a.rd.mono (fun j hj=>f j (.inl hj)) (fun j hj=>f j (.inr (.inr hj)))
theorem _root_.Go.HL.Hp.ownC {h0 h h':Heap} {D:Nat->Prop} {M R:List Itm} {x:Option Addr} {n c:Nat} {l:List Cel} (ok:Hp h0 D M R h) (e:Ext h h') (o:OwnC h h' x n c l):∃E,Hp h0 D (accI 113 (x,n,c) (none,0,0) E l []::M) R h':=let ⟨E,a,f⟩:=o;⟨E,ok.newM e _ a f⟩
theorem ndread_any {h:Heap} {F E:Nat->Prop} {c:Nat} {a:Option Addr} {l:List UInt8} (hl:RdL h F E (a,l.length,c) l) (hz:256<=l.length/\l.length<=4096) :
  Hc 157 #[.slice a l.length c] h (fun v h'=>(RedOk l/\∃x c2,v=.tuple #[.agg #[.J (kdOf l:Int),.slice x (ndOf l).cells.length c2,.J ((ndOf l).right:Int)],.bool true]/\Ext h h'/\OwnC h h' x (ndOf l).cells.length c2 (ndOf l).cells)\/(¬RedOk l/\∃g1 x n c2 g2,v=.tuple #[.agg #[.J g1,.slice x n c2,.J g2],.bool false]/\Ext h h')):=by
 have ok:=(Hp.nil h none_).arg hl;have hlm:=hl.m;have hlc:=hl.c;simp only at hlm hlc;have hp4:((l.drop 4).take 4).length=4:=by simp;omega
 refine HC.go Tryz.func157 73 ?_;refine .s<|.a' 2 (.alA T.zr116 ok) ?_;rintro _ U1 ⟨pb1,rfl,ok,xe⟩;refine .z .asB<|.nil<|.s<|.z .mvS<|.c' 16 .func (sof_any (hd:=8) ok.r0 (by omega) (by omega)) ?_;rintro _ U2 (⟨hSd,pg,pa,pc,rfl,q⟩ | ⟨hSd,rfl,hx⟩)
 ·
  have ok:=ok.addML q;refine .z .mvU<|.z .ex<|.z .ex<|.z .asP<|.z .asI<|.nil<|.seq<|.s<|.z .mvI<|.z .neq<|.nil<|.cf<|.skip<|.s<|.z .mvS<|?_;obtain ⟨bb1,oo1,rfl,fb1⟩:=ok.r0.pos (by omega);refine .z (.ix1 0 T.el35 T.sz5)<|.z (.ld T.ag5 (ok.r0.u8 (i:=0) (by omega)))<|.z (.cvi T.in3 T.in5)<|?_;rw [show l[0].toNat=(kdOf l) from (by unfold kdOf;simp [show 0<l.length by omega])];refine .z (.bd #[.J (((kdOf l):Nat):Int),.N,.J 0] T.zr116 T.pl116 rfl)<|.a' 6 (.alA T.zr116 ok) ?_;rintro _ U3 ⟨pb2,rfl,ok,xe⟩;refine .ur' (.stW (vs:=[.J (((kdOf l):Nat):Int),.N,.J 0]) T.sz116 ok (oneL rfl)) ?_;rintro U4 ⟨ok,cg⟩;refine .nil ?_;refine .seq<|.s<|.z .mvS<|.z (.slh 4 8 T.el35 T.sz5)<|?_;generalize hc1:cutA (some ⟨bb1,oo1,none⟩) 4 c 1=ca1;generalize hn1:8-4=cn1;obtain rfl:cn1=(((l.drop 4).take 4)).length:=by rw [<-hn1];simp<;>omega
  have ok:=ok.d0 (rdI (nS h F) (nS h E) (ca1,(((l.drop 4).take 4)).length,c-4) ((l.drop 4).take 4)) (by have h1:=ok.r0.cut (i:=4) (j:=8) (by omega) (by omega);rw [show ((l).drop 4).take (8-4)=((l.drop 4).take 4) from rfl] at h1;rw [<-hc1,<-hn1];exact h1) (fun _ h=>h);refine .z (.len T.el35)<|.z .mvI<|.nil<|.block fun K0 hK0=>.loop (fun m s hh=>∃(i:Nat),Has s [(2,.P pb1),(4,.P pg),(6,.P pb2),(28,.slice ca1 ((((l.drop 4).take 4)).length) (c-4)),(29,.J (((((l.drop 4).take 4)).length:Nat):Int)),(30,.J (i:Int))]/\Hp h none_ [boxI pb2 116 [.J (((kdOf l):Nat):Int),.N,.J ((beN (((l.drop 4).take 4).take i):Nat):Int)],boxI pg 306 [.slice pa l.length pc,.J ((8:Nat):Int)],capI 1 5 (pa,l.length,pc) (l.map bv),boxI pb1 116 [.J 0,.N,.J 0]] [rdI (nS h F) (nS h E) (ca1,(((l.drop 4).take 4)).length,c-4) ((l.drop 4).take 4)] hh/\i<=4/\m=4-i) ?_ ?_
  ·exact ⟨_,0,⟨rfl,rfl,rfl,rfl,rfl,rfl,trivial⟩,(ok).k4.e1,qL _,rfl⟩
  rintro _ _ U5 ⟨i,hs,ok,hi,rfl⟩ J0 hJ0;refine .frame hs fun τ=>?_;refine .s<|.z .lss<|.nil<|.seq<|.cdr (fun C1=>?_) (fun C1=>?_)
  ·
   refine .exit<|hK0 _ _<|.seq<|.seq<|?_;obtain rfl:i=4:=by omega
   have hr4:((l.drop 4).take 4).take 4=((l.drop 4).take 4):=qY (by omega);rw [hr4] at ok;have hse:=hSd.e;have hmn:=mnS_lt l 8;have ok:=ok.accNil 113 Cel;refine .r<|.z .mvP<|.k 43 .func (sMany_any (pb:=pg) (hd:=8) (a:=pa) (c:=pc) (l:=l) (RdL.ofCapB (v:=(pa,l.length,pc)) (l:=l) ok.m3) ok.m2 (by omega) (by omega))<|.z .mvI<|.nil<|.block fun K2 hK2=>.loop (fun m s hh=>∃(i:Nat) (a8:Option Addr) (n8 c8:Nat) (E2:Nat->Prop),Has s [(2,.P pb1),(4,.P pg),(6,.P pb2),(43,.J (((mnS l 8):Nat):Int)),(44,.J (i:Int))]/\Hp h none_ [accI 113 (a8,n8,c8) (none,0,0) E2 (ndCs l i) [],boxI pb2 116 [.J (((kdOf l):Nat):Int),.slice a8 n8 c8,.J ((rdN l 4 4:Nat):Int)],boxI pg 306 [.slice pa l.length pc,.J ((8:Nat):Int)],capI 1 5 (pa,l.length,pc) (l.map bv),boxI pb1 116 [.J 0,.N,.J 0]] [] hh/\i<=mnS l 8/\(∀j,j<i->(decCl (kdOf l) (cllS l 8 j)).2=0)/\m=mnS l 8-i) ?_ ?_
   ·exact ⟨_,0,none,0,0,none_,⟨rfl,rfl,rfl,rfl,rfl,trivial⟩,(ok).k5.tR,qL _,fun j h=>absurd h (Nat.not_lt_zero _),rfl⟩
   rintro _ _ U6 ⟨i,a8,n8,c8,E2,hs,ok,hi,hd0,rfl⟩ J1 hJ1;refine .frame hs fun τ=>?_;refine .s<|.z .lss<|.nil<|.seq<|.cdr (fun C2=>?_) (fun C2=>?_)
   ·
    refine .exit<|hK2 _ _<|.seq<|?_;obtain rfl:i=mnS l 8:=by omega
    obtain rfl:n8=(ndCs l (mnS l 8)).length:=Acc.len ok.m0;refine .a 5 (fun fl hh=>Hp h none_ [accI 113 (a8,(ndCs l (mnS l 8)).length,c8) (none,0,0) E2 (ndCs l (mnS l 8)) [],boxI pb2 116 [.J (((kdOf l):Nat):Int),.slice a8 ((ndCs l (mnS l 8)).length) c8,.J ((rdN l 4 4:Nat):Int)],boxI pg 306 [.slice pa l.length pc,.J ((8:Nat):Int)],capI 1 5 (pa,l.length,pc) (l.map bv)] [] hh) mixed ?_;have hS:=ok.k4;refine .lw 0 false rfl 70 hS (fun _ _ hS=>.ldb T.ag116 hS.m1 T.sz116)<|.lw 1 false rfl 71 hS (fun _ _ hS=>.ldb T.ag116 hS.m1 T.sz116)<|.o1 2<|.c' false rfl 72 .func (ndright_any (k:=kdOf l) (rt:=rdN l 4 4) (l:=ndCs l (mnS l 8)) (ok.m0).rd) ?_;rintro _ U7 ⟨rfl,hx⟩;have ok:=ok.ext hx;refine ⟨ok.k4,?_⟩;have hS:=ok.k4;refine .o1 3<|.ur' false rfl (.stW (vs:=[.J (((kdOf l):Nat):Int),.slice a8 ((ndCs l (mnS l 8)).length) c8,.J ((rdN l 4 4:Nat):Int)]) T.sz116 ok.n4 (oneL rfl)) ?_;rintro U8 ⟨ok,cg⟩;refine ⟨ok.n4.n4.n4.n4.k4,?_⟩;have hS:=ok.n4.n4.n4.n4.k4;refine .g 4 false rfl 3 hS (fun _=>.asB)<|.e ?_;refine .ret ⟨.tuple #[.agg #[.J (((kdOf l):Nat):Int),.slice a8 ((ndCs l (mnS l 8)).length) c8,.J ((rdN l 4 4:Nat):Int)],.bool (decide (OkNd (ndOf l)))],Res.many (vs:=[.agg #[.J (((kdOf l):Nat):Int),.slice a8 ((ndCs l (mnS l 8)).length) c8,.J ((rdN l 4 4:Nat):Int)],.bool (decide (OkNd (ndOf l)))]) rfl ⟨⟨_,rfl,load_ag T.ag116 ok.m0 T.sz116⟩,rfl,trivial⟩ rfl,(by
     by_cases ho:OkNd (ndOf l)
     ·exact .inl ⟨⟨hSd,hd0,ho⟩,a8,c8,by rw [decide_eq_true ho];rfl,ok.chg,_,(ok.n1).m0,(ok.n1).fresh⟩
     ·exact .inr ⟨fun o=>ho o.n,_,_,_,_,_,by rw [decide_eq_false ho],ok.chg⟩)⟩
   have hi8:i<mnS l 8:=by omega
   have hsc:=hSd.c i hi8;refine .skip<|.seq<|.block fun K3 hK3=>.s<|.z .mvI<|.z .asI<|.nil<|.s<|.z .mvP<|.z .mvI<|.c' 50 .func (scell_any (i:=i) (l:=l) (hd:=8) (ok.n3.n3).locMB (by omega) hSd (by omega)) ?_;rintro _ U9 ⟨ra,rn,rc,rfl,q⟩;have ok:=(ok.n3.n3).lift2 q;obtain rfl:rn=(cllS l 8 i).length:=ok.lenB;refine .z .mvU<|.z .ex<|.z .ex<|.z .asS<|.z .asI<|.nil<|.s<|.z (.fa T.fd116_0)<|.z (.ldx T.ag3 ok.m4)<|.z .mvS<|.c' 57 .func (cldec_any (k:=kdOf l) (RdL.ofCapB (v:=(ra,(cllS l 8 i).length,rc)) (l:=(cllS l 8 i)) ok.m0) (by unfold cllS;simp;omega)) ?_;rintro _ U10 ⟨xa,xc,rfl,q⟩;have ok:=ok.addML q;refine .z .mvU<|.z .ex<|.z .ex<|.a' 12 (.alA T.zr113 ok) ?_;rintro _ U11 ⟨pb3,rfl,ok,xe⟩;refine .ur' (.stW (vs:=[.J ((decK (kdOf l) (cllS l 8 i)).1.key),.J ((decK (kdOf l) (cllS l 8 i)).1.child:Int),.J ((decK (kdOf l) (cllS l 8 i)).1.total:Int),.slice xa ((decK (kdOf l) (cllS l 8 i)).1.loc.length) xc,.J ((decK (kdOf l) (cllS l 8 i)).1.spill:Int)]) T.sz113 ok (oneL rfl)) ?_;rintro U12 ⟨ok,cg⟩;refine .z .asI<|.nil<|.seq<|.s<|.z .mvI<|.z .neq<|.nil<|.cd (fun C3=>?_) (fun C3=>?_)
   ·
    refine .s<|.z (.bd #[.J 0,.N,.J 0] T.zr116 T.pl116 rfl)<|.ur' (.stW (vs:=[.J 0,.N,.J 0]) T.sz116 ok.n7 (oneL rfl)) ?_;rintro U13 ⟨ok,cg⟩;refine .z .asB<|.nil<|.ret ⟨.tuple #[.agg #[.J 0,.N,.J 0],.bool false],Res.many (vs:=[.agg #[.J 0,.N,.J 0],.bool false]) rfl ⟨⟨_,rfl,load_ag T.ag116 ok.m0 T.sz116⟩,rfl,trivial⟩ rfl,.inr ⟨fun o=>C3 (by have h1:okKd (kdOf l)=true:=o.n.k;unfold decK;rw [if_pos h1,o.c i hi8];rfl),_,_,_,_,_,rfl,ok.chg⟩⟩
   have hdk:(decK (kdOf l) (cllS l 8 i)).2=0:=by omega
   have hkd:okKd (kdOf l)=true:=by
    cases hq:okKd (kdOf l)
    ·rw [decK_1 hq] at hdk;cases hdk
    ·rfl
   have hde:(decK (kdOf l) (cllS l 8 i))=decCl (kdOf l) (cllS l 8 i):=if_pos hkd;have hkk : -9223372036854775808<=(decK (kdOf l) (cllS l 8 i)).1.key/\(decK (kdOf l) (cllS l 8 i)).1.key<=9223372036854775807:=by rw [hde];exact decCl_key
   refine .skip<|.r<|.z (.fa T.fd116_1)<|.z (.ldx T.ag114 ok.m6)<|.z (.ldb T.ag113 ok.m0 T.sz113)<|.a' 66 (.lit [.tmp 65] (cs:=[.J ((decK (kdOf l) (cllS l 8 i)).1.key),.J ((decK (kdOf l) (cllS l 8 i)).1.child:Int),.J ((decK (kdOf l) (cllS l 8 i)).1.total:Int),.slice xa ((decK (kdOf l) (cllS l 8 i)).1.loc.length) xc,.J ((decK (kdOf l) (cllS l 8 i)).1.spill:Int)]) T.el114 T.sz113 T.zr113 ok ⟨rfl,trivial⟩) ?_;rintro _ U14 ⟨pb4,rfl,ok,xe⟩;refine .a' 67 (.appA (decK (kdOf l) (cllS l 8 i)).1 T.el114 T.sz113 T.by113 T.zr113 (ok.n2.n6) ((ok.n2.n6.m2).sl) (Cel.rd_cap (ok.n2.n6).m1 hkk) (by rw [ndCs_len];omega)) ?_;rintro _ U15 ⟨a9,n9,c9,rfl,ok⟩;rw [hde,<-ndCs_s] at ok;refine .z (.fa T.fd116_1)<|.ur' (.stS T.sz114 ok.n6) ?_;rintro U16 ⟨ok,cg⟩;refine .nil ?_;refine .end<|hK3 _ _<|.r<|.z (.addI (b:=1))<|.z .mvI<|.nil<|.end<|hJ1 _ _ _ ⟨i+1,a9,n9,c9,_,⟨rfl,rfl,rfl,rfl,rfl,trivial⟩,(ok.n7.n7.n7.n3.n4).k5,by omega,fun j hj=>by
    rcases Nat.lt_or_eq_of_le (Nat.le_of_lt_succ hj) with h | h
    ·exact hd0 j h
    ·rw [h,<-hde];exact hdk,rfl⟩ (by omega)
  have hil:i<((l.drop 4).take 4).length:=by omega
  have hb3:beN (((l.drop 4).take 4).take i)<16777216:=kP (beN_lt _) (kN (pow256 (show _<=3 by rw [qJ];omega)) (by decide));have hx8:=((l.drop 4).take 4)[i].toNat_lt;refine .skip<|.seq<|.block fun K1 hK1=>.s<|?_;obtain ⟨bb2,oo2,rfl,fb2⟩:=ok.r0.pos (by omega);refine .z (.ix1 i T.el35 T.sz5)<|.z (.ld T.ag5 (ok.r0.u8 (i:=i) (by omega)))<|.z .asI<|.nil<|.r<|.z (.fa T.fd116_2)<|.z (.ldx T.ag3 ok.m0)<|.z (.shl8 (beN (((l.drop 4).take 4).take i)) 8 (by omega) (by omega))<|.z .mvI<|.z (.cvi T.in3 T.in5)<|.z (.orI ((beN (((l.drop 4).take 4).take i))*2 ^ 8) ((l.drop 4).take 4)[i].toNat (by omega) (by omega))<|?_;rw [show ((beN (((l.drop 4).take 4).take i))*2 ^ 8 ||| ((l.drop 4).take 4)[i].toNat)=(beN (((l.drop 4).take 4).take (i+1))) from (by rw [or_256 hx8,beN_take hil])];refine .z (.fa T.fd116_2)<|.ur' (.stI T.sz3 ok) ?_;rintro U17 ⟨ok,cg⟩;refine .nil ?_;refine .end<|hK1 _ _<|.r<|.z (.addI (b:=1))<|.z .mvI<|.nil<|.end<|hJ0 _ _ _ ⟨i+1,⟨rfl,rfl,rfl,rfl,rfl,rfl,trivial⟩,(ok).k4,by omega,rfl⟩ (by omega)
 have ok:=ok.ext hx;refine .z .mvU<|.z .ex<|.z .ex<|.z .asP<|.z .asI<|.nil<|.seq<|.s<|.z .mvI<|.z .neq<|.nil<|.ct<|.s<|.z (.bd #[.J 0,.N,.J 0] T.zr116 T.pl116 rfl)<|.ur' (.stW (vs:=[.J 0,.N,.J 0]) T.sz116 ok (oneL rfl)) ?_;rintro U18 ⟨ok,cg⟩;refine .z .asB<|.nil<|.ret ⟨.tuple #[.agg #[.J 0,.N,.J 0],.bool false],Res.many (vs:=[.agg #[.J 0,.N,.J 0],.bool false]) rfl ⟨⟨_,rfl,load_ag T.ag116 ok.m0 T.sz116⟩,rfl,trivial⟩ rfl,.inr ⟨fun o=>hSd o.s,_,_,_,_,_,rfl,ok.chg⟩⟩
section
variable {h:Heap} {F E:Nat->Prop} {c:Nat} {a:Option Addr}
theorem ndencF_any {z k rt:Nat} {l:List Cel} (hl:RdL h F E (a,l.length,c) l) (ho:OkNd (⟨k,l,rt⟩:Nod)) (hf:¬FitNd (⟨k,l,rt⟩:Nod) z) (hz:okSz z=true) (hN:l.length<=100000) :
  Hc 121 #[.agg #[.J (k:Int),.slice a l.length c,.J (rt:Int)],.J (z:Int)] h (fun v h'=>v=.tuple #[.N,.J 5]/\Ext h h'):=by
 have ok:=(Hp.nil h none_).arg hl;have hlm:=hl.m;have hlc:=hl.c;simp only at hlm hlc;have hzc:z=256\/z=512\/z=1024\/z=2048\/z=4096:=by simpa [okSz,or_assoc] using hz
 refine HC.go Tryz.func121 86 ?_;refine .s<|.a' 2 (.bxA (cs:=[.J (k:Int),.slice a l.length c,.J (rt:Int)]) ok) ?_;rintro _ U1 ⟨pb1,rfl,ok,xe⟩;refine .z .asS<|.z .asI<|.nil<|.seq<|.block fun K0 hK0=>.s<|.z .mvI<|.k 16 .func (ndsize_any (n:=z) (by omega))<|?_;rw [hz];refine .z .not<|.z .mvB<|.z (.ldb T.ag116 ok.m0 T.sz116)<|.c' 20 .func (ndright_any (k:=k) (rt:=rt) (a:=a) (c:=c) (l:=l) ok.r0) ?_;rintro _ U2 ⟨rfl,hx⟩;have ok:=ok.ext hx;rw [decide_eq_true ho];refine .z .not<|.z .pkf<|.z .asB<|.nil<|.cf<|.s<|.z (.ldb T.ag116 ok.m0 T.sz116)<|.z .mvI<|.c' 26 .func (ndfits_any (k:=k) (rt:=rt) (z:=z) (a:=a) (c:=c) (l:=l) ok.r0 ho.c hN (by omega)) ?_;rintro _ U3 ⟨rfl,hx⟩;have ok:=ok.ext hx;rw [decide_eq_false hf];refine .z .not<|.z .asB<|.nil<|.ct<|.s<|.z .asS<|.z .asI<|.nil<|.ret ⟨.tuple #[.N,.J 5],Res.two rfl rfl rfl,⟨rfl,ok.chg⟩⟩
theorem ndencA_any {z k rt:Nat} {l:List Cel} (hl:RdL h F E (a,l.length,c) l) (ho:OkNd (⟨k,l,rt⟩:Nod)) (hz:okSz z=true) (hN:l.length<=100000) :
  Hc 121 #[.agg #[.J (k:Int),.slice a l.length c,.J (rt:Int)],.J (z:Int)] h (fun v h'=>(FitNd (⟨k,l,rt⟩:Nod) z/\∃x c2,v=.tuple #[.slice x (encNd (⟨k,l,rt⟩:Nod) z).length c2,.J 0]/\Own h h' 1 5 (.slice x (encNd (⟨k,l,rt⟩:Nod) z).length c2) ((encNd (⟨k,l,rt⟩:Nod) z).map bv))\/(¬FitNd (⟨k,l,rt⟩:Nod) z/\v=.tuple #[.N,.J 5]/\Ext h h')):=by
 by_cases hf:FitNd (⟨k,l,rt⟩:Nod) z
 ·refine (ndenc_any hl ho hf hz hN).mono ?_;rintro _ h' ⟨w,rfl,o⟩;obtain ⟨x,n,c2,rfl⟩:=o.form3;obtain rfl:n=_:=o.cap.lenB;exact .inl ⟨hf,x,c2,rfl,o⟩
 ·refine (ndencF_any hl ho hf hz hN).mono ?_;rintro _ h' ⟨rfl,e⟩;exact .inr ⟨hf,rfl,e⟩
theorem ndOf_len {l:List UInt8} : (ndOf l).cells.length=mnS l 8:=by simp [ndOf]
theorem nddec_any {l:List UInt8} (hl:RdL h F E (a,l.length,c) l) (hz:okSz l.length=true) :
  Hc 116 #[.slice a l.length c] h (fun v h'=>(∃n x c2,decNd l=some n/\v=.tuple #[.agg #[.J (n.kind:Int),.slice x n.cells.length c2,.J (n.right:Int)],.J 0]/\Ext h h'/\OwnC h h' x n.cells.length c2 n.cells)\/(decNd l=none/\v=.tuple #[.agg #[.J 0,.N,.J 0],.J 14]/\Ext h h')):=by
 have ok:=(Hp.nil h none_).arg hl;have hlm:=hl.m;have hlc:=hl.c;simp only at hlm hlc;have hzc:l.length=256\/l.length=512\/l.length=1024\/l.length=2048\/l.length=4096:=by simpa [okSz,or_assoc] using hz
 refine HC.go Tryz.func116 38 ?_;refine .s<|.a' 2 (.alA T.zr116 ok) ?_;rintro _ U1 ⟨pb1,rfl,ok,xe⟩;refine .z .asI<|.nil<|.seq<|.s<|.z .mvS<|.z (.len T.el35)<|.k 10 .func (ndsize_any (n:=l.length) (by omega))<|?_;rw [hz];refine .z .not<|.nil<|.cf<|.skip<|.s<|.z .mvS<|.c' 15 .func (ndread_any ok.r0 (by omega)) ?_;rintro _ U2 (⟨hRd,xn1,cn1,rfl,hx,ocn1⟩ | ⟨hRd,g1,xn1,nn1,cn1,g2,rfl,hx⟩)
 ·
  obtain ⟨En1,ok⟩:=ok.ownC hx ocn1;refine .z .mvU<|.z .ex<|.z .ex<|.a' 4 (.alA T.zr116 ok) ?_;rintro _ U3 ⟨pb2,rfl,ok,xe⟩;refine .ur' (.stW (vs:=[.J ((kdOf l:Nat):Int),.slice xn1 ((ndOf l).cells.length) cn1,.J ((ndOf l).right:Int)]) T.sz116 ok (oneL rfl)) ?_;rintro U4 ⟨ok,cg⟩;refine .z .asB<|.nil<|.seq<|.s<|.z .mvB<|.z .not<|.nil<|.cf<|.skip<|.s<|.z (.ldb T.ag116 ok.m0 T.sz116)<|.z .mvS<|.z (.len T.el35)<|.c' 25 .func (ndencA_any (k:=kdOf l) (rt:=(ndOf l).right) (l:=(ndOf l).cells) (z:=l.length) (ok.n1).m0.rd hRd.n hz (by rw [ndOf_len];have:=mnS_lt l 8;omega)) ?_;rintro _ U5 (⟨hFt,xe,ce,rfl,o⟩ | ⟨hFt,rfl,hx⟩)
  ·
   have ok:=ok.own o;refine .z .mvU<|.z .ex<|.z .ex<|.z .asS<|.z .asI<|.nil<|.seq<|.s<|.z .mvI<|.z .neq<|.z .mvB<|.z .mvS<|.z .mvS<|.k 33 .func (equal_any (a:=xe) (c:=ce) (l:=(encNd (ndOf l) l.length)) (b:=a) (d:=c) (l2:=l) (RdL.ofCapB (v:=(xe,(encNd (ndOf l) l.length).length,ce)) (l:=(encNd (ndOf l) l.length)) ok.m0) ok.r0)<|.z .notd<|.z .pkf<|.nil<|.cd (fun C2=>?_) (fun C2=>?_)
   ·
    refine .s<|.z (.bd #[.J 0,.N,.J 0] T.zr116 T.pl116 rfl)<|.ur' (.stW (vs:=[.J 0,.N,.J 0]) T.sz116 ok.n3 (oneL rfl)) ?_;rintro U6 ⟨ok,cg⟩;refine .z .asI<|.nil<|.ret ⟨.tuple #[.agg #[.J 0,.N,.J 0],.J 14],Res.many (vs:=[.agg #[.J 0,.N,.J 0],.J 14]) rfl ⟨⟨_,rfl,load_ag T.ag116 ok.m0 T.sz116⟩,rfl,trivial⟩ rfl,.inr ⟨if_neg fun o=>by first | exact hFt o.2.1 | (simp [o.2.2] at *),rfl,ok.chg⟩⟩
   refine .skip<|.s<|.z (.ldb T.ag116 ok.m1 T.sz116)<|.ur' (.stW (vs:=[.J ((kdOf l:Nat):Int),.slice xn1 ((ndOf l).cells.length) cn1,.J ((ndOf l).right:Int)]) T.sz116 ok.n3 (oneL rfl)) ?_;rintro U7 ⟨ok,cg⟩;refine .z .asI<|.nil<|.ret ⟨.tuple #[.agg #[.J ((kdOf l:Nat):Int),.slice xn1 ((ndOf l).cells.length) cn1,.J ((ndOf l).right:Int)],.J 0],Res.many (vs:=[.agg #[.J ((kdOf l:Nat):Int),.slice xn1 ((ndOf l).cells.length) cn1,.J ((ndOf l).right:Int)],.J 0]) rfl ⟨⟨_,rfl,load_ag T.ag116 ok.m0 T.sz116⟩,rfl,trivial⟩ rfl,.inl ⟨ndOf l,_,_,if_pos ⟨hRd,hFt,by simpa using C2⟩,rfl,ok.chg,_,(ok.n3).m0,(ok.n3).fresh⟩⟩
  have ok:=ok.ext hx;refine .z .mvU<|.z .ex<|.z .ex<|.z .asS<|.z .asI<|.nil<|.seq<|.s<|.z .mvI<|.z .neq<|.z .mvB<|.y<|.y<|.y<|.y<|.z .pkt<|.nil<|.ct<|.s<|.z (.bd #[.J 0,.N,.J 0] T.zr116 T.pl116 rfl)<|.ur' (.stW (vs:=[.J 0,.N,.J 0]) T.sz116 ok.n2 (oneL rfl)) ?_;rintro U8 ⟨ok,cg⟩;refine .z .asI<|.nil<|.ret ⟨.tuple #[.agg #[.J 0,.N,.J 0],.J 14],Res.many (vs:=[.agg #[.J 0,.N,.J 0],.J 14]) rfl ⟨⟨_,rfl,load_ag T.ag116 ok.m0 T.sz116⟩,rfl,trivial⟩ rfl,.inr ⟨if_neg fun o=>by first | exact hFt o.2.1 | (simp [o.2.2] at *),rfl,ok.chg⟩⟩
 have ok:=ok.ext hx;refine .z .mvU<|.z .ex<|.z .ex<|.a' 4 (.alA T.zr116 ok) ?_;rintro _ U9 ⟨pb3,rfl,ok,xe⟩;refine .ur' (.stW (vs:=[.J g1,.slice xn1 nn1 cn1,.J g2]) T.sz116 ok (oneL rfl)) ?_;rintro U10 ⟨ok,cg⟩;refine .z .asB<|.nil<|.seq<|.s<|.z .mvB<|.z .not<|.nil<|.ct<|.s<|.z (.bd #[.J 0,.N,.J 0] T.zr116 T.pl116 rfl)<|.ur' (.stW (vs:=[.J 0,.N,.J 0]) T.sz116 ok.n1 (oneL rfl)) ?_;rintro U11 ⟨ok,cg⟩;refine .z .asI<|.nil<|.ret ⟨.tuple #[.agg #[.J 0,.N,.J 0],.J 14],Res.many (vs:=[.agg #[.J 0,.N,.J 0],.J 14]) rfl ⟨⟨_,rfl,load_ag T.ag116 ok.m0 T.sz116⟩,rfl,trivial⟩ rfl,.inr ⟨if_neg fun o=>hRd o.1,rfl,ok.chg⟩⟩
end
end Go.Proofs.YtfegfklipbnhjaaGreat
namespace Go.HL
open Go
theorem vSl {h:Heap} {k m vb:Nat} {e:TypeId} {ys:List Value} (hb:h[vb]? = some (.cells ys.toArray e (0,0))) (hl:ys.length=m*k) (hm:m<=1000000):Sl h k (.slice (some ⟨vb,0,none⟩) m m) ys:=by
 have:=(Cap.new (k:=k) (n:=m) hb (by simpa using hl) (by omega)).sl;simpa using this
end Go.HL
namespace Go.Proofs.YtfegfklipbnhjaaGreat
open Go Go.HL
theorem insC_any {h:Heap} {D:Nat->Prop} {a:Option Addr} {n c i m vb:Nat} {xs ys:List Value} (ok:Hp h D [capI 5 113 (a,n,c) xs] [boxI vb 113 ys] h) (hym:ys.length=m*5) (h1m:1<=m) (hi:i<=n) (hx1:∀u∈xs,u.oneCell'=true) (hy1:∀u∈ys,u.oneCell'=true) (hN:n+m<=1000000) :
  Hc 62 #[.slice a n c,.J (i:Int),.slice (some ⟨vb,0,none⟩) m m] h (fun v h'=>∃a' c',v=.slice a' (n+m) c'/\Hp h D [capI 5 113 (a',n+m,c') (xs.take (i*5)++ys++xs.drop (i*5))] [] h'):=by
 have hxl:xs.length=n*5:=by have:=(Cap.sl ok.m0).cells.1;simpa using this
 have hnc:n<=c:=Cap.le ok.m0;have hcm:c<=9223372036854775807:=Cap.bd ok.m0;have hmm:m<=1000000:=by omega
 have hne:∀ {b o},a=some ⟨b,o,none⟩->vb≠b:=fun e1 e2=>by subst e1 e2;exact ok.mr _ qX _ qX vb ⟨_,_,_,rfl⟩ rfl
 refine HC.go Tryz.func62 95 ?_;refine .s<|.z .asS<|.nil<|.s<|.z .mvS<|.z .mvI<|.z (.sll i T.el114 T.sz113)<|.nil<|.s<|.z .mvS<|.z (.len T.el114)<|.z .asI<|.nil<|.seq<|.s<|.z .mvI<|.z .eql<|.nil<|.cd (fun C0=>?_) (fun C0=>?_)
 ·
  omega
 refine .skip<|.s<|.z .mvS<|.z (.len T.el114)<|.z .asI<|.nil<|.seq<|.s<|.z .mvI<|.z .mvI<|.z .eql<|.nil<|.cd (fun C1=>?_) (fun C1=>?_)
 ·
  refine .s<|.z .mvS<|.z .mvS<|.a' 25 (.appG (m:=m) T.el114 T.sz113 T.by113 T.zr113 ok (qR _) (vSl (ok).r0 hym hmm) hy1 hym (by decide) (by omega) rfl rfl) ?_;rintro _ U1 ⟨a2,c2,rfl,_,ok⟩;rw [qY (by omega),ins_end hxl hym hi (by omega)] at ok;refine .z .asS<|.nil<|.ret ⟨.slice a2 (n+m) c2,Res.one rfl rfl,⟨a2,c2,rfl,ok.e0⟩⟩
 refine .skip<|.seq<|.s<|.z .mvI<|.z .mvI<|.z .addI<|.z .mvS<|.z (.cap T.el114)<|.z .gtr<|.nil<|.cd (fun C2=>?_) (fun C2=>?_)
 ·
  refine .s<|.z .mvS<|.z .mvI<|.z (.sl_h i T.el114 T.sz113)<|.z .mvI<|.z .mvI<|.z .addI<|.z .mvI<|.z .sub<|.a' 40 (.apm (n+m-i) T.el114 T.in3 T.sz113 T.by113 T.zr113 ok rfl rfl (by omega) hi (by omega) (by omega) (by omega)) ?_;rintro _ U2 ⟨b2,c2,zs,rfl,hzs,ok⟩;refine .z .asS<|.nil<|.s<|.z .mvS<|.z .mvI<|.z (.sll i T.el114 T.sz113)<|.z .mvS<|.a' 45 (.cpG (m:=m) (i) T.el114 T.sz113 ok (vSl (ok).r0 hym hmm) (fun u hu=>hy1 u (qC hu)) rfl) ?_;rintro _ U3 ⟨rfl,ok,_⟩;refine .nil ?_;refine .seq<|.t 8 mixed ?_;simp only [kZ,kM,kH,kY];refine .z .mvS<|.z .mvI<|.z .mvI<|.z .addI<|.z (.sll (i+m) T.el114 T.sz113)<|.z .mvS<|.z .mvI<|.z (.sll i T.el114 T.sz113)<|.nil ?_;refine .a' 54 (.cpG (m:=n-i) (i+m) T.el114 T.sz113 ok (Cap.cutS (n:=n) (c:=c) (ok.m1) hi) (fun u hu=>hx1 u (kQ (qC hu))) rfl) ?_;rintro _ U4 ⟨rfl,ok,_⟩;rw [ins_grow hxl hym hi hzs,show i+(n+m-i)=n+m by omega] at ok;refine .nil ?_;refine .s<|.z .mvS<|.z .asS<|.nil<|.ret ⟨.slice (some ⟨b2,0,none⟩) (i+(n+m-i)) c2,Res.one rfl rfl,⟨_,c2,by rw [show i+(n+m-i)=n+m by omega],ok.k1.e0⟩⟩
 obtain ⟨zs,hzs,ok⟩:=ok.upR (m:=n+m) (by omega) (by omega);have hab:∃b o,a=some ⟨b,o,none⟩:=by
  obtain ⟨b,o,e,_⟩:=Cap.pos (n:=n+m) ok.m0 (by omega);exact ⟨b,o,e⟩
 obtain ⟨ab,ao,rfl⟩:=hab;refine .skip<|.s<|.z .mvS<|.z .mvI<|.z .mvI<|.z .addI<|.z (.sl_h (n+m) T.el114 T.sz113)<|.z .asS<|.nil<|.seq<|.s<|.z .mvS<|.z .mvS<|.z .mvI<|.z .mvI<|.z .addI<|.z (.sll (i+m) T.el114 T.sz113)<|?_;obtain ⟨csB,fzB,hB,hob,hfB⟩:=Cap.at0 (n:=n+m) ok.m0 (by omega) (by omega:i+m<n+m);refine .a' 67 (.ovl (tS:=114) (tR:=4) Tryz.func106 rfl (by decide) rfl rfl T.el114 T.sz113 ok ok.r0 (by simpa using (by omega:0<ys.length)) (fzOk_zero _) hB hob hfB (.inl rfl) (hne rfl) rfl rfl rfl (cutA_some (by omega))) ?_;rintro _ U5 ⟨rfl,ok⟩;refine .z .not<|.nil<|.ct<|.seq<|.t 8 mixed ?_;simp only [kZ,kM,kH,kY];refine .z .mvS<|.z .mvI<|.z .mvI<|.z .addI<|.z (.sll (i+m) T.el114 T.sz113)<|.z .mvS<|.z .mvI<|.z (.sll i T.el114 T.sz113)<|.nil ?_;refine .a' 77 (.cpG (m:=n-i) (i+m) T.el114 T.sz113 ok (Cap.cutS (n:=n+m) (c:=c) (ok.m0) (by omega:i<=n+m)) (fun u hu=>by rw [ins_cut hxl hi] at hu;exact hx1 u (kQ hu)) rfl) ?_;rintro _ U6 ⟨rfl,ok,_⟩;refine .nil ?_;refine .s<|.z .mvS<|.z .mvI<|.z (.sll i T.el114 T.sz113)<|.z .mvS<|.a' 82 (.cpG (m:=m) (i) T.el114 T.sz113 ok (vSl (ok).r0 hym hmm) (fun u hu=>hy1 u (qC hu)) rfl) ?_;rintro _ U7 ⟨rfl,ok,_⟩;rw [ins_shift hxl hym hi (by rw [hzs];congr 1;omega)] at ok;refine .nil ?_;refine .s<|.z .mvS<|.z .asS<|.nil<|.ret ⟨.slice (some ⟨ab,ao,none⟩) (n+m) c,Res.one rfl rfl,⟨_,c,rfl,ok.e0⟩⟩
end Go.Proofs.YtfegfklipbnhjaaGreat
