/- The pager that keeps a journal and the document's, in plain terms: each call keeps them alike and tells the same, or the power goes; opening. Conditions: those that each fact names. A call of the laws keeps the two pagers alike, in plain terms, or the power goes; little pagers stay little. Conditions: those that each fact names. A disk's copy. Conditions: the disk is in order, its changes few, the bytes readable. A pager with its disk laid open; a disk's copy is opened; the calls told by the document's. Conditions: those that each fact names. Opening a new disk, and a disk that a pager leaves; a head that was encoded; the chapter's examples, in plain terms. Conditions: those that each fact names. The chapter's examples on the pager that keeps a journal. Conditions: none. What a pager that keeps a journal leaves wherever the power goes, for the law on power; its disk is cut. Conditions: those that each fact names. The pages of a file, or what is wrong with it, in plain terms: the document's answer. Conditions: those that each fact names. A file that is laid on a disk, in plain terms. Conditions: those that each fact names. What opening any files comes to, in plain terms: the document's answer and the program's. Conditions: those that each fact names. Pages that are read, as rows of bytes. Conditions: none. The document's pages of a file. Conditions: the bytes are readable, and few. The document's Scan of a journal. Conditions: the bytes are readable. copy of a slice that may be longer than what it is copied to. Conditions: the target is one's own. The document's answer to opening any files of layer 13. Conditions: the bytes are readable, and few. make of a slice whose length is a number of any kind. Conditions: it is short. The law BackOpens: what any files are when they are opened. Conditions: the bytes are readable. How a law whose call returns true and turns nothing old closes its row. Conditions: those that each fact names. -/
import Derived.Test.YtpeaicddbnghfaaGreatPkC8
import Derived.ProofKit
import Derived.OpenShut
import Derived.Below
import Derived.Carry
import Derived.Deep.Slices
set_option maxRecDepth 100000
set_option maxHeartbeats 2000000
set_option linter.all false
namespace Go.Proofs.YtpeaicddbnghfaaGreat
open Go Go.HL
structure Sn (A B:Bk):Prop where
 size:B.size=A.size
 in_:B.in_=A.in_
theorem Sn.refl (A:Bk):Sn A A:=⟨rfl,rfl⟩
theorem Sn.end {A:Bk} {a:Bk × Nat} (h:Sn A a.1):Sn A (endB a).1:=by unfold endB;split;exact ⟨h.1,h.2⟩;exact h
theorem put_sn {A:Bk} {no:Nat} {b:List UInt8} {d:Bool} : Sn A (putB A no b d).1:=let h:=flush_sm (A:={ A with L:=putL A.room no b d A.L }) (l:=putA A.room no b d A.L);⟨h.size,h.in_⟩
theorem read_sn {A:Bk} {no:Int} : Sn A (readB A no).1:=by
 unfold readB;split
 ·exact .refl A
 ·split
  ·exact .refl A
  ·refine Sn.end ?_;split
   ·exact ⟨rfl,rfl⟩
   ·have h:=put_sn (A:=(getB A no.toNat).1) (no:=no.toNat) (b:=(getB A no.toNat).2.1) (d:=false);exact ⟨h.1,h.2⟩
theorem write_sn {A:Bk} {no:Int} {b:List UInt8} : Sn A (writeB A no b).1:=by
 unfold writeB;split
 ·exact .refl A
 ·split
  ·exact .refl A
  ·split
   ·exact .refl A
   ·refine Sn.end ?_;split
    ·exact ⟨rfl,rfl⟩
    ·have h:=put_sn (A:=(getB A no.toNat).1) (no:=no.toNat) (b:=b) (d:=true);exact ⟨h.1,h.2⟩
theorem done_in {A:Bk} {a:Bk × Nat} (h:(endB (thenB a fun B=>(doneB B,0))).2=0) (hs:a.1.size=A.size):(endB (thenB a fun B=>(doneB B,0))).1.in_=false∧(endB (thenB a fun B=>(doneB B,0))).1.size=A.size:=by
 by_cases h0:a.2=0
 ·rw [thenB_0 h0];exact ⟨rfl,hs⟩
 ·rw [thenB_e h0] at h;unfold endB at h;split at h
  ·cases h
  ·exact absurd h h0
theorem commit_in {A:Bk} {s P:List (List UInt8)} (R:Rl A s P) (hi:A.in_=true) (h:(commitB A).2=0):(commitB A).1.in_=false∧(commitB A).1.size=A.size:=by
 revert h;unfold commitB;rw [if_neg (by rw [R.br];decide),if_neg (by rw [hi];decide)];by_cases hn:A.now=0
 ·rw [if_pos hn];exact fun h=>done_in h (lay_in R).size
 ·rw [if_neg hn];have hp:=R.pres;unfold presB at hp;rw [if_pos hi] at hp;have hg:=R.get (no:=1) (by omega) (by omega);simp only;intro h;split at h
  ·rename_i h1;exact absurd (by rw [hg.1]) h1
  ·rename_i h1;rw [if_neg h1];split at h
   ·cases h
   ·rename_i h2;rw [if_neg h2];exact done_in h ((lay_in hg.2).size.trans rfl)
theorem rollback_in {A:Bk} (hb:A.broken=false) (hi:A.in_=true) (h:(rollbackB A).2=0):(rollbackB A).1.in_=false∧(rollbackB A).1.size=A.size:=by
 revert h;unfold rollbackB;rw [if_neg (by rw [hb];decide),if_neg (by rw [hi];decide)];split
 ·rename_i h1;intro h;unfold endB at h;split at h
  ·cases h
  ·exact absurd h h1.2
 ·exact fun _=>⟨rfl,rfl⟩
section
variable {A:Bk} {s P:List (List UInt8)}
theorem opened_rl {d:Dk} {z:Nat} {room:Int} (c:CleanB s d) (k:DkOk d) (pg:PgOk z s) (hm:s.length≤mostB z) (hr:1≤room∧room≤1048576):Rl (openedB d z room (s.length*z)) s s:=
 rest_rl c k pg hm rfl rfl rfl rfl rfl rfl rfl (by show s.length*z / z=s.length;have:=(okSz_b pg.sz).1;exact Nat.mul_div_cancel _ (by omega)) rfl rfl List.nodup_nil ⟨hr.1,hr.2,by show (([]:List AP).length:Int)≤room;simp;omega⟩ (by show ∀x∈([]:List AP),_;simp)
theorem opn_of {d:Dk} {z:Nat} {room:Int} (hd:d.dark=false) (hh:Res d (healB d) (CleanB s) (GdBD z s)) (pg:PgOk z s) (hm:s.length≤mostB z) (hr:1≤room∧room≤1048576) :
  (openB d z room=((healB d).1,s.length*z,0)∧(d.left<0→(healB d).1.left<0)∧CleanB s (healB d).1)∨(openB d z room=((healB d).1,0,13)∧(healB d).1.dark=true∧0≤d.left∧GdBD z s (healB d).1):=by
 have h1:okZ (z:Int)=true:=by rw [okZ_nat];exact pg.sz
 unfold openB;rw [if_neg (by rw [h1];decide),if_neg (by omega),if_neg (by rw [hd];decide)];rcases hh with ⟨e,hd2,hl,c⟩ | ⟨e,hd2,hl,c⟩
 ·rw [if_neg (by omega),Int.toNat_natCast,blook_own pg hm c];exact .inl ⟨rfl,hl,c⟩
 ·rw [if_pos (by omega),e];exact .inr ⟨rfl,hd2,hl,c⟩
end
theorem newB_clean:CleanB [] newN:=⟨none,⟨rfl,rfl,rfl,rfl⟩,rfl⟩
theorem openB_new {z:Nat} {room:Int} (hz:okSz z=true) (hr:1≤room∧room≤1048576):openB newN (z:Int) room=(newN,0,0)∧Rl (openedB newN z room 0) [] []:=by
 have pg:PgOk z []:=⟨hz,by simp,by simp,by simp⟩;have hh:healB newN=(newN,0):=by
  have h1:¬((sizeN newN nM).2=true∧0<(sizeN newN nM).1):=by rw [show sizeN newN nM=(0,false) from rfl];simp
  have g:∀n,nOk n→goneN newN n=(newN,0):=fun n hn=>by
   have h:=remove_no (d:=newN) (n:=n) rfl hn rfl;unfold goneN;rw [h];rfl
  rw [heal_no h1,if_neg (by decide)];unfold overB;rw [g _ nM_ok,thenN_0 rfl];exact g _ nJ_ok
 have hl:lookB newN z=(0,0):=by unfold lookB;rw [if_pos (.inl rfl)]
 refine ⟨?_,?_⟩
 ·unfold openB;have h1:okZ (z:Int)=true:=by rw [okZ_nat];exact hz
  rw [if_neg (by rw [h1];decide),if_neg (by omega),if_neg (by decide),hh,if_neg (by simp),Int.toNat_natCast,hl]
 ·have:=opened_rl (s:=[]) (d:=newN) (room:=room) newB_clean newN_ok pg (by simp) hr;simpa using this
structure RelB (A:Bk) (w:WPg):Prop where
 br:A.broken=false
 in_:A.in_=w.in_
 z:A.size=w.z
 no:w.in_=false→w.now=[]
 R:Rl A w.sure w.pages
structure FailB (A A':Bk) (G:Dk→Prop):Prop where
 br:A'.broken=true
 dd:A'.dk.dark=true
 left:0≤A.dk.left
 gd:G A'.dk
theorem relB_new {z:Nat} {room:Int} {fr:Nat} (hz:okSz z=true) (hr:1≤room∧room≤1048576):RelB (openedB newN z room 0) ⟨z,[],[],false,fr⟩:=⟨rfl,rfl,rfl,fun _=>rfl,(openB_new hz hr).2⟩
section
variable {A:Bk} {w:WPg} (R:RelB A w)
include R
theorem RelB.pages:(if A.broken=true then 0 else presB A)=w.pages.length:=by rw [if_neg (by rw [R.br];decide)];exact R.R.pres
theorem RelB.begin':(beginB A).2=(beginP w).2∧RelB (beginB A).1 (beginP w).1:=by
 by_cases hi:w.in_=true
 ·have e:beginB A=(A,10):=by unfold beginB;rw [if_neg (by rw [R.br];decide),if_pos (R.in_.trans hi)]
  rw [e,beginP_1 hi];exact ⟨rfl,R⟩
 ·obtain ⟨e,R2⟩:=R.R.begin (R.in_.trans (by simpa using hi));rw [e,beginP_2 hi];exact ⟨rfl,R2.br,rfl,R.z,fun h=>(by cases h),R2⟩
theorem RelB.now (hi:w.in_=true):A.now=w.now.length∧w.pages=w.now:=by
 have hp:=R.R.pres;have e:w.pages=w.now:=if_pos hi;unfold presB at hp;rw [if_pos (R.in_.trans hi),e] at hp;exact ⟨hp,e⟩
theorem RelB.resize {n:Int} : (resizeB A n).2=(resizeQ w n).2∧RelB (resizeB A n).1 (resizeQ w n).1:=by
 by_cases hi:w.in_=false
 ·have e:resizeB A n=(A,10):=by unfold resizeB;rw [if_neg (by rw [R.br];decide),if_pos (R.in_.trans hi)]
  rw [e,resizeQ_1 hi];exact ⟨rfl,R⟩
 have hi':w.in_=true:=by simpa using hi
 have hA:¬A.in_=false:=by rw [R.in_];exact hi
 by_cases h0:n<0
 ·have e:resizeB A n=(A,1):=by unfold resizeB;rw [if_neg (by rw [R.br];decide),if_neg hA,if_pos h0]
  rw [e,resizeQ_2 hi h0];exact ⟨rfl,R⟩
 by_cases h1:1048576<n∨((mostB w.z:Nat):Int)<n
 ·have e:resizeB A n=(A,5):=by unfold resizeB;rw [if_neg (by rw [R.br];decide),if_neg hA,if_neg h0,if_pos (by rw [R.z];exact h1)]
  rw [e,resizeQ_3 hi h0 h1];exact ⟨rfl,R⟩
 ·obtain ⟨n,rfl⟩:∃m:Nat,n=(m:Int):=⟨n.toNat,by omega⟩;have R2:=R.R.resize (R.in_.trans hi') (n:=n) (by omega) (by rw [R.z];omega);have e:resizeB A (n:Int)=({ A with L:=A.L.filter fun x=>decide (x.no≤(n:Int)),now:=n,valid:=min A.valid n },0):=by
   unfold resizeB;rw [if_neg (by rw [R.br];decide),if_neg hA,if_neg h0,if_neg (by rw [R.z];exact h1)];rfl
  rw [e,resizeQ_4 hi h0 h1];rw [(R.now hi').2] at R2;refine ⟨rfl,R.br,R.in_,R.z,fun h=>absurd h hi,?_⟩;have e2:WPg.pages { w with now:=growL w.now w.z (n:Int).toNat } = rszP w.now n w.z:=if_pos hi';rw [e2];show Rl _ w.sure (rszP w.now n w.z);rw [←R.z];exact R2
theorem RelB.read {no:Int} : (((readB A no).2=readP w no)∧RelB (readB A no).1 w∧(A.dk.left<0→(readB A no).1.dk.left<0))∨((readB A no).2.2=13∧FailB A (readB A no).1 (GdBD w.z w.sure)):=by
 have hp:=R.R.pres;by_cases h1:no<1∨(w.pages.length:Int)<no
 ·have e:readB A no=(A,[],1):=by unfold readB;rw [if_neg (by rw [R.br];decide),if_pos (by rw [hp];exact h1)]
  rw [e,readP_1 h1];exact .inl ⟨rfl,R,id⟩
 ·obtain ⟨n,rfl⟩:∃m:Nat,no=(m:Int):=⟨no.toNat,by omega⟩;have hr:=R.R.read (no:=n) (by omega) (by omega);have hsn:=read_sn (A:=A) (no:=(n:Int));rw [R.z] at hr;rcases hr with ⟨e,hl,hR,hv⟩ | ⟨e,hb,hd,hl,hg⟩
  ·left;refine ⟨?_,⟨hR.br,hsn.in_.trans R.in_,hsn.size.trans R.z,R.no,hR⟩,hl⟩;rw [readP_2 h1];have e3:(readB A (n:Int)).2=((readB A (n:Int)).2.1,(readB A (n:Int)).2.2):=rfl;rw [e3,hv,show (readB A (n:Int)).2.2=0 from e];congr 2;omega
  ·exact .inr ⟨e,hb,hd,hl,hg⟩
theorem RelB.write {no:Int} {b:List UInt8} : ((writeB A no b).2=(writeP w no b).2∧RelB (writeB A no b).1 (writeP w no b).1∧(A.dk.left<0→(writeB A no b).1.dk.left<0))∨((writeB A no b).2=13∧FailB A (writeB A no b).1 (GdBD w.z w.sure)):=by
 by_cases hi:w.in_=false
 ·have e:writeB A no b=(A,10):=by unfold writeB;rw [if_neg (by rw [R.br];decide),if_pos (R.in_.trans hi)]
  rw [e,writeP_1 hi];exact .inl ⟨rfl,R,id⟩
 have hi':w.in_=true:=by simpa using hi
 obtain ⟨hn,hpg⟩:=R.now hi';have hA:¬A.in_=false:=by rw [R.in_];exact hi
 by_cases h1:no<1∨(w.now.length:Int)<no∨b.length≠w.z
 ·have e:writeB A no b=(A,1):=by unfold writeB;rw [if_neg (by rw [R.br];decide),if_neg hA,if_pos (by rw [hn,R.z];exact h1)]
  rw [e,writeP_2 hi h1];exact .inl ⟨rfl,R,id⟩
 ·obtain ⟨n,rfl⟩:∃m:Nat,no=(m:Int):=⟨no.toNat,by omega⟩;have hr:=R.R.write (R.in_.trans hi') (no:=n) (b:=b) (by omega) (by rw [hpg];omega) (by rw [R.z];omega);have hsn:=write_sn (A:=A) (no:=(n:Int)) (b:=b);rw [R.z] at hr;rw [writeP_3 hi h1];rcases hr with ⟨e,hl,hR⟩ | ⟨e,hb,hd,hl,hg⟩
  ·left;refine ⟨e,⟨hR.br,hsn.in_.trans R.in_,hsn.size.trans R.z,fun h=>absurd h hi,?_⟩,hl⟩;rw [hpg] at hR;have e2:WPg.pages { w with now:=w.now.set ((n:Int)-1).toNat b } = w.now.set (n-1) b:=by
    rw [show ((n:Int)-1).toNat=n-1 by omega];exact if_pos hi'
   rw [e2];exact hR
  ·exact .inr ⟨e,hb,hd,hl,hg⟩
theorem RelB.commit:((commitB A).2=(commitQ w).2∧RelB (commitB A).1 (commitQ w).1∧(A.dk.left<0→(commitB A).1.dk.left<0))∨((commitB A).2=13∧w.in_=true∧FailB A (commitB A).1 (GdBP w.z w.sure w.now)):=by
 by_cases hi:w.in_=false
 ·have e:commitB A=(A,10):=by unfold commitB;rw [if_neg (by rw [R.br];decide),if_pos (R.in_.trans hi)]
  rw [e,commitQ_1 hi];exact .inl ⟨rfl,R,id⟩
 have hi':w.in_=true:=by simpa using hi
 have hiA:=R.in_.trans hi';obtain ⟨hn,hpg⟩:=R.now hi';by_cases h8:w.now≠[]∧hdOk (w.now.getD 0 []) w.z=false
 ·obtain ⟨e,R2⟩:=R.R.commit8 hiA (by rw [hpg];exact h8.1) (by rw [hpg,R.z];exact h8.2);rw [e,commitQ_2 hi h8];exact .inl ⟨rfl,⟨R2.br,R.in_,R.z,R.no,R2⟩,id⟩
 ·rw [commitQ_3 hi h8];have hr:=R.R.commit hiA (by
   rw [hpg,R.z];intro h;cases h9:hdOk (w.now.getD 0 []) w.z
   ·exact absurd ⟨h,h9⟩ h8
   ·rfl)
  rw [R.z,hpg] at hr;rcases hr with ⟨e,hl,hR⟩ | ⟨e,hb,hd,hl,hg⟩
  ·obtain ⟨h1,h2⟩:=commit_in R.R hiA e;exact .inl ⟨e,⟨hR.br,h1,h2.trans R.z,fun _=>rfl,hR⟩,hl⟩
  ·exact .inr ⟨e,hi',hb,hd,hl,hg⟩
theorem RelB.rollback:((rollbackB A).2=(rollbackP w).2∧RelB (rollbackB A).1 (rollbackP w).1∧(A.dk.left<0→(rollbackB A).1.dk.left<0))∨((rollbackB A).2=13∧FailB A (rollbackB A).1 (GdBD w.z w.sure)):=by
 by_cases hi:w.in_=false
 ·have e:rollbackB A=(A,10):=by unfold rollbackB;rw [if_neg (by rw [R.br];decide),if_pos (R.in_.trans hi)]
  rw [e,rollbackP_1 hi];exact .inl ⟨rfl,R,id⟩
 have hiA:=R.in_.trans (show w.in_=true by simpa using hi);have hr:=(R.R.rollback hiA).1;rw [rollbackP_2 hi];rw [R.z] at hr;rcases hr with ⟨e,hl,hR⟩ | ⟨e,hb,hd,hl,hg⟩
 ·obtain ⟨h1,h2⟩:=rollback_in R.br hiA e;exact .inl ⟨e,⟨hR.br,h1,h2.trans R.z,fun _=>rfl,hR⟩,hl⟩
 ·exact .inr ⟨e,hb,hd,hl,hg⟩
end
open Go Go.HL
section
variable {A:Bk} {w:WPg} {x:PO6} (R:RelB A w)
include R
theorem RelB.read_in (hl:A.dk.left<0) {k:Nat} (hk:k<w.pages.length):(readB A ((k:Int)+1)).2=(w.pages.getD k [],0)∧RelB (readB A ((k:Int)+1)).1 w∧(readB A ((k:Int)+1)).1.dk.left<0:=by
 rcases R.read (no:=(k:Int)+1) with ⟨h1,h2,h3⟩ | ⟨_,h⟩
 ·refine ⟨?_,h2,h3 hl⟩;rw [h1,readP_2 (by rintro (h | h)<;>omega)];congr 2;omega
 ·have:=h.left;omega
end
end Go.Proofs.YtpeaicddbnghfaaGreat
namespace Go.HL
open Go
section
variable {h0 h:Heap} {D:Nat→Prop} {M R:List Itm} {a0 a1 a2 a3 a4 a5 a6 a7 a8 a9 a10 a11 a12 a13 a14 q0 q1 q2 q3 q4 q5 q6 q7 q8 q9 q10 q11 q12 q13 q14:Itm}
theorem Hp.m10 (ok:Hp h0 D (a0::a1::a2::a3::a4::a5::a6::a7::a8::a9::a10::M) R h):a10.p h:=(ok.m a10 (by simp)).1
theorem Hp.n10 (ok:Hp h0 D (a0::a1::a2::a3::a4::a5::a6::a7::a8::a9::a10::M) R h):Hp h0 D (a10::a0::a1::a2::a3::a4::a5::a6::a7::a8::a9::M) R h:=ok.perm (by simpa using (List.perm_middle (l₁:=[a0,a1,a2,a3,a4,a5,a6,a7,a8,a9]) (l₂:=M) (a:=a10)).symm)
theorem Hp.n11 (ok:Hp h0 D (a0::a1::a2::a3::a4::a5::a6::a7::a8::a9::a10::a11::M) R h):Hp h0 D (a11::a0::a1::a2::a3::a4::a5::a6::a7::a8::a9::a10::M) R h:=ok.perm (by simpa using (List.perm_middle (l₁:=[a0,a1,a2,a3,a4,a5,a6,a7,a8,a9,a10]) (l₂:=M) (a:=a11)).symm)
end
theorem Hp.anyR {h0 h:Heap} {D:Nat→Prop} {M R:List Itm} (ok:Hp h0 D M R h) (it:Itm) (hp:it.p h) (hF:∀j,it.F j→∃r∈R,r.F j):Hp h0 D M (it::R) h:=
 ⟨ok.chg,ok.m,fun i hi=>by
  rcases List.mem_cons.1 hi with rfl | hi
  ·exact ⟨hp,fun j hj=>by obtain ⟨r,hr,h1⟩:=hF j hj;exact (ok.r r hr).2 j h1⟩
  ·exact ok.r i hi,ok.mm,fun a ha b hb j hj hb2=>by
  rcases List.mem_cons.1 hb with rfl | hb
  ·obtain ⟨r,hr,h1⟩:=hF j hb2;exact ok.mr a ha r hr j hj h1
  ·exact ok.mr a ha b hb j hj hb2⟩
theorem Hp.copy {h0 h h':Heap} {D:Nat→Prop} {M R:List Itm} {x a A B:Itm} (ok:Hp h0 D (x::M) (A::R) h) (q:Hp h x.F [a,x] [B,A] h') (hB:∀j,B.F j→A.F j∨h.size≤j):Hp h0 D (a::x::M) (B::A::R) h':=by
 have o:=ok.upd q.chg (fun _ x=>x) x q.m1 fun j hj=>.inl hj;have hx:=ok.m x List.mem_cons_self;have hz:∀z∈M,∀j,z.F j→¬a.F j:=fun z hz j hj hj2=>by
  rcases ((q.m a List.mem_cons_self).2 j hj2).2 with h1 | h1
  ·exact (List.pairwise_cons.1 ok.mm).1 z hz j h1 hj
  ·have:=((ok.m z (List.mem_cons_of_mem _ hz)).2 j hj).1;omega
 refine ⟨o.chg,fun i hi=>?_,fun i hi=>?_,List.pairwise_cons.2 ⟨fun z hz2 j hj hj2=>?_,o.mm⟩,fun z hz2 y hy j hj hj2=>?_⟩
 ·rcases List.mem_cons.1 hi with rfl | hi
  ·refine ⟨q.m0,fun j hj=>?_⟩;have h1:=(q.m _ List.mem_cons_self).2 j hj;refine ⟨h1.1,?_⟩;rcases h1.2 with h2 | h2
   ·exact (hx.2 j h2).2
   ·exact .inr (Nat.le_trans ok.chg.size h2)
  ·exact o.m i hi
 ·rcases List.mem_cons.1 hi with rfl | hi
  ·exact q.r _ List.mem_cons_self
  ·exact o.r i hi
 ·rcases List.mem_cons.1 hz2 with rfl | hz2
  ·exact (List.pairwise_cons.1 q.mm).1 _ List.mem_cons_self j hj hj2
  ·exact hz z hz2 j hj2 hj
 ·rcases List.mem_cons.1 hy with rfl | hy
  ·rcases List.mem_cons.1 hz2 with rfl | hz2
   ·exact q.mr _ List.mem_cons_self _ List.mem_cons_self j hj hj2
   ·rcases List.mem_cons.1 hz2 with rfl | hz2
    ·exact q.mr _ (List.mem_cons_of_mem _ List.mem_cons_self) _ List.mem_cons_self j hj hj2
    ·rcases hB j hj2 with h1 | h1
     ·exact ok.mr z (List.mem_cons_of_mem _ hz2) A List.mem_cons_self j hj h1
     ·have:=((ok.m z (List.mem_cons_of_mem _ hz2)).2 j hj).1;omega
  ·rcases List.mem_cons.1 hz2 with rfl | hz2
   ·rcases ((q.m z List.mem_cons_self).2 j hj).2 with h1 | h1
    ·exact ok.mr x List.mem_cons_self y hy j h1 hj2
    ·have:=(ok.r y hy).2 j hj2;omega
   ·exact o.mr z hz2 y hy j hj hj2
end Go.HL
namespace Go.Proofs.YtpeaicddbnghfaaGreat
open Go Go.HL
theorem RC.one (l:List RC):∀u∈l.flatMap RC.cells,u.oneCell'=true:=fun u hu=>by
 obtain ⟨x,_,hx⟩:=List.mem_flatMap.1 hu;simp [RC.cells] at hx;rcases hx with rfl | rfl | rfl<;>rfl
theorem flatC_len:∀l:List RC,(l.flatMap RC.cells).length=l.length*3
 | []=>by simp
 | x::l=>by rw [List.flatMap_cons,List.length_append,RC.cells_len,flatC_len l,List.length_cons,Nat.add_mul];omega
theorem ents_some {td:Fs} {i:Nat} {p:List UInt8 × Value} (h:(ents td)[i]? = some p):∃n f,td[i]? = some (n,f)∧p=(n,ptrF f):=by
 unfold ents at h;rw [List.getElem?_map] at h;cases hq:td[i]? with
 | none=>rw [hq] at h;cases h
 | some q=>rw [hq] at h;exact ⟨q.1,q.2,rfl,(Option.some.inj h).symm⟩
theorem ents_erase {td:Fs} {i:Nat} : (ents td).eraseIdx i=ents (td.eraseIdx i):=(map_erase _ _ _).symm
theorem bput_same {fs:Fs} {n:List UInt8} {f:RF} (h:bget fs n=some f):bput fs n f=fs:=by
 induction fs with
 | nil=>simp [bget] at h
 | cons p l ih=>
  rw [bget_cons] at h;rw [bput_cons];by_cases hp:p.1=n
  ·rw [if_pos hp] at h⊢;injection h with h;rw [←hp,←h]
  ·rw [if_neg hp] at h⊢;rw [ih h]
structure Cp (fs td fs2:Fs):Prop where
 sub:∀p∈td,p∈fs
 nd:(td.map (·.1)).Nodup
 eq:∀n,(bget fs2 n).map RF.abs=if n∈td.map (·.1) then none else (bget fs n).map RF.abs
theorem Cp.step {fs td fs2:Fs} {i:Nat} {n:List UInt8} {f f2:RF} (v:Cp fs td fs2) (hn:(fs.map (·.1)).Nodup) (hq:td[i]? = some (n,f)) (ha:f2.abs=f.abs):Cp fs (td.eraseIdx i) (bput fs2 n f2):=by
 obtain ⟨hi,he⟩:=List.getElem?_eq_some_iff.1 hq;have hmem:(n,f)∈td:=by rw [←he];exact List.getElem_mem hi
 have hp:(td.map (·.1)).Perm (n::(td.eraseIdx i).map (·.1)):=by
  have h1:td.Perm (td[i]::td.eraseIdx i):=by
   rw [List.eraseIdx_eq_take_drop_succ];have h2:td=td.take i++td[i]::td.drop (i+1):=by rw [←List.drop_eq_getElem_cons hi,List.take_append_drop]
   exact (List.Perm.of_eq h2).trans List.perm_middle
  rw [he] at h1;exact h1.map _
 have hnd:=hp.nodup_iff.1 v.nd;refine ⟨fun p h=>v.sub p ((List.eraseIdx_sublist _ _).mem h),(List.nodup_cons.1 hnd).2,fun m=>?_⟩;rw [bget_put];by_cases hm:m=n
 ·subst hm;rw [if_pos rfl,if_neg (List.nodup_cons.1 hnd).1,bget_of hn (v.sub _ hmem)];simp [ha]
 ·rw [if_neg hm,v.eq m];have:m∈td.map (·.1)↔m∈(td.eraseIdx i).map (·.1):=by rw [hp.mem_iff];simp [hm]
  by_cases h:m∈td.map (·.1)
  ·rw [if_pos h,if_pos (this.1 h)]
  ·rw [if_neg h,if_neg (fun g=>h (this.2 g))]
theorem Cp.none {fs td fs2:Fs} {i:Nat} {n:List UInt8} {f:RF} (v:Cp fs td fs2) (hq:td[i]? = some (n,f)):bget fs2 n=none:=by
 have h1:=v.eq n;rw [if_pos (List.mem_map.2 ⟨(n,f),List.mem_of_getElem? hq,rfl⟩)] at h1;cases h:bget fs2 n with
 | none=>rfl
 | some g=>rw [h] at h1;cases h1
theorem chclone_any {h:Heap} {a:Option Addr} {n c:Nat} {xs:List Value} (hs:Sl h 3 (.slice a n c) xs) (hone:∀u∈xs,u.oneCell'=true) (hN:xs.length≤1000000000000) (hz:a.isNone=true→xs=[]) :
  HC Tryz.prog 144 #[.slice a n c] h (fun v h'=>Own h h' 3 175 v xs):=by
 have ok:=(Hp.nil h none_).old (rowI 3 (a,n,c) xs) hs (blk_lt (by omega) hs);refine HC.go Tryz.func144 8 ?_;refine .seq<|.r<|.z .asS<|.nil ?_;refine .seq<|.seq<|.r<|.z .mvS<|.z (.sEq T.el125)<|.nil ?_;refine .cond (fun C0=>?_) (fun C0=>?_)
 ·
  refine .seq<|.r<|.z .asS<|.nil ?_;refine .ret ⟨.slice none 0 0,Res.one rfl rfl,(by rw [hz C0];exact Own.nil ok.chg _ _)⟩
 refine .skip<|.seq<|.r<|.a' 5 (.lit [] (cs:=[]) T.el125 T.sz175 T.zr175 ok trivial) ?_;rintro _ η1 ⟨pb1,rfl,ok,xe⟩;refine .z .mvS<|.a' 7 (.app (news:=xs) T.el125 T.sz175 T.by175 T.zr175 ok (ok.r0) hone (by simp only [List.length_nil];omega)) ?_;rintro _ η2 ⟨ya,yn,yc,rfl,ok,ap⟩;have ok:=ok.cx (ys:=xs) (by simp);refine .z .asS<|.nil ?_;refine .ret ⟨.slice ya yn yc,Res.one rfl rfl,(ok).toOwn⟩
theorem bget_nil (n:List UInt8):bget [] n=none:=rfl
theorem cap_nil {h:Heap} {e:TypeId} {a:Option Addr} {n c:Nat} {xs:List Value} (r:Cap h 3 e (.slice a n c) xs) (ha:a.isNone=true):xs=[]:=by
 obtain ⟨a',n',c',hv,h1,h2,h3⟩:=r.sl;injection hv with e1 e2 e3;subst e1 e2 e3;rcases Nat.eq_zero_or_pos n with h0 | h0
 ·exact List.eq_nil_of_length_eq_zero (by rw [h3.1,h0])
 ·obtain ⟨b,o,e,_⟩:=h3.pos h0;subst e;cases ha
theorem _root_.Go.HL.Hp.fcls0 {h0 h:Heap} {D:Nat→Prop} {M R:List Itm} {fs:Fs} {n:List UInt8} {f:RF} (hn:(fs.map (·.1)).Nodup) (hg:bget fs n=none) (ok:Hp h0 D (fboxI f::fopnI f::flsI fs::M) R h):Hp h0 D (flsI (bput fs n f)::M) R h:=Hp.fcls hn (by rw [bdel_none hg];exact ok)
theorem Cp.start {fs:Fs} (hnd:(fs.map (·.1)).Nodup):Cp fs fs []:=⟨fun _ h=>h,hnd,fun n=>by
 rw [bget_nil];by_cases h:n∈fs.map (·.1)
 ·rw [if_pos h];rfl
 ·rw [if_neg h,bget_none_iff.2 (fun p hp e=>h (List.mem_map.2 ⟨p,hp,e⟩))]⟩
theorem copy_any {h:Heap} {d:Nat} {r:RD} {E:Nat→Prop} (ok:Hp h (dskI d r).F [dskI d r] [bysI E r.fs] h) (hk:DkOk r.abs) (hcg:r.chg<1000000000) :
  HC Tryz.prog 86 #[.pointer (some ⟨d,0,none⟩)] h (fun v h'=>∃(d2:Nat) (r2:RD) (E2:Nat→Prop),v=.pointer (some ⟨d2,0,none⟩)∧r2.abs=r.abs∧Hp h (dskI d r).F [dskI d2 r2,dskI d r] [bysI E2 r2.fs,bysI E r.fs] h'∧∀j,E2 j→E j∨h.size≤j):=by
 have hnd:(r.fs.map (·.1)).Nodup:=(dsk_parts ok.m0).2.2.1;have ok:=ok.dopn;refine HC.go Tryz.func86 48 ?_;refine .seq<|.r<|.z .asP<|.nil ?_;refine .seq<|.seq<|.r<|.z .mvP<|.z (.pEqS T.pt30)<|.nil ?_;refine .cf<|.skip<|.seq<|.r<|.z .mvP<|.z .nil<|.z (.ldb T.ag105 ok.m0 T.sz105)<|.a' 3 (.alA T.zr105 ok) ?_;rintro _ η1 ⟨pb1,rfl,ok,xe⟩;refine .ur' (.stW (vs:=[.map (some r.m),.bool r.dark,.int .i64 r.left,.int .i64 r.chg]) T.sz105 ok (oneL rfl)) ?_;rintro η2 ⟨ok,cg⟩;refine .nil ?_;refine .seq<|.r<|.a' 12 (.mkm kvB ok) ?_;rintro _ η3 ⟨mb1,rfl,ok⟩;refine .z (.fa T.fd105_0)<|.ur' (.stM T.sz103 ok.n1) ?_;rintro η4 ⟨ok,cg⟩;refine .nil ?_;refine .seq<|.seq<|.r<|.z .mvP<|.z .nil<|.z (.fa T.fd105_0)<|.z (.ldx T.ag103 ok.m2)<|.a' 18 (.rng T.mp103 ok.n3) ?_;rintro _ η5 ⟨ib1,rfl,ok⟩;refine .nil ?_;refine .block fun K0 hK0=>?_;have ok:=(ok).dE (bysI none_ []) (fun _ h=>by cases h) (fun _ f=>f);have ok:=flsNil ok;refine .loop (fun m s hh=>∃(td fs2:Fs) (E2:Nat→Prop),Has s [(3,.pointer (some ⟨pb1,0,none⟩)),(18,.pointer (some ⟨ib1,0,none⟩))]∧Hp h (dskI d r).F [boxI d 105 [.map (some r.m),.bool r.dark,.int .i64 r.left,.int .i64 r.chg],itI kvB ib1 r.m (ents r.fs) (ents td),flsI r.fs,boxI pb1 105 [.map (some mb1),.bool r.dark,.int .i64 r.left,.int .i64 r.chg],mapI kvB mb1 (ents fs2),flsI fs2] [bysI E2 fs2,bysI E r.fs] hh∧Cp r.fs td fs2∧(∀j,E2 j→E j∨h.size≤j)∧m=td.length) ?_ ?_
 ·exact ⟨_,r.fs,[],none_,⟨rfl,rfl,trivial⟩,(ok.n3.n3.n5.n4.n5).k6.f1.f1,Cp.start hnd,fun _ f=>f.elim,rfl⟩
 rintro _ _ η6 ⟨td,fs2,E2,hs,ok,hcp,hE2,rfl⟩ J0 hJ0;refine .frame hs fun τ=>?_;refine .seq<|.r<|.a' 19 (.nxt ok.n1) ?_;rintro _ η7 (⟨hnil,rfl,ok⟩ | ⟨ipq1,pq1,hpq1,rfl,ok⟩)
 ·
  have htd:td=[]:=by simpa [ents] using hnil
  have ok:=ok.itm;refine .z .ex<|.nil ?_;refine .seq<|.cf<|.exit<|hK0 _ _<|.seq<|.r<|.z .asP<|.nil ?_;refine .ret ⟨.pointer (some ⟨pb1,0,none⟩),Res.one rfl rfl,⟨pb1,⟨mb1,fs2,r.dark,r.left,r.chg⟩,E2,rfl,by unfold RD.abs;congr 1;funext n;simp only;rw [hcp.eq n,htd];simp,Hp.dcls (d:=pb1) (r:=⟨mb1,fs2,r.dark,r.left,r.chg⟩) (Hp.dcls (d:=d) (r:=r) ((ok.n5.n5.n5.n5.n4.n5).k6.f1.f1)).n3.n3.n3,hE2⟩⟩
 obtain ⟨nm,f,hq,rfl⟩:=ents_some hpq1;rw [ents_erase] at ok;refine .z .ex<|.nil ?_;refine .seq<|.ct<|.skip<|.block fun K1 hK1=>.seq<|.r<|.z (.ent (ok.m0).2)<|.z .ex<|.z .ex<|.z .asT<|.z .asP<|.nil ?_;refine .seq<|?_;have hgm:(nm,f)∈r.fs:=hcp.sub _ (List.mem_of_getElem? hq);have hg:bget r.fs nm=some f:=bget_of hnd hgm;have hfo:=hk.fs nm f.abs (by simp [RD.abs,hg]);have hfn:f.nl.length≤16777216:=hfo.1.now;have hfs:f.sl.length≤16777216:=hfo.1.safe;have hfl:(f.ol.length:Int)≤r.chg:=by have h9:=hfo.2;simpa [RF.abs] using (show _≤r.chg from h9)
 have ok:=Hp.fopn hnd hg (ok.n2);have hnil:f.oa.isNone=true→f.ol.flatMap RC.cells=[]:=fun h9=>cap_nil ok.m1 h9;have ok:=ok.d1 (rdI E E (f.na,f.nl.length,f.nc) f.nl) (Bys.get ok.r1 hg).now (fun _ h=>h.elim id id);have ok:=ok.d2 (rdI E E (f.sa,f.sl.length,f.sc) f.sl) (Bys.get ok.r2 hg).safe (fun _ h=>h.elim id id);have hfnc:=ok.r1.c;have hfsc:=ok.r0.c;simp only at hfnc hfsc;refine .r<|.z .mvP<|.z .nil<|.z (.ldb T.ag127 ok.m0 T.sz127)<|.a' 6 (.alA T.zr127 ok) ?_;rintro _ η8 ⟨pb2,rfl,ok,xe⟩;refine .ur' (.stW (vs:=[.slice f.na f.nl.length f.nc,.slice f.sa f.sl.length f.sc,.bool f.here,.bool f.was,.slice f.oa f.ol.length f.oc]) T.sz127 ok (oneL rfl)) ?_;rintro η9 ⟨ok,cg⟩;refine .nil ?_;refine .seq<|.a 16 (fun fl hh=>cond fl True (Hp h (dskI d r).F [boxI pb2 127 [.slice f.na f.nl.length f.nc,.slice f.sa f.sl.length f.sc,.bool f.here,.bool f.was,.slice f.oa f.ol.length f.oc],boxI f.blk 127 [.slice f.na f.nl.length f.nc,.slice f.sa f.sl.length f.sc,.bool f.here,.bool f.was,.slice f.oa f.ol.length f.oc],capI 3 175 (f.oa,f.ol.length,f.oc) (f.ol.flatMap RC.cells),flsI (bdel r.fs nm),itcI kvB ib1 r.m (ents r.fs) (ents (td.eraseIdx ipq1)) (nm,ptrF f),boxI d 105 [.map (some r.m),.bool r.dark,.int .i64 r.left,.int .i64 r.chg],boxI pb1 105 [.map (some mb1),.bool r.dark,.int .i64 r.left,.int .i64 r.chg],mapI kvB mb1 (ents fs2),flsI fs2] [rdI E E (f.sa,f.sl.length,f.sc) f.sl,rdI E E (f.na,f.nl.length,f.nc) f.nl,bysI E2 fs2,bysI E r.fs] hh)) mixed ?_;have hS:=ok;refine .g 0 false rfl 27 hS (fun _=>.mvP)<|.g 1 false rfl 28 hS (fun _=>.nil)<|.g 2 false rfl 29 hS (fun _=>.fa T.fd127_0)<|.l 3 false rfl 30 hS (fun _ hS=>.ldx T.ag22 hS.m1)<|.g 5 false rfl 32 hS (fun _=>.mvP)<|.g 6 false rfl 33 hS (fun _=>.nil)<|.g 7 false rfl 34 hS (fun _=>.fa T.fd127_1)<|.l 8 false rfl 35 hS (fun _ hS=>.ldx T.ag22 hS.m1)<|.g 10 false rfl 37 hS (fun _=>.mvP)<|.g 11 false rfl 38 hS (fun _=>.nil)<|.g 12 false rfl 39 hS (fun _=>.fa T.fd127_4)<|.l 13 false rfl 40 hS (fun _ hS=>.ldx T.ag125 hS.m1)<|.o1 4<|.c' false rfl 31 .func (bclone_any (a:=f.na) (c:=f.nc) (l:=f.nl) ok.r1 (by omega)) ?_;rintro _ η10 own;have hfr31:=fun j hj=>Nat.le_trans ok.chg.size (own.fresh j hj);obtain ⟨ya1,yc1,rfl⟩:=own.formB;have ok:=ok.own own;refine ⟨ok.n9.n9.n9.n9.n9.n9.n9.n9.n9.k9,?_⟩;have hS:=ok.n9.n9.n9.n9.n9.n9.n9.n9.n9.k9;refine .o1 9<|.c' false rfl 36 .func (bclone_any (a:=f.sa) (c:=f.sc) (l:=f.sl) ok.r0 (by omega)) ?_;rintro _ η11 own;have hfr36:=fun j hj=>Nat.le_trans ok.chg.size (own.fresh j hj);obtain ⟨ya2,yc2,rfl⟩:=own.formB;have ok:=ok.own own;refine ⟨ok.n10.n10.n10.n10.n10.n10.n10.n10.n10.k9,?_⟩;have hS:=ok.n10.n10.n10.n10.n10.n10.n10.n10.n10.k9;refine .o1 14<|.c' false rfl 41 .func (chclone_any (a:=f.oa) (n:=f.ol.length) (c:=f.oc) (ok.m4).sl (RC.one _) (by rw [flatC_len];omega) hnil) ?_;rintro _ η12 own;obtain ⟨ya3,yn3,yc3,rfl⟩:=own.form3;have ok:=ok.own own;obtain rfl:yn3=f.ol.length:=(Sl.sz (Cap.sl ok.m0) RC.cells_len (by decide)).1.symm;refine ⟨ok.n11.n11.n11.n11.n11.n11.n11.n11.n11.k9,?_⟩;have hS:=ok.n11.n11.n11.n11.n11.n11.n11.n11.n11.k9;refine .g 15 false rfl 42 hS (fun _=>.fa T.fd127_0)<|.o1 16<|.ur' true rfl (.stS T.sz22 ok.n3) ?_;rintro η13 ⟨ok,cg⟩;refine ⟨trivial,?_⟩;refine .g 17 true rfl 43 trivial (fun _=>.fa T.fd127_1)<|.o1 18<|.ur' true rfl (.stS T.sz22 ok) ?_;rintro η14 ⟨ok,cg⟩;refine ⟨trivial,?_⟩;refine .g 19 true rfl 44 trivial (fun _=>.fa T.fd127_4)<|.o1 20<|.ur' true rfl (.stS T.sz125 ok) ?_;rintro η15 ⟨ok,cg⟩;refine ⟨trivial,?_⟩;refine .e ?_;have hn2:(fs2.map (·.1)).Nodup:=by have h9:=(ok.m10).nodup;rwa [ents_keys] at h9
 refine .r<|.z (.fa T.fd105_0)<|.z (.ldx T.ag103 ok.m9)<|.z .mvT<|.ur' (.mpu KV.ba sbB nm (v:=ptrF (⟨pb2,ya1,yc1,f.nl,ya2,yc2,f.sl,f.here,f.was,ya3,yc3,f.ol⟩:RF)) T.mp103 (stB_iff T.st9) ok.n10) ?_;rintro η16 ok;have hg2:bget fs2 nm=none:=hcp.none hq;have ok:=ok.n11.n3.n3;have ok:=Hp.fcls0 (n:=nm) (f:=(⟨pb2,ya1,yc1,f.nl,ya2,yc2,f.sl,f.here,f.was,ya3,yc3,f.ol⟩:RF)) hn2 hg2 ok;have ok:=ok.n6.n6.n6;have ok:=Hp.fcls (n:=nm) (f:=f) hnd ok;rw [bput_same hg] at ok;have ok:=(ok.n4).frzB (l:=f.nl) rfl;have ok:=(ok.n3).frzB (l:=f.sl) rfl;have ok:=ok.anyR (bysI (fun j=>((E2 j∨E j)∨blkC (sv (ya1,(f.nl).length,yc1)) j)∨blkC (sv (ya2,(f.sl).length,yc2)) j) (bput fs2 nm (⟨pb2,ya1,yc1,f.nl,ya2,yc2,f.sl,f.here,f.was,ya3,yc3,f.ol⟩:RF))) (Bys.put (Bys.mono (fun _ h=>.inl (.inl (.inl h))) ok.r4) ⟨RdL.mono (fun _ h=>.inl (.inr h)) (fun _ f=>f.elim) ok.r1,RdL.mono (fun _ h=>.inr h) (fun _ f=>f.elim) ok.r0,fun x hx=>RdL.mono (fun _ h=>.inl (.inl (.inr h))) (fun _ h=>.inl (.inl (.inr h))) ((Bys.get ok.r5 hg).opn x hx)⟩) (fun j hj=>by rcases hj with ((h9 | h9) | h9) | h9;exact ⟨bysI E2 fs2,by simp,h9⟩;exact ⟨bysI E r.fs,by simp,h9⟩;exact ⟨rdI (blkC (sv (ya1,(f.nl).length,yc1))) none_ (ya1,(f.nl).length,yc1) f.nl,by simp,.inl h9⟩;exact ⟨rdI (blkC (sv (ya2,(f.sl).length,yc2))) none_ (ya2,(f.sl).length,yc2) f.sl,by simp,.inl h9⟩);have hE3:∀j,(fun j=>((E2 j∨E j)∨blkC (sv (ya1,(f.nl).length,yc1)) j)∨blkC (sv (ya2,(f.sl).length,yc2)) j) j→E j∨h.size≤j:=fun j hj=>by rcases hj with ((h9 | h9) | h9) | h9;exact hE2 j h9;exact .inl h9;exact .inr (hfr31 j h9);exact .inr (hfr36 j h9)
 rw [ents_put] at ok;have ok:=(ok.n3).itc;refine .nil ?_;refine .end<|hK1 _ _<|.end<|hJ0 _ _ _ ⟨td.eraseIdx ipq1,bput fs2 nm (⟨pb2,ya1,yc1,f.nl,ya2,yc2,f.sl,f.here,f.was,ya3,yc3,f.ol⟩:RF),(fun j=>((E2 j∨E j)∨blkC (sv (ya1,(f.nl).length,yc1)) j)∨blkC (sv (ya2,(f.sl).length,yc2)) j),⟨rfl,rfl,trivial⟩,(ok.n2.n3.n5.n4.n4.n5).k6.f6.f1.e2,hcp.step hnd hq rfl,hE3,rfl⟩ (by rw [List.length_eraseIdx_of_lt (List.getElem?_eq_some_iff.1 hq).1];have:=(List.getElem?_eq_some_iff.1 hq).1;omega)
end Go.Proofs.YtpeaicddbnghfaaGreat
namespace Go.HL
open Go Go.Proofs.YtpeaicddbnghfaaGreat
theorem Hp.sprout {h0 h h':Heap} {D G:Nat→Prop} {M M' R R':List Itm} {a:Itm} (ok:Hp h0 D (a::M) R h) (q:Hp h G M' R' h') (hGa:∀j,G j→a.F j) (hr:∀i∈R',∀j,i.F j→a.F j∨(∃x∈R,x.F j)∨h.size≤j):Hp h0 D (M'++M) (R'++R) h':=by
 have ha:=ok.m a (by simp);have hG:∀j,G j→D j∨h0.size≤j:=fun j g=>(ha.2 j (hGa j g)).2;have mm:=List.pairwise_cons.1 ok.mm;have hM:∀m∈M,∀j,m.F j→¬G j:=fun m hm j hj g=>mm.1 m hm j (hGa j g) hj;have hR:∀x∈R,∀j,x.F j→¬G j:=fun x hx j hj g=>ok.mr a (by simp) x hx j (hGa j g) hj;refine ⟨ok.chg.trans' q.chg (fun j hj g=>?_),fun i hi=>?_,fun i hi=>?_,List.pairwise_append.2 ⟨q.mm,mm.2,fun x hx y hy j hj hj2=>?_⟩,fun x hx y hy j hj hj2=>?_⟩
 ·rcases hG j g with h1 | h1
  ·exact h1
  ·omega
 ·rcases List.mem_append.1 hi with hi | hi
  ·have h1:=q.m i hi;refine ⟨h1.1,fun j hj=>⟨(h1.2 j hj).1,?_⟩⟩;rcases (h1.2 j hj).2 with g | g
   ·exact hG j g
   ·exact .inr (Nat.le_trans ok.chg.size g)
  ·have h1:=ok.m i (by simp [hi]);exact ⟨i.st _ _ _ q.chg (fun j hj=>hM i hi j hj) h1.1,fun j hj=>⟨Nat.lt_of_lt_of_le (h1.2 j hj).1 q.chg.size,(h1.2 j hj).2⟩⟩
 ·rcases List.mem_append.1 hi with hi | hi
  ·exact q.r i hi
  ·have h1:=ok.r i hi;exact ⟨i.st _ _ _ q.chg (fun j hj=>hR i hi j hj) h1.1,fun j hj=>Nat.lt_of_lt_of_le (h1.2 j hj) q.chg.size⟩
 ·have h1:=ok.m y (by simp [hy]);rcases ((q.m x hx).2 j hj).2 with g | g
  ·exact hM y hy j hj2 g
  ·have:=(h1.2 j hj2).1;omega
 ·rcases List.mem_append.1 hx with hx | hx
  ·rcases List.mem_append.1 hy with hy | hy
   ·exact q.mr x hx y hy j hj hj2
   ·rcases ((q.m x hx).2 j hj).2 with g | g
    ·exact hR y hy j hj2 g
    ·have:=(ok.r y hy).2 j hj2;omega
  ·rcases List.mem_append.1 hy with hy | hy
   ·have h1:=ok.m x (by simp [hx]);rcases hr y hy j hj2 with g | ⟨z,hz,g⟩ | g
    ·exact mm.1 x hx j g hj
    ·exact ok.mr x (by simp [hx]) z hz j hj g
    ·have:=(h1.2 j hj).1;omega
   ·exact ok.mr x (by simp [hx]) y hy j hj hj2
theorem Hp.bgraw {h0 h:Heap} {D F:Nat→Prop} {M R:List Itm} {p d:Nat} {A:Bk} (ok:Hp h0 D (bgI p d F A::M) R h):∃r E Fc,r.abs A.room A.L=A∧r.d=d∧Hp h0 D (bboxI p r::kepI r.km r.kept::dskI r.d r.rd::cacL r.c Fc A.room A.L::M) (bysI E r.rd.fs::R) h:=by
 obtain ⟨r,E,Fc,ha,_,hd,o,hf,he⟩:=bg_open ok.loc0;have o2:=ok.sprout o hf (fun i hi j hj=>by rw [List.mem_singleton.1 hi] at hj;exact .inl (he j hj));refine ⟨r,E,Fc,ha,hd,?_⟩;have o3:Hp h0 D (corI p r::cacL r.c Fc A.room A.L::M) (bysI E r.rd.fs::R) h:=o2;exact Hp.unstar (l:=[bboxI p r,kepI r.km r.kept,dskI r.d r.rd]) o3
end Go.HL
namespace Go.Proofs.YtpeaicddbnghfaaGreat
open Go Go.HL
section
variable {h h0:Heap} {d:Nat} {z room:Int} {r:RD} {E D:Nat→Prop} {M R:List Itm}
theorem openR_ok (ok:Hp h0 D (dskI d r::M) (bysI E r.fs::R) h) (hk:DkOk r.abs) (hcg:r.chg<300000000) (hz : -9223372036854775808≤z∧z≤9223372036854775807) (h1:(openB r.abs z room).2.2=0) :
  HC Tryz.prog 26 #[.pointer (some ⟨d,0,none⟩),.int .i64 z,.int .i64 room] h (fun v h'=>∃p rk E' Fc,v=.tuple #[.pointer (some ⟨p,0,none⟩),.int .i64 0]∧rk.abs room []=openedB (openB r.abs z room).1 z.toNat room (openB r.abs z room).2.1∧rk.in_=false∧Hp h0 D (corI p rk::cacL rk.c Fc room []::M) (bysI E' rk.rd.fs::bysI E r.fs::R) h'):=by
 refine (bopen_any ok.loc1 hk hcg hz).mono fun v h' q=>?_;rcases q with ⟨r',E',e1,_⟩ | ⟨p,rk,E',Fc,e1,hv,ha,hdi,hp,hn⟩
 ·exact absurd h1 e1
 ·refine ⟨p,rk,E',Fc,hv,ha,hdi.2,?_⟩;exact ok.sprout hp (fun _ h=>h) fun i hi j hj=>by
   rw [List.mem_singleton.1 hi] at hj;exact .inr ((hn j hj).imp (fun g=>⟨bysI E r.fs,by simp,g⟩) id)
theorem openR_no (ok:Hp h0 D (dskI d r::M) (bysI E r.fs::R) h) (hk:DkOk r.abs) (hcg:r.chg<300000000) (hz : -9223372036854775808≤z∧z≤9223372036854775807) {c:Nat} (h1:(openB r.abs z room).2.2=c) (h2:c≠0) :
  HC Tryz.prog 26 #[.pointer (some ⟨d,0,none⟩),.int .i64 z,.int .i64 room] h (fun v h'=>v=.tuple #[.pointer none,.int .i64 (c:Int)]∧Hp h0 D M R h'):=by
 refine (bopen_any ok.loc1 hk hcg hz).mono fun v h' q=>?_;rcases q with ⟨r',E',_,hv,_,up⟩ | ⟨p,rk,E',Fc,e1,_⟩
 ·rw [h1] at hv;refine ⟨hv,?_⟩;have o:=ok.sprout up.hp (fun _ h=>h) fun i hi j hj=>by
   rw [List.mem_singleton.1 hi] at hj;exact .inr ((up.new j hj).imp (fun g=>⟨bysI E r.fs,by simp,g⟩) id)
  have o2:Hp h0 D M (bysI E' r'.fs::bysI E r.fs::R) h':=⟨o.chg,fun i hi=>o.m i (List.mem_cons_of_mem _ hi),o.r,(List.pairwise_cons.1 o.mm).2,fun a ha b hb=>o.mr a (List.mem_cons_of_mem _ ha) b hb⟩;exact o2.tR.tR
 ·exact absurd (h1.symm.trans e1) h2
end
structure RL (A:Bk) (w:WPg):Prop where
 R:RelB A w
 l:A.dk.left<0
section
variable {A:Bk} {w w':WPg} {c:Nat} (R:RL A w)
include R
theorem RL.pl:BPl A:=⟨R.R.R.fo.dk,fun _=>⟨_,_,R.R.R⟩⟩
theorem RL.begin (e:beginP w=(w',c)):(beginB A).2=c∧RL (beginB A).1 w':=by have h:=R.R.begin';rw [e] at h;exact ⟨h.1,h.2,by rw [(BPl.begin R.pl).2];exact R.l⟩
theorem RL.resize {n:Int} (e:resizeQ w n=(w',c)):(resizeB A n).2=c∧RL (resizeB A n).1 w':=by have h:=R.R.resize (n:=n);rw [e] at h;exact ⟨h.1,h.2,by rw [(BPl.resize R.pl).2];exact R.l⟩
theorem RL.write {no:Int} {b:List UInt8} (e:writeP w no b=(w',c)):(writeB A no b).2=c∧RL (writeB A no b).1 w':=by
 rcases R.R.write (no:=no) (b:=b) with ⟨h1,h2,h3⟩ | ⟨_,h⟩
 ·rw [e] at h1 h2;exact ⟨h1,h2,h3 R.l⟩
 ·have:=h.left;have:=R.l;omega
theorem RL.commit (e:commitQ w=(w',c)):(commitB A).2=c∧RL (commitB A).1 w':=by
 rcases R.R.commit with ⟨h1,h2,h3⟩ | ⟨_,_,h⟩
 ·rw [e] at h1 h2;exact ⟨h1,h2,h3 R.l⟩
 ·have:=h.left;have:=R.l;omega
theorem RL.rollback (e:rollbackP w=(w',c)):(rollbackB A).2=c∧RL (rollbackB A).1 w':=by
 rcases R.R.rollback with ⟨h1,h2,h3⟩ | ⟨_,h⟩
 ·rw [e] at h1 h2;exact ⟨h1,h2,h3 R.l⟩
 ·have:=h.left;have:=R.l;omega
theorem RL.read {no:Int} {b:List UInt8} (e:readP w no=(b,c)):(readB A no).2=(b,c)∧RL (readB A no).1 w:=by
 rcases R.R.read (no:=no) with ⟨h1,h2,h3⟩ | ⟨_,h⟩
 ·rw [e] at h1;exact ⟨h1,h2,h3 R.l⟩
 ·have:=h.left;have:=R.l;omega
theorem RL.clean (h:w.in_=false):CleanB w.sure A.dk:=by
 obtain ⟨cur,k,_⟩:=R.R.R.kp;exact k.clean (R.R.R.out (R.R.in_.trans h)).2
end
theorem look_other {d:Dk} {z:Nat} {s:List (List UInt8)} (p:PgOk z s) (h0:s≠[]) (hm:s.length≤mostB z) (c:CleanB s d) {y:Nat} (hy:z≠y):lookB d y=(0,1):=by
 obtain ⟨T,S,hT⟩:=c;have stT:FSt (d.fs nT) T [] T:=by rw [S.T];exact .syn T
 have hsz:=size_st S.hd stT;have hfl:=flat_lenZ p.len;have hzb:=okSz_b p.sz;rw [hT] at hsz;unfold lookB;have hp:0<s.length:=List.length_pos_iff.2 h0;have hlz:z≤s.flatten.length:=by rw [hfl];exact Nat.le_mul_of_pos_left _ hp
 obtain ⟨b,hb⟩:∃b,T=some b:=by cases T;(rw [←hT] at hlz;simp at hlz;omega);exact ⟨_,rfl⟩
 subst hb;simp only [Option.getD_some] at hT;have hr:=read_st (p:=0) (z:=64) S.hd nT_ok stT;rw [List.drop_zero,hT,show ((0:Nat):Int)=0 from rfl,show ((64:Nat):Int)=64 from rfl] at hr;have e:s.getD 0 []=s[0]:=by simp [hp]
 have hpg:s.flatten.take 64=(s.getD 0 []).take 64:=by
  have h1:=flat_drop p.len (i:=0) hp;rw [Nat.zero_mul,List.drop_zero] at h1;rw [e,←h1,List.take_take];congr 1;omega
 have hdc:decN (s.flatten.take 64)=decN (s.getD 0 []):=by
  rw [hpg];refine decN_take ?_;rw [e,p.len _ (List.getElem_mem hp)];omega
 have hh:=p.hd h0;unfold hdOk at hh;simp only [decide_eq_true_eq] at hh;have e1:(sizeN d nT).1=s.length*z:=by rw [hsz];exact hfl
 rw [if_neg (by rw [hsz];simp only;rintro (h | h);exact absurd h (by simp);omega),if_neg (by rw [hr];simp),if_neg (by rw [hr];simp only;rw [hdc,hh.2,e1];rintro (h | h);exact h hh.1;exact h (by rw [Int.natCast_mul];exact Int.mul_emod_left _ _)),if_pos (by rw [hr];simp only;rw [hdc,hh.2];omega)]
theorem clean_heal {d:Dk} {z:Nat} {s:List (List UInt8)} (p:PgOk z s) (c:CleanB s d):Res d (healB d) (CleanB s) (GdBD z s):=by
 obtain ⟨T,S,hT⟩:=c;exact heal_own S p (.z0 rfl hT) (by simp)
theorem open_other {d:Dk} {z y:Nat} {room:Int} {s:List (List UInt8)} (p:PgOk z s) (h0:s≠[]) (hm:s.length≤mostB z) (c:CleanB s d) (hl:d.left<0) (hy:z≠y) (hk:okSz y=true) (hr:1≤room∧room≤1048576):(openB d y room).2.2=1:=by
 have h1:okZ (y:Int)=true:=by rw [okZ_nat];exact hk
 unfold openB;rw [if_neg (by rw [h1];decide),if_neg (by omega),if_neg (by rw [show d.dark=false from let ⟨_,S,_⟩:=c;S.hd];decide)];rcases clean_heal p c with ⟨e,hd2,_,c2⟩ | ⟨_,_,e,_⟩
 ·rw [if_neg (by omega),Int.toNat_natCast,look_other p h0 hm c2 hy]
 ·omega
theorem clean_opn {d:Dk} {z:Nat} {room:Int} {s:List (List UInt8)} {fr:Nat} (p:PgOk z s) (hm:s.length≤mostB z) (c:CleanB s d) (k:DkOk d) (hl:d.left<0) (hr:1≤room∧room≤1048576):(openB d z room).2.2=0∧RL (openedB (openB d z room).1 z room (openB d z room).2.1) ⟨z,s,[],false,fr⟩∧(openB d z room).1.chg≤d.chg+17000000:=by
 have hd:d.dark=false:=let ⟨_,S,_⟩:=c;S.hd;rcases opn_of hd (clean_heal p c) p hm hr with ⟨e,e2,e3⟩ | ⟨_,_,e,_⟩
 ·rw [e];exact ⟨rfl,⟨⟨rfl,rfl,rfl,fun _=>rfl,opened_rl e3 k.heal p hm hr⟩,e2 hl⟩,heal_chg k⟩
 ·omega
open Go Go.HL
theorem hdAt_hdB {N:List Nat} {x:List UInt8} {k:Nat} (hk:k<N.length) (hN:N.length=6) (hb:N[k]<4294967296):hdAt (hdB N++x) k=N[k]:=by
 have e:hdB N++x=(signL++hdF (N.take k))++(fixedN N[k] 4++(hdF (N.drop (k+1))++(List.replicate 20 0++fixedN (sumN (hdT N)) 4++x))):=by
  have h1:hdF N=hdF (N.take k)++(fixedN N[k] 4++hdF (N.drop (k+1))):=by
   have h2:N=N.take k++N[k]::N.drop (k+1):=by rw [←List.drop_eq_getElem_cons hk,List.take_append_drop]
   have h3:hdF N=hdF (N.take k++N[k]::N.drop (k+1)):=congrArg hdF h2;rw [h3];unfold hdF;rw [List.map_append,List.flatten_append,List.map_cons,List.flatten_cons]
  unfold hdB;rw [show hdT N=signL++hdF N++List.replicate 20 0 from rfl,h1];simp only [List.append_assoc]
 have hl:(signL++hdF (N.take k)).length=16+4*k:=by
  have h1:∀(M:List Nat),(hdF M).length=4*M.length:=fun M=>by
   unfold hdF;induction M with
   | nil=>rfl
   | cons a M ih=>rw [List.map_cons,List.flatten_cons,List.length_append,fixedN_len,ih,List.length_cons];omega
  rw [List.length_append,h1,List.length_take];simp;omega
 unfold hdAt;rw [e,←hl,rdN_app (fixedN_len _ _),beN_fixed (by simpa using hb)]
theorem dec_hdB {n0 n1 n2 n3 n4 n5:Nat} {x:List UInt8} (h0:n0<4294967296) (h1:n1<4294967296) (h2:n2<4294967296) (h3:n3<4294967296) (h4:n4<4294967296) (h5:n5<4294967296) (hc:ChkP ⟨(n0:Int),(n1:Int),(n2:Int),(n3:Int),(n4:Int),(n5:Int)⟩):decN (hdB [n0,n1,n2,n3,n4,n5]++x)=(⟨(n0:Int),(n1:Int),(n2:Int),(n3:Int),(n4:Int),(n5:Int)⟩,0):=by
 have a0:=hdAt_hdB (N:=[n0,n1,n2,n3,n4,n5]) (x:=x) (k:=0) (by simp) rfl h0;have a1:=hdAt_hdB (N:=[n0,n1,n2,n3,n4,n5]) (x:=x) (k:=1) (by simp) rfl h1;have a2:=hdAt_hdB (N:=[n0,n1,n2,n3,n4,n5]) (x:=x) (k:=2) (by simp) rfl h2;have a3:=hdAt_hdB (N:=[n0,n1,n2,n3,n4,n5]) (x:=x) (k:=3) (by simp) rfl h3;have a4:=hdAt_hdB (N:=[n0,n1,n2,n3,n4,n5]) (x:=x) (k:=4) (by simp) rfl h4;have a5:=hdAt_hdB (N:=[n0,n1,n2,n3,n4,n5]) (x:=x) (k:=5) (by simp) rfl h5;simp only [List.getElem_cons_zero,List.getElem_cons_succ] at a0 a1 a2 a3 a4 a5;have hl:(hdB [n0,n1,n2,n3,n4,n5]).length=64:=hdB_len6;have hd:decH (hdB [n0,n1,n2,n3,n4,n5]++x)=⟨(n0:Int),(n1:Int),(n2:Int),(n3:Int),(n4:Int),(n5:Int)⟩:=by unfold decH;rw [a0,a1,a2,a3,a4,a5]
 have hs:(hdB [n0,n1,n2,n3,n4,n5]++x).take 16=signL:=by
  unfold hdB hdT;simp only [List.append_assoc];exact List.take_left' rfl
 have hy:decY (hdB [n0,n1,n2,n3,n4,n5]++x):=by
  unfold decY;rw [hd,a0,a1,a2,a3,a4,a5];exact ⟨hc,(List.take_left' hl).symm⟩
 rw [dec0 (by rw [List.length_append];omega) hs hy,hd]
theorem hdOk_headP {z:Nat} {fb:UInt8} (hz:okSz z=true):hdOk (headP z fb) z=true:=by
 have h1:=okSz_cases hz;have h2:=fb.toNat_lt;unfold hdOk headP;rw [dec_hdB (by omega) (by omega) (by omega) (by omega) (by omega) (by omega) (chk_head hz h2)];simp
theorem hdOk_zeros {z n:Nat} : hdOk (List.replicate n 0) z=false:=by
 unfold hdOk;apply decide_eq_false;rintro ⟨h,_⟩;by_cases hn:(List.replicate n (0:UInt8)).length<64
 ·rw [dec6 hn] at h;cases h
 ·have h2:(List.replicate n (0:UInt8)).take 16≠signL:=by
   rw [List.length_replicate] at hn;rw [List.take_replicate,Nat.min_eq_left (by omega)];decide
  rw [dec8 hn h2] at h;cases h
end Go.Proofs.YtpeaicddbnghfaaGreat
namespace Go.HL
open Go Go.Proofs.YtpeaicddbnghfaaGreat
theorem Hp.addM {h0 h h':Heap} {D:Nat→Prop} {M R:List Itm} {a:Itm} (ok:Hp h0 D M R h) (q:Hp h none_ [a] [] h'):Hp h0 D (a::M) R h':=
 ok.newM q.chg a q.m0 fun j hj=>by
  have h1:=(q.m a List.mem_cons_self).2 j hj;exact ⟨h1.2.elim (fun f=>f.elim) id,h1.1⟩
end Go.HL
namespace Go.Proofs.YtpeaicddbnghfaaGreat
open Go Go.HL
def lvH:List UInt8:=headP 256 7
def lvG:List UInt8:=headP 256 5
def lvZ:List UInt8:=List.replicate 256 0
theorem lvH_len:lvH.length=256:=headP_len rfl
theorem lvG_len:lvG.length=256:=headP_len rfl
theorem lvG_ok:hdOk lvG 256=true:=hdOk_headP rfl
theorem lvZ_no:hdOk lvZ 256=false:=hdOk_zeros
abbrev lvw (s n:List (List UInt8)) (i:Bool):WPg:=⟨256,s,n,i,0⟩
theorem lw1:beginP (lvw [] [] false)=(lvw [] [] true,0):=rfl
theorem lw2:resizeQ (lvw [] [] true) 2=(lvw [] [lvZ,lvZ] true,0):=by
 refine (resizeQ_4 (by decide) (by decide) (by show ¬(1048576<(2:Int)∨((mostB 256:Nat):Int)<2);decide)).trans ?_;have e:growL [] 256 2=[lvZ,lvZ]:=by unfold growL lvZ;rfl
 exact congrArg (fun x=>((lvw [] x true:WPg),0)) e
attribute [irreducible] lvH lvG lvZ
theorem lw3:writeP (lvw [] [lvZ,lvZ] true) 2 lvH=(lvw [] [lvZ,lvH] true,0):=(writeP_3 (by decide) (by show ¬((2:Int)<1∨((2:Nat):Int)<2∨lvH.length≠256);rw [lvH_len];omega)).trans rfl
theorem lw4:commitQ (lvw [] [lvZ,lvH] true)=(lvw [] [lvZ,lvH] true,8):=commitQ_2 (by decide) ⟨List.cons_ne_nil _ _,lvZ_no⟩
theorem lw5:writeP (lvw [] [lvZ,lvH] true) 1 lvG=(lvw [] [lvG,lvH] true,0):=(writeP_3 (by decide) (by show ¬((1:Int)<1∨((2:Nat):Int)<1∨lvG.length≠256);rw [lvG_len];omega)).trans rfl
theorem lw6:commitQ (lvw [] [lvG,lvH] true)=(lvw [lvG,lvH] [] false,0):=(commitQ_3 (by decide) (fun h=>by have h2:hdOk lvG 256=false:=h.2;rw [lvG_ok] at h2;cases h2)).trans rfl
theorem lw7:readP (lvw [lvG,lvH] [] false) 2=(lvH,0):=(readP_2 (by show ¬((2:Int)<1∨((2:Nat):Int)<2);omega)).trans rfl
theorem lw8:rollbackP (lvw [lvG,lvH] [] false)=(lvw [lvG,lvH] [] false,10):=rollbackP_1 rfl
theorem lvPg {A:Bk} (R:RL A (lvw [lvG,lvH] [] false)):PgOk 256 [lvG,lvH]∧[lvG,lvH].length≤mostB 256:=by
 have h:=R.R.R.pg;rw [R.R.z] at h;exact h
theorem live13_any {h:Heap} : HC Tryz.prog 29 #[] h (fun v h'=>v=.bool true∧Ext h h'):=by
 have ok:=Hp.nil h none_;obtain ⟨hop,hop2⟩:=openB_new (z:=256) (room:=1) rfl ⟨by omega,by omega⟩;rw [show ((256:Nat):Int)=256 from rfl] at hop;have R00:RL (openedB newN 256 1 0) (lvw [] [] false):=⟨relB_new rfl ⟨by omega,by omega⟩,(by decide:(-1:Int)<0)⟩;have hcn:newN.chg=0:=rfl;refine HC.go Tryz.func29 141 ?_;refine .seq<|.r<|.z .asB<|.nil ?_;refine .seq<|.r<|.c' 19 .func dgnew_any ?_;rintro _ η1 ⟨dnd1,Fnd1,rfl,q⟩;have ok:=Hp.addM ok q;refine .z .asP<|.nil ?_;refine .seq<|.r<|.z .mvP<|.c' 22 .func (gbopen0_any (d:=dnd1) (F:=Fnd1) (D:=newN) (z:=256) (room:=1) (Hp.loc0 (ok)) newN_ok (by omega) (by omega) (by rw [hop]) (by rw [hop];exact ⟨newN_ok,[],R00.R.R⟩)) ?_;rintro _ η2 ⟨po1,Fo1,rfl,q⟩;have ok:=Hp.lift1 (ok) q;obtain ⟨Ao1,hAo1⟩:∃x:Bk,(openedB (openB newN 256 1).1 (Int.toNat 256) 1 (openB newN 256 1).2.1:Bk)=x:=⟨_,rfl⟩;rw [hAo1] at ok;have R0:RL Ao1 (lvw [] [] false):=by rw [←hAo1,hop];exact R00
 have hc0:Ao1.dk.chg≤0:=by rw [←hAo1,hop];exact Int.le_refl 0
 refine .z .mvU<|.z .ex<|.z .ex<|.z .asP<|.z .asI<|.nil ?_;refine .seq<|.seq<|.r<|.z .mvP<|.z (.pEqS T.pt47)<|.z .mvB<|.z .mvI<|.z .neq<|.z .pkf<|.nil ?_;refine .cf<|.skip<|.seq<|.r<|.z .mvP<|.c' 32 .func (gbbegin_any (p:=po1) (d:=dnd1) (F:=Fo1) (A:=Ao1) (ok).loc0 (by omega)) ?_;rintro _ η3 ⟨Fg1,rfl,q⟩;have Pg1:=bg_pl (ok).m0;have ok:=(ok).lift1 q;obtain ⟨Ag1,hAg1⟩:∃x:Bk,(beginB Ao1).1=x:=⟨_,rfl⟩;rw [hAg1] at ok;have hcg1:Ag1.dk.chg≤Ao1.dk.chg+1200000:=by rw [←hAg1];exact (by rw [Pg1.begin.2];omega)
 obtain ⟨hk1,R1⟩:=R0.begin lw1;rw [hAg1] at R1;refine .z .mvP<|.c' 34 .func (gbresize_any (p:=po1) (d:=dnd1) (F:=Fg1) (A:=Ag1) (n:=2) (ok).loc0 (by omega) (by omega)) ?_;rintro _ η4 ⟨Fg2,rfl,q⟩;have Pg2:=bg_pl (ok).m0;have ok:=(ok).lift1 q;obtain ⟨Ag2,hAg2⟩:∃x:Bk,(resizeB Ag1 2).1=x:=⟨_,rfl⟩;rw [hAg2] at ok;have hcg2:Ag2.dk.chg≤Ag1.dk.chg+1200000:=by rw [←hAg2];exact (by rw [Pg2.resize.2];omega)
 obtain ⟨hk2,R2⟩:=R1.resize lw2;rw [hAg2] at R2;refine .z .mvP<|.c' 36 .func (head13_any (z:=256) (fb:=7) rfl) ?_;rintro _ η5 own;obtain ⟨ya1,yc1,rfl⟩:=own.formB;have ok:=ok.own own;have hlvH:headP 256 7=lvH:=by unfold lvH;rfl
 rw [hlvH] at ok⊢;refine .c' 37 .func (gbwrite_any (p:=po1) (d:=dnd1) (F:=Fg2) (A:=Ag2) (no:=2) (a:=ya1) (c:=yc1) (l:=lvH) (ok.n1).locC (by omega)) ?_;rintro _ η6 ⟨Fg3,rfl,q⟩;have Pg3:=bg_pl (ok.n1).m0;have ok:=(ok.n1).lift1 q;obtain ⟨Ag3,hAg3⟩:∃x:Bk,(writeB Ag2 2 lvH).1=x:=⟨_,rfl⟩;rw [hAg3] at ok;have hcg3:Ag3.dk.chg≤Ag2.dk.chg+1200000:=by rw [←hAg3];exact (Int.le_trans Pg3.write.2 (by omega))
 obtain ⟨hk3,R3⟩:=R2.write lw3;rw [hAg3] at R3;refine .z .mvP<|.c' 39 .func (gbcommit_any (p:=po1) (d:=dnd1) (F:=Fg3) (A:=Ag3) (ok).loc0 (by omega)) ?_;rintro _ η7 ⟨Fg4,rfl,q⟩;have Pg4:=bg_pl (ok).m0;have ok:=(ok).lift1 q;obtain ⟨Ag4,hAg4⟩:∃x:Bk,(commitB Ag3).1=x:=⟨_,rfl⟩;rw [hAg4] at ok;have hcg4:Ag4.dk.chg≤Ag3.dk.chg+1200000:=by rw [←hAg4];exact (by have:=Pg4.commit.2;omega)
 obtain ⟨hk4,R4⟩:=R3.commit lw4;rw [hAg4] at R4;refine .z .asI<|.z .asI<|.z .asI<|.z .asI<|.nil ?_;refine .seq<|.r<|.z .mvP<|.c' 41 .func (head13_any (z:=256) (fb:=5) rfl) ?_;rintro _ η8 own;obtain ⟨ya2,yc2,rfl⟩:=own.formB;have ok:=ok.own own;have hlvG:headP 256 5=lvG:=by unfold lvG;rfl
 rw [hlvG] at ok⊢;refine .c' 42 .func (gbwrite_any (p:=po1) (d:=dnd1) (F:=Fg4) (A:=Ag4) (no:=1) (a:=ya2) (c:=yc2) (l:=lvG) (ok.n1).locC (by omega)) ?_;rintro _ η9 ⟨Fg5,rfl,q⟩;have Pg5:=bg_pl (ok.n1).m0;have ok:=(ok.n1).lift1 q;obtain ⟨Ag5,hAg5⟩:∃x:Bk,(writeB Ag4 1 lvG).1=x:=⟨_,rfl⟩;rw [hAg5] at ok;have hcg5:Ag5.dk.chg≤Ag4.dk.chg+1200000:=by rw [←hAg5];exact (Int.le_trans Pg5.write.2 (by omega))
 obtain ⟨hk5,R5⟩:=R4.write lw5;rw [hAg5] at R5;refine .z .asI<|.nil ?_;refine .seq<|.r<|.z .mvP<|.c' 44 .func (gbcommit_any (p:=po1) (d:=dnd1) (F:=Fg5) (A:=Ag5) (ok).loc0 (by omega)) ?_;rintro _ η10 ⟨Fg6,rfl,q⟩;have Pg6:=bg_pl (ok).m0;have ok:=(ok).lift1 q;obtain ⟨Ag6,hAg6⟩:∃x:Bk,(commitB Ag5).1=x:=⟨_,rfl⟩;rw [hAg6] at ok;have hcg6:Ag6.dk.chg≤Ag5.dk.chg+1200000:=by rw [←hAg6];exact (by have:=Pg6.commit.2;omega)
 obtain ⟨hk6,R6⟩:=R5.commit lw6;rw [hAg6] at R6;have P6:=R6.pl;have C6:=R6.clean rfl;obtain ⟨pg6,hm6⟩:=lvPg R6;obtain ⟨rp,Ep,Fcp,hap,hdp,ok⟩:=Hp.bgraw (ok);have hdk:rp.rd.abs=Ag6.dk:=congrArg Bk.dk hap;have hcd:rp.rd.chg=Ag6.dk.chg:=congrArg Dk.chg hdk;have hbr:rp.broken=false:=(congrArg Bk.broken hap).trans R6.R.br;have hrin:rp.in_=false:=(congrArg Bk.in_ hap).trans R6.R.in_;have hrsz:rp.size=256:=(congrArg Bk.size hap).trans R6.R.z;have hkD:DkOk rp.rd.abs:=by rw [hdk];exact P6.ok
 have hclD:CleanB [lvG,lvH] rp.rd.abs:=by rw [hdk];exact C6
 have hlfD:rp.rd.abs.left<0:=by rw [hdk];exact R6.l
 have hcgD:rp.rd.abs.chg=rp.rd.chg:=rfl;rw [hdp] at ok;refine .z .asI<|.nil ?_;refine .seq<|.r<|.z .mvP<|.c' 47 .func (copy_any (d:=dnd1) (r:=rp.rd) (E:=Ep) (ok.n2).loc1 hkD (by omega)) ?_;rintro _ η11 ⟨dcp1,rcp1,Ecp1,rfl,hacp1,q,hBcp1⟩;have ok:=(ok.n2).copy q hBcp1;have hkcp1:DkOk rcp1.abs:=by rw [hacp1];exact hkD
 have hclcp1:CleanB [lvG,lvH] rcp1.abs:=by rw [hacp1];exact hclD
 have hlfcp1:rcp1.abs.left<0:=by rw [hacp1];exact hlfD
 have hcgcp1:rcp1.chg=rp.rd.chg:=congrArg Dk.chg hacp1;refine .c' 48 .func (openR_ok (d:=dcp1) (r:=rcp1) (E:=Ecp1) (ok) hkcp1 (by omega) ⟨by omega,by omega⟩ (clean_opn (z:=256) (room:=3) (fr:=0) pg6 hm6 hclcp1 hkcp1 hlfcp1 ⟨by omega,by omega⟩).1) ?_;rintro _ η12 ⟨pq,rq,Eq,Fcq,rfl,haq,hinq,ok⟩;have RQ:=(clean_opn (z:=256) (room:=3) (fr:=0) pg6 hm6 hclcp1 hkcp1 hlfcp1 ⟨by omega,by omega⟩).2;have RQ1:RL (rq.abs 3 []) (lvw [lvG,lvH] [] false):=by rw [haq];exact RQ.1
 have RQ2:rq.rd.abs.chg≤rcp1.abs.chg+17000000:=by rw [show rq.rd.abs=(openB rcp1.abs 256 3).1 from congrArg Bk.dk haq];exact RQ.2
 have hcq1:rcp1.abs.chg=rcp1.chg:=rfl;have hcq2:rq.rd.abs.chg=rq.rd.chg:=rfl;refine .z .mvU<|.z .ex<|.z .ex<|.z .asP<|.z .asI<|.nil ?_;refine .seq<|.seq<|.r<|.z .mvP<|.z (.pEqS T.pt47)<|.nil ?_;refine .cf<|.skip<|.seq<|.r<|.z .mvP<|.c' 55 .func (bread_any (p:=pq) (r:=rq) (Fc:=Fcq) (room:=3) (L:=[]) (E:=Eq) (no:=2) (Hp.pair (ok).e1) RQ1.pl.ok (by omega) (fun h9=>by rw [hinq] at h9;cases h9) RQ1.pl.O) ?_;rintro _ η13 ⟨rr,Er,Fr,ax,cx,rfl,har,hkmr,⟨hdr,hcr⟩,q,hEr⟩;obtain ⟨hkr,RR⟩:=RQ1.read lw7;have ok:=Hp.unpair (ok) q (fun i hi j hj=>by rw [List.mem_singleton.1 hi] at hj;exact (hEr j hj).imp (fun g=>⟨_,List.mem_cons_self,g⟩) id);have ok:Hp h none_ (capI 1 5 (ax,(readB (rq.abs 3 []) 2).2.1.length,cx) ((readB (rq.abs 3 []) 2).2.1.map bv)::corI pq rr::cacL rq.c Fr 3 (readB (rq.abs 3 []) 2).1.L::_) (bysI Er rr.rd.fs::_) _:=ok;rw [←hcr] at ok;rw [hkr] at ok⊢;dsimp only at ok⊢;rw [←har] at RR;refine .z .mvU<|.z .ex<|.z .ex<|.z .asS<|.z .asI<|.nil ?_;refine .seq<|?_;have hcr2:rr.rd.chg≤rq.rd.chg+10:=by have h1:=(RQ1.pl.read (no:=2)).2;rw [←har] at h1;exact h1
 have hpr:(if rr.broken=true then 0 else presK rr)=2:=RR.R.pages;refine .r<|.z .mvP<|.c' 60 .func (copy_any (d:=dnd1) (r:=rp.rd) (E:=Ep) (ok.n3.f3).loc1 hkD (by omega)) ?_;rintro _ η14 ⟨dcp2,rcp2,Ecp2,rfl,hacp2,q,hBcp2⟩;have ok:=(ok.n3.f3).copy q hBcp2;have hkcp2:DkOk rcp2.abs:=by rw [hacp2];exact hkD
 have hclcp2:CleanB [lvG,lvH] rcp2.abs:=by rw [hacp2];exact hclD
 have hlfcp2:rcp2.abs.left<0:=by rw [hacp2];exact hlfD
 have hcgcp2:rcp2.chg=rp.rd.chg:=congrArg Dk.chg hacp2;refine .c' 61 .func (openR_no (d:=dcp2) (r:=rcp2) (E:=Ecp2) (c:=1) (ok) hkcp2 (by omega) ⟨by omega,by omega⟩ (open_other (z:=256) (y:=512) (room:=3) pg6 (by simp) hm6 hclcp2 hlfcp2 (by decide) rfl ⟨by omega,by omega⟩) (by decide)) ?_;rintro _ η15 ⟨rfl,ok⟩;refine .z .mvU<|.z .ex<|.z .ex<|.z .asP<|.z .asI<|.nil ?_;refine .seq<|.r<|.k 65 .func (bopenNil_any (z:=256) (room:=1))<|.z .mvU<|.z .ex<|.z .ex<|.z .asP<|.z .asI<|.nil ?_;refine .seq<|.r<|.z .asP<|.nil ?_;refine .seq<|.r<|.z .mvI<|.z .eql<|.z .mvB<|.sd (fun G70=>?_) (fun G70=>?_)
 ·
  refine .z .mvI<|.z .eql<|.z .pkt<|.z .mvB<|.sd (fun G74=>?_) (fun G74=>?_)
  ·
   refine .z .mvI<|.z .eql<|.z .pkt<|.z .mvB<|.sd (fun G78=>?_) (fun G78=>?_)
   ·
    refine .z .mvI<|.z .eql<|.z .pkt<|.z .mvB<|.sd (fun G82=>?_) (fun G82=>?_)
    ·
     refine .z .mvI<|.z .eql<|.z .pkt<|.z .mvB<|.sd (fun G86=>?_) (fun G86=>?_)
     ·
      refine .z .mvI<|.z .eql<|.z .pkt<|.z .mvB<|.sd (fun G90=>?_) (fun G90=>?_)
      ·
       refine .z .mvI<|.z .eql<|.z .pkt<|.z .mvB<|.z .mvP<|.k 96 .func (bPages_any (p:=pq) (r:=rr) (((ok.n2).m0).1 (bboxI pq rr) (by simp)))<|.z .eql<|.z .pkt<|.z .mvB<|.sd (fun G99=>?_) (fun G99=>?_)
       ·
        refine .z .mvS<|.c' 101 .func (head13_any (z:=256) (fb:=7) rfl) ?_;rintro _ η16 own;obtain ⟨ya3,yc3,rfl⟩:=own.formB;have ok:=ok.own own;have hlvH:headP 256 7=lvH:=by unfold lvH;rfl
        rw [hlvH] at ok⊢;refine .k 102 .func (same_any (a:=ax) (c:=cx) (l:=lvH) (b:=ya3) (d:=yc3) (l2:=lvH) (RdL.ofCapB (v:=(ax,lvH.length,cx)) (l:=lvH) ok.m2) (RdL.ofCapB (v:=(ya3,lvH.length,yc3)) (l:=lvH) ok.m0))<|.z .pkt<|.z .mvB<|.sd (fun G104=>?_) (fun G104=>?_)
        ·
         refine .z .mvI<|.z .eql<|.z .pkt<|.z .mvB<|.z .mvI<|.z .eql<|.z .pkt<|.z .mvB<|.z .mvI<|.z .eql<|.z .pkt<|.z .mvB<|.z .mvP<|.k 118 .func (bin_any (p:=po1) (r:=rp) (ok.n5).m0)<|.z .not<|.z .pkt<|.z .mvB<|.spl (fun G121=>?_) (fun G121=>?_)
         ·
          refine .z .mvP<|.k 123 .func (bsize_any (p:=po1) (r:=rp) (ok.n5).m0)<|.z .eql<|.z .pkt<|.z .mvB<|.sd (fun G126=>?_) (fun G126=>?_)
          ·
           refine .z .mvP<|.k 128 .func bbeginNil_any<|.z .eql<|.z .pkt<|.z .mvB<|.z .mvP<|.k 133 .func bPagesNil_any<|.z .eql<|.z .pkt<|.z .mvB<|.z .mvP<|.c' 138 .func (brollback_any (p:=pq) (r:=rr) (Fc:=Fr) (room:=3) (L:=(readB (rq.abs 3 []) 2).1.L) (E:=Er) (Hp.pair (ok.n4.n4.f1).e1) RR.pl.ok (by omega) hkmr RR.pl.O) ?_;rintro _ η17 ⟨rz,Ez,Fz,rfl,haz,hkmz,_,up⟩;have ok:=Hp.unpair (ok.n4.n4.f1) up.hp (fun i hi j hj=>by rw [List.mem_singleton.1 hi] at hj;exact (up.new j hj).imp (fun g=>⟨_,List.mem_cons_self,g⟩) id);rw [show (rollbackB (rr.abs 3 (readB (rq.abs 3 []) 2).1.L)).2=10 from (RR.rollback lw8).1];refine .z .eql<|.z .pkt<|.z .asB<|.nil ?_;refine .ret ⟨.bool true,Res.one rfl rfl,⟨rfl,ok.chg⟩⟩
          exact absurd (by rw [if_neg (by rw [hbr];decide),hrsz];rfl) G126
         rw [hbr,hrin] at G121;cases G121
        exact absurd rfl G104
       exact absurd (by rw [hpr];rfl) G99
      exact absurd (by rw [hk6];rfl) G90
     exact absurd (by rw [hk5];rfl) G86
    exact absurd (by rw [hk4];rfl) G82
   exact absurd (by rw [hk3];rfl) G78
  exact absurd (by rw [hk2];rfl) G74
 exact absurd (by rw [hk1];rfl) G70
theorem opnB_dk {D:Dk} {z room:Int} (k:DkOk D):DkOk (openB D z room).1∧(openB D z room).1.chg≤D.chg+17000000:=by
 have h1:=heal_chg k;have h2:=k.heal;unfold openB
 repeat' split
 all_goals first | exact ⟨h2,h1⟩ | exact ⟨k,by simp only;omega⟩
def pgsN (z:Nat) (f:List UInt8):List (List UInt8):=(List.range (f.length / z)).map fun i=>(f.drop (i*z)).take z
theorem pgsN_len {z:Nat} {f:List UInt8} : (pgsN z f).length=f.length / z:=by simp [pgsN]
theorem pgsN_at {z:Nat} {f:List UInt8} {i:Nat} (h:i<(pgsN z f).length):(pgsN z f)[i]=(f.drop (i*z)).take z:=by simp [pgsN]
section
variable {z:Nat} {f:List UInt8} (hz:0<z) (hd:f.length%z=0)
include hz hd
theorem pgsN_mul:f.length / z*z=f.length:=by have:=Nat.div_add_mod f.length z;rw [hd,Nat.mul_comm] at this;omega
theorem pgsN_one:∀l∈pgsN z f,l.length=z:=fun l hl=>by
 obtain ⟨i,hi,rfl⟩:=List.mem_iff_getElem.1 hl;rw [pgsN_at hi,List.length_take,List.length_drop];rw [pgsN_len] at hi;have h1:(i+1)*z≤f.length / z*z:=Nat.mul_le_mul_right _ hi;rw [pgsN_mul hz hd,Nat.succ_mul] at h1;omega
theorem pgsN_flat:(pgsN z f).flatten=f:=by
 have h1:=pgsN_one hz hd;have hl:=flat_lenZ h1;rw [pgsN_len,pgsN_mul hz hd] at hl;refine ext_gd hl fun i hi=>?_;rw [hl] at hi;have hk:i / z<(pgsN z f).length:=by rw [pgsN_len];exact (Nat.div_lt_iff_lt_mul hz).2 (by rw [pgsN_mul hz hd];exact hi)
 have h2:=flat_drop h1 hk;have hm:=Nat.mod_lt i hz;have hdm:i / z*z+i%z=i:=by rw [Nat.mul_comm];exact Nat.div_add_mod i z
 have h3:gd ((((pgsN z f).flatten).drop (i / z*z)).take z) (i%z)=gd ((pgsN z f)[i / z]) (i%z):=by rw [h2]
 rw [gd_take,if_pos hm,gd_drop,hdm,pgsN_at hk,gd_take,if_pos hm,gd_drop,hdm] at h3;exact h3
end
def wholeN (f:List UInt8) (z:Nat):List (List UInt8) × Int:=
 if f=[] then ([],0) else if f.length<64 then ([],14) else
 if (decN (f.take 64)).2≠0∨(f.length:Int)%(decN (f.take 64)).1.size≠0 then ([],14) else
 if (decN (f.take 64)).1.size≠z then ([],1) else (pgsN z f,0)
section
variable {f:List UInt8} {z:Nat}
theorem wh0 (h:f=[]):wholeN f z=([],0):=if_pos h
theorem ne_nil {f:List UInt8} {n:Nat} (h:¬f.length<n+1):f≠[]:=fun e=>h (by rw [e];simp)
theorem wh1 (h0:f≠[]) (h:f.length<64):wholeN f z=([],14):=by unfold wholeN;rw [if_neg h0,if_pos h]
variable (h:¬f.length<64)
include h
theorem wh2 (h2:(decN (f.take 64)).2≠0∨(f.length:Int)%(decN (f.take 64)).1.size≠0):wholeN f z=([],14):=by unfold wholeN;rw [if_neg (ne_nil h),if_neg h,if_pos h2]
variable (h2:¬((decN (f.take 64)).2≠0∨(f.length:Int)%(decN (f.take 64)).1.size≠0))
include h2
theorem wh3 (h3:(decN (f.take 64)).1.size≠z):wholeN f z=([],1):=by unfold wholeN;rw [if_neg (ne_nil h),if_neg h,if_neg h2,if_pos h3]
theorem wh4 (h3:(decN (f.take 64)).1.size=z):wholeN f z=(pgsN z f,0):=by unfold wholeN;rw [if_neg (ne_nil h),if_neg h,if_neg h2,if_neg (not_not_intro h3)]
theorem wh_mod (h3:(decN (f.take 64)).1.size=z):f.length%z=0:=by
 have:(f.length:Int)%(z:Int)=0:=by rw [←h3];exact Classical.byContradiction fun h=>h2 (.inr h)
 omega
end
theorem res_ok {d:Dk} {r:Dk × Nat} {G B:Dk→Prop} (h:Res d r G B) (hl:d.left<0):r.2=0∧r.1.dark=false∧r.1.left<0∧G r.1:=by
 rcases h with ⟨h1,h2,h3,h4⟩ | ⟨_,_,h3,_⟩
 ·exact ⟨h1,h2,h3 hl,h4⟩
 ·omega
open Go Go.HL
def layN (D:Dk) (n b:List UInt8):Dk:=if b=[] then D else (syncN (writeN D n 0 b).1 n).1
structure LayP (D:Dk) (n b:List UInt8) (D':Dk):Prop where
 hd:D'.dark=false
 left:D'.left<0
 at':D'.fs n=synF (if b=[] then none else some b)
 ne:∀m,m≠n→D'.fs m=D.fs m
theorem lay_spec {D:Dk} {n b:List UInt8} (hd:D.dark=false) (hl:D.left<0) (hn:nOk n) (hf:D.fs n=none) (hb:b.length≤16777216):LayP D n b (layN D n b)∧(b≠[]→(writeN D n 0 b).2=0∧(syncN (writeN D n 0 b).1 n).2=0):=by
 by_cases h0:b=[]
 ·unfold layN;rw [if_pos h0];exact ⟨⟨hd,hl,by rw [if_pos h0];exact hf,fun _ _=>rfl⟩,fun h=>absurd h0 h⟩
 ·have st:FSt (D.fs n) none [] none:=by rw [hf];exact .syn none
  have s1:=st.chg ⟨0,0,b⟩;have e1:doO' ⟨0,0,b⟩ none=some b:=by
   show some (wrB [] 0 b)=some b;congr 1;refine ext_gd (by rw [wrB_len];simp) fun i hi=>?_;rw [wrB_len] at hi;simp at hi;rw [gd_wrB,if_pos (by omega)];rfl
  rw [e1] at s1;have r1:=write_res (p:=0) (G:=fun d'=>d'=stepD' D n (some (chgF ((D.fs n).getD noF) ⟨0,0,b⟩))) (B:=fun _=>True) hd hn (by omega) rfl trivial;rw [show ((0:Nat):Int)=0 from rfl] at r1;obtain ⟨a1,a2,a3,a4⟩:=res_ok r1 hl;have hat:(writeN D n 0 b).1.fs n=some (chgF ((D.fs n).getD noF) ⟨0,0,b⟩):=by rw [a4,stepD'_at]
  have r2:=sync_res (G:=fun d'=>d'.fs n=synF (some b)∧∀m,m≠n→d'.fs m=D.fs m) (B:=fun _=>True) a2 hn hat (.inr (by show _++[_]≠[];simp)) ⟨by rw [stepD'_at];exact s1.settle,fun m hm=>by rw [stepD'_ne hm,a4,stepD'_ne hm]⟩ trivial;obtain ⟨b1,b2,b3,b4⟩:=res_ok r2 a3;unfold layN;rw [if_neg h0];exact ⟨⟨b2,b3,by rw [if_neg h0];exact b4.1,b4.2⟩,fun _=>⟨a1,b1⟩⟩
theorem lay_chg {D:Dk} {n b:List UInt8} : (layN D n b).chg≤D.chg+2:=by
 have h1:=write_chg (d:=D) (n:=n) (z:=0) (l:=b);have h2:=sync_chg (d:=(writeN D n 0 b).1) (n:=n);unfold layN;split<;>omega
theorem lay_dkok {D:Dk} {n b:List UInt8} (k:DkOk D) (hn:nOk n):DkOk (layN D n b):=by
 unfold layN;split
 ·exact k
 ·exact (k.write).sync
theorem ifD {f:List UInt8} : (if f=[] then none else some f:Option (List UInt8)).getD []=f:=by split<;>simp_all
def layQ (n k:Nat):List Fr→List UInt8→List UInt8
 | [],U=>U
 | f::l,U=>layQ n k l (if f.page≤(k:Int) then wrB U ((f.page-1).toNat*n) f.b else U)
def wrsQ (n:Nat):List Fr→Option (List UInt8)→Option (List UInt8)
 | [],o=>o
 | f::l,o=>wrsQ n l (some (wrB (o.getD []) ((f.page-1).toNat*n) f.b))
def FrQ (n:Nat) (f:Fr):Prop:=(1≤f.page∧f.page≤64)∧f.b.length=n
section
variable {n k:Nat}
theorem lay_wrs:∀ {l:List Fr} {o:Option (List UInt8)} {U:List UInt8},(∀f∈l,FrQ n f)→U.length=k*n→(∀i,i<k*n→gd (o.getD []) i=gd U i)→(layQ n k l U).length=k*n∧∀i,i<k*n→gd ((wrsQ n l o).getD []) i=gd (layQ n k l U) i
 | [],o,U,_,hU,h=>⟨hU,h⟩
 | f::l,o,U,hl,hU,h=>by
  obtain ⟨⟨h1,h2⟩,h3⟩:=hl f List.mem_cons_self;obtain ⟨p,hp⟩:∃p:Nat,f.page=(p:Int)+1:=⟨(f.page-1).toNat,by omega⟩;have ep:(f.page-1).toNat=p:=by omega
  have ih:=fun o U=>lay_wrs (l:=l) (o:=o) (U:=U) fun g hg=>hl g (List.mem_cons_of_mem _ hg);unfold layQ wrsQ;rw [ep];by_cases hk:f.page≤(k:Int)
  ·rw [if_pos hk];have hm:(p+1)*n≤k*n:=Nat.mul_le_mul_right _ (by omega);rw [Nat.succ_mul] at hm;refine ih _ _ (by rw [wrB_len,hU,h3];omega) fun i hi=>?_;rw [Option.getD_some,gd_wrB,gd_wrB,h i hi]
  ·rw [if_neg hk];have hm:k*n≤p*n:=Nat.mul_le_mul_right _ (by omega);refine ih _ _ hU fun i hi=>?_;rw [Option.getD_some,gd_wrB,if_neg (by omega),h i hi]
theorem wrs_end {l:List Fr} {o:Option (List UInt8)} (hl:∀f∈l,FrQ n f):longN ((wrsQ n l o).getD []) (k*n)=layQ n k l (longN (o.getD []) (k*n)):=by
 obtain ⟨h1,h2⟩:=lay_wrs (k:=k) (o:=o) (U:=longN (o.getD []) (k*n)) hl (longN_len _ _) fun i hi=>by rw [gd_longN,if_pos hi]
 refine ext_gd (by rw [longN_len,h1]) fun i hi=>?_;rw [longN_len] at hi;rw [gd_longN,if_pos hi,h2 i hi]
theorem writes_any {J M base:Option (List UInt8)} : ∀ {l:List Fr} {d:Dk} {ops:List Chn} {cur:Option (List UInt8)},(∀f∈l,FrQ n f)→n≤4096→d.dark=false→d.fs nJ=synF J→d.fs nM=synF M→FSt (d.fs nT) base ops cur→(cur=none→d.fs nT=none)→
  Res d (writesN n d l) (fun d'=>d'.fs nJ=synF J∧d'.fs nM=synF M∧∃ops',FSt (d'.fs nT) base ops' (wrsQ n l cur)∧(wrsQ n l cur=none→d'.fs nT=none)) (fun _=>True)
 | [],d,ops,cur,_,_,hd,hJ,hM,st,h0=>.ok hd ⟨hJ,hM,ops,st,h0⟩
 | f::l,d,ops,cur,hl,hn,hd,hJ,hM,st,h0=>by
  obtain ⟨⟨h1,h2⟩,h3⟩:=hl f List.mem_cons_self;obtain ⟨p,hp⟩:∃p:Nat,f.page=(p:Int)+1:=⟨(f.page-1).toNat,by omega⟩;have hpn:p*n≤63*4096:=Nat.mul_le_mul (by omega) hn;have s1:=st.chg ⟨0,p*n,f.b⟩;have e1:doO' ⟨0,p*n,f.b⟩ cur=some (wrB (cur.getD []) (p*n) f.b):=by cases cur<;>rfl
  rw [e1] at s1;have r1:Res d (writeN d nT ((p*n:Nat):Int) f.b) (fun d'=>d'.fs nJ=synF J∧d'.fs nM=synF M∧FSt (d'.fs nT) base (ops++[⟨0,p*n,f.b⟩]) (some (wrB (cur.getD []) (p*n) f.b))) (fun _=>True):=
   write_res hd nT_ok (by omega) ⟨by rw [stepD'_ne nJT];exact hJ,by rw [stepD'_ne nMT];exact hM,by rw [stepD'_at];exact s1⟩ trivial
  unfold writesN;rw [show ((f.page-1)*(n:Int))=((p*n:Nat):Int) from by rw [hp];simp];have e2:wrsQ n (f::l) cur=wrsQ n l (some (wrB (cur.getD []) (p*n) f.b)):=by
   show wrsQ n l _=_;rw [show (f.page-1).toNat=p by omega]
  rw [e2];exact thenN_res (f:=fun d=>writesN n d l) r1 fun d1 hd1 g=>writes_any (fun g hg=>hl g (List.mem_cons_of_mem _ hg)) hn hd1 g.1 g.2.1 g.2.2 fun h=>by cases h
theorem rest_any {d:Dk} {t J M:Option (List UInt8)} {l:List Fr} (hd:d.dark=false) (hT:d.fs nT=synF t) (hJ:d.fs nJ=synF J) (hM:d.fs nM=synF M) (hl:∀f∈l,FrQ n f) (hn:n≤4096) (hk:k*n≤16777216) :
  Res d (restoreB d n k l) (fun d'=>d'.fs nJ=synF J∧d'.fs nM=synF M∧∃T,d'.fs nT=synF T∧T.getD []=layQ n k (firstF [] l) (longN (t.getD []) (k*n))) (fun _=>True):=by
 have hl2:∀f∈firstF [] l,FrQ n f:=fun f hf=>hl f (firstF_sub hf);have r1:=writes_any (J:=J) (M:=M) (base:=t) (ops:=[]) (cur:=t) hl2 hn hd hJ hM (by rw [hT];exact .syn t) fun h=>by rw [hT,h];rfl
 refine thenN_res (f:=fun d=>lengthB d (k*n)) r1 fun d1 hd1 ⟨g1,g2,ops',g3,g4⟩=>?_;have no:∀ {i:Nat},¬i<([]:List (List UInt8)).length*1:=by simp
 refine (len_res (z:=1) (s:=[]) (K:=[]) hd1 g1 g2 g3 (fun i hi=>absurd hi no) (fun c _ k o i hi=>absurd hi no) g4 hk (fun k o i hi=>absurd hi no) (fun _ _ k o i hi=>absurd hi no)).mono (fun d' _ h=>?_) fun _ _=>trivial;obtain ⟨a,b,T,e1,e2⟩:=h;exact ⟨a,b,T,e1,by rw [e2,wrs_end hl2]⟩
end
theorem jents_b {b:List UInt8} {n s p:Nat} : ∀f∈jents b n s p,f.b.length=n:=by
 fun_induction jents b n s p with
 | case1 p h ih=>
  intro f hf;rcases List.mem_cons.1 hf with rfl | hf
  ·have:=h.1;simp only [jraw,List.length_take,List.length_drop];omega
  ·exact ih f hf
 | case2 p h=>intro f hf;cases hf
theorem jscan_good {g:List UInt8} (h:(jscanN g).2.2.2=0):(∀f∈(jscanN g).2.2.1,1≤f.page∧f.b.length=(jscanN g).1)∧(jscanN g).1≤4096∧(jscanN g).2.1*(jscanN g).1≤16777216:=by
 revert h;unfold jscanN;split
 ·exact fun h=>by cases h
 ·split
  ·exact fun h=>by cases h
  ·split
   ·exact fun h=>by cases h
   ·rename_i h3;intro _;have h4:jhOk g=true:=by simpa using h3
    simp only [jhOk,Bool.and_eq_true,decide_eq_true_eq] at h4;obtain ⟨a,b,c,d⟩:=okJ_le h4.1;exact ⟨fun f hf=>⟨(jents_page f hf).1,jents_b f hf⟩,a,by rw [Nat.mul_comm];exact c⟩
noncomputable def opnQ (z:Nat) (f g:List UInt8) (mk:Nat):List (List UInt8) × Int:=
 if mk=0 then wholeN f z else
 if (jscanN g).2.2.2≠0∨(jscanN g).2.2.1.length<mk-1 then ([],14) else
 if 65536<(jscanN g).2.1*(jscanN g).1 then ([],-1) else
 if ((jscanN g).2.2.1.take (mk-1)).any (fun f=>decide (64<f.page))=true then ([],-1) else
 wholeN (layQ (jscanN g).1 (jscanN g).2.1 (firstF [] ((jscanN g).2.2.1.take (mk-1))) (longN f ((jscanN g).2.1*(jscanN g).1))) z
section
variable {z mk:Nat} {f g:List UInt8}
theorem oq0 (h:mk=0):opnQ z f g mk=wholeN f z:=if_pos h
variable (h0:¬mk=0)
include h0
theorem oq1 (h:(jscanN g).2.2.2≠0∨(jscanN g).2.2.1.length<mk-1):opnQ z f g mk=([],14):=by unfold opnQ;rw [if_neg h0,if_pos h]
variable (h1:¬((jscanN g).2.2.2≠0∨(jscanN g).2.2.1.length<mk-1))
include h1
theorem oq2 (h:65536<(jscanN g).2.1*(jscanN g).1):opnQ z f g mk=([],-1):=by unfold opnQ;rw [if_neg h0,if_neg h1,if_pos h]
variable (h2:¬65536<(jscanN g).2.1*(jscanN g).1)
include h2
theorem oq3 (h:((jscanN g).2.2.1.take (mk-1)).any (fun f=>decide (64<f.page))=true):opnQ z f g mk=([],-1):=by unfold opnQ;rw [if_neg h0,if_neg h1,if_neg h2,if_pos h]
theorem oq4 (h:¬((jscanN g).2.2.1.take (mk-1)).any (fun f=>decide (64<f.page))=true):opnQ z f g mk=wholeN (layQ (jscanN g).1 (jscanN g).2.1 (firstF [] ((jscanN g).2.2.1.take (mk-1))) (longN f ((jscanN g).2.1*(jscanN g).1))) z:=by unfold opnQ;rw [if_neg h0,if_neg h1,if_neg h2,if_neg h]
end
def FndB (z:Nat) (f:List UInt8) (w:List (List UInt8) × Int) (D:Dk) (r:Nat × Nat):Prop:=
 r=((if w.2=0 then w.1.length*z else 0),w.2.toNat)∧0≤w.2∧(w.2=0→PgOk z w.1∧CleanB w.1 D∧w.1.flatten=f)
theorem lookB_whole {D:Dk} {t:Option (List UInt8)} {z:Nat} (S:SynB D t none none) (hz:okSz z=true) (hl:(t.getD []).length≤65536):FndB z (t.getD []) (wholeN (t.getD []) z) D (lookB D z):=by
 have hzb:=okSz_b hz;have st:FSt (D.fs nT) t [] t:=by rw [S.T];exact .syn t
 have hsz:=size_st S.hd st;by_cases h0:t.getD []=[]
 ·have e:wholeN (t.getD []) z=([],0):=by unfold wholeN;rw [if_pos h0]
  have e2:lookB D z=(0,0):=by unfold lookB;rw [if_pos (by rw [hsz,h0];exact .inr rfl)]
  rw [e,e2,h0];exact ⟨by simp,Int.le_refl _,fun _=>⟨⟨hz,by simp,by simp,by simp⟩,⟨t,S,h0⟩,rfl⟩⟩
 ·obtain ⟨b,rfl⟩:∃b,t=some b:=by cases t;exact absurd rfl h0;exact ⟨_,rfl⟩
  simp only [Option.getD_some] at h0 hl hsz⊢;have hr:=read_st (p:=0) (z:=64) S.hd nT_ok st;rw [List.drop_zero,show ((0:Nat):Int)=0 from rfl,show ((64:Nat):Int)=64 from rfl] at hr;have hp:0<b.length:=List.length_pos_iff.2 h0;have g1:¬((sizeN D nT).2=false∨(sizeN D nT).1=0):=by rw [hsz];rintro (h | h);cases h;exact absurd h (by show b.length≠0;omega)
  have g3:(readN D nT 0 64).2=0:=by rw [hr]
  have eS:(sizeN D nT).1=b.length:=by rw [hsz]
  have eR:(readN D nT 0 64).1=b.take 64:=by rw [hr]
  by_cases h64:b.length<64
  ·have e:wholeN b z=([],14):=by unfold wholeN;rw [if_neg h0,if_pos h64]
   have hd6:(decN (b.take 64)).2=6:=by rw [dec6 (by rw [List.length_take];omega)]
   have e2:lookB D z=(0,14):=by unfold lookB;rw [if_neg g1,if_neg (by omega),if_pos (by rw [eR,hd6];left;decide)]
   rw [e,e2];exact ⟨rfl,by decide,fun h=>by cases h⟩
  by_cases h14:(decN (b.take 64)).2≠0∨(b.length:Int)%(decN (b.take 64)).1.size≠0
  ·have e:wholeN b z=([],14):=by unfold wholeN;rw [if_neg h0,if_neg h64,if_pos h14]
   have e2:lookB D z=(0,14):=by unfold lookB;rw [if_neg g1,if_neg (by omega),eR,eS,if_pos h14]
   rw [e,e2];exact ⟨rfl,by decide,fun h=>by cases h⟩
  by_cases h1:(decN (b.take 64)).1.size≠z
  ·have e:wholeN b z=([],1):=by unfold wholeN;rw [if_neg h0,if_neg h64,if_neg h14,if_pos h1]
   have e2:lookB D z=(0,1):=by unfold lookB;rw [if_neg g1,if_neg (by omega),eR,eS,if_neg h14,if_pos h1]
   rw [e,e2];exact ⟨rfl,by decide,fun h=>by cases h⟩
  ·have e:wholeN b z=(pgsN z b,0):=by unfold wholeN;rw [if_neg h0,if_neg h64,if_neg h14,if_neg h1]
   have hz0:0<z:=by omega
   have hmo:¬mostB z<b.length / z:=by
    have q1:b.length / z≤256:=Nat.div_le_of_le_mul (Nat.le_trans hl (by omega));have q2:256≤mostB z:=by unfold mostB;exact (Nat.le_div_iff_mul_le (by omega)).2 (by omega)
    omega
   have e2:lookB D z=(b.length,0):=by unfold lookB;rw [if_neg g1,if_neg (by omega),eR,eS,if_neg h14,if_neg h1,if_neg hmo]
   have hd1:(decN (b.take 64)).2=0:=Classical.byContradiction fun h=>h14 (.inl h);have hs1:(decN (b.take 64)).1.size=z:=Classical.byContradiction fun h=>h1 h;have hmod:b.length%z=0:=by
    have:(b.length:Int)%(z:Int)=0:=by rw [←hs1];exact Classical.byContradiction fun h=>h14 (.inr h)
    omega
   have hfl:=pgsN_flat hz0 hmod;have hone:=pgsN_one hz0 hmod;have hmul:=pgsN_mul hz0 hmod;rw [e,e2];refine ⟨by rw [if_pos rfl,pgsN_len,hmul];rfl,Int.le_refl _,fun _=>⟨⟨hz,hone,by rw [pgsN_len,hmul];omega,fun hne=>?_⟩,⟨some b,S,hfl.symm⟩,hfl⟩⟩;have hlp:0<(pgsN z b).length:=List.length_pos_iff.2 hne;have e3:(pgsN z b).getD 0 []=b.take z:=by
    have:(pgsN z b).getD 0 []=(pgsN z b)[0]:=by simp [hlp]
    rw [this,pgsN_at hlp,Nat.zero_mul,List.drop_zero]
   have hle:z≤b.length:=by rw [pgsN_len] at hlp;exact Nat.le_of_not_lt fun h=>by rw [Nat.div_eq_of_lt h] at hlp;omega
   unfold hdOk;rw [e3,←decN_take (by rw [List.length_take];omega),List.take_take,Nat.min_eq_left (by omega)];exact decide_eq_true ⟨hd1,hs1⟩
theorem layQ_len {n k:Nat} {l:List Fr} {U:List UInt8} (hl:∀f∈l,FrQ n f) (hU:U.length=k*n):(layQ n k l U).length=k*n:=(lay_wrs (o:=some U) hl hU fun _ _=>rfl).1
theorem opnQ_own {D:Dk} {t g m:Option (List UInt8)} {z:Nat} {room:Int} (S:SynB D t g m) (hz:okSz z=true) (hl:D.left<0) (ht:(t.getD []).length≤65536) (hg:(g.getD []).length≤16777216) (hr:1≤room∧room≤1048576) (hb:0≤(opnQ z (t.getD []) (g.getD []) (mlen m)).2) :
  (openB D z room).2=((if (opnQ z (t.getD []) (g.getD []) (mlen m)).2=0 then (opnQ z (t.getD []) (g.getD []) (mlen m)).1.length*z else 0),(opnQ z (t.getD []) (g.getD []) (mlen m)).2.toNat)∧((opnQ z (t.getD []) (g.getD []) (mlen m)).2=0→PgOk z (opnQ z (t.getD []) (g.getD []) (mlen m)).1∧CleanB (opnQ z (t.getD []) (g.getD []) (mlen m)).1 (openB D z room).1∧(opnQ z (t.getD []) (g.getD []) (mlen m)).1.flatten.length≤65536∧(openB D z room).1.left<0):=by
 have hzb:=okSz_b hz;have h1:okZ (z:Int)=true:=by rw [okZ_nat];exact hz
 have stM:FSt (D.fs nM) m [] m:=by rw [S.M];exact .syn m
 have hsz:=size_st S.hd stM;have fin:∀ {T:Option (List UInt8)},(healB D).2=0→SynB (healB D).1 T none none→(healB D).1.left<0→(T.getD []).length≤65536→(openB D z room).2=((if (wholeN (T.getD []) z).2=0 then (wholeN (T.getD []) z).1.length*z else 0),(wholeN (T.getD []) z).2.toNat)∧((wholeN (T.getD []) z).2=0→PgOk z (wholeN (T.getD []) z).1∧CleanB (wholeN (T.getD []) z).1 (openB D z room).1∧(wholeN (T.getD []) z).1.flatten.length≤65536∧(openB D z room).1.left<0):=fun {T} h0 S2 hl2 hT=>by
  have hf:=lookB_whole S2 hz hT;unfold openB;rw [if_neg (by rw [h1];decide),if_neg (by omega),if_neg (by rw [S.hd];decide),if_neg (by omega),Int.toNat_natCast];refine ⟨hf.1,fun h=>?_⟩;obtain ⟨a,b,c⟩:=hf.2.2 h;exact ⟨a,b,by rw [c];exact hT,hl2⟩
 have err:∀ {c:Nat},(healB D).2=c→c≠0→(openB D z room).2=(0,c):=fun {c} h hc=>by
  unfold openB;rw [if_neg (by rw [h1];decide),if_neg (by omega),if_neg (by rw [S.hd];decide),if_pos (by omega),h]
 by_cases h0:mlen m=0
 ·rw [oq0 h0];have hh:healB D=overB D:=by
   rw [heal_no (by rw [hsz];rintro ⟨_,h2⟩;unfold mlen at h0;simp only at h2;omega),if_neg (by rw [S.hd];decide)]
  obtain ⟨c1,c2,c3,c4⟩:=res_ok (bover_res S.hd S.T S.J S.M) hl;rw [←hh] at c1 c2 c3 c4;exact fin c1 ⟨c2,c4.1,c4.2.1,c4.2.2⟩ c3 ht
 ·obtain ⟨mb,rfl,hmb⟩:=mlen_pos h0;have hc:(sizeN D nM).2=true∧0<(sizeN D nM).1:=⟨by rw [hsz];rfl,by rw [hsz];exact Nat.pos_of_ne_zero h0⟩;have hn:(sizeN D nM).1=mlen (some mb):=by rw [hsz];rfl
  have hrd:∃k,readN D nJ 0 16777216=(g.getD [],k)∧k≠13∧(k≠0→g=none):=by
   cases g with
   | none=>
    have sJ:FSt (D.fs nJ) none [] none:=by rw [S.J];exact .syn none
    exact ⟨4,read_no (p:=0) (z:=16777216) S.hd nJ_ok sJ,by decide,fun _=>rfl⟩
   | some G=>
    have sJ:FSt (D.fs nJ) (some G) [] (some G):=by rw [S.J];exact .syn _
    have h:=read_st (p:=0) (z:=16777216) S.hd nJ_ok sJ;rw [List.drop_zero,List.take_of_length_le (show G.length≤16777216 from hg)] at h;exact ⟨0,h,by decide,fun h=>absurd rfl h⟩
  obtain ⟨k,hrd,hk13,hk0⟩:=hrd;generalize hG:g.getD []=G at hrd hg hb⊢;by_cases he:(jscanN G).2.2.2≠0∨(jscanN G).2.2.1.length<mlen (some mb)-1
  ·rw [oq1 h0 he];have hj:healJ D (sizeN D nM).1=(D,14):=hJ_14 rfl (by rw [hrd];exact hk13) (by rw [hrd,hn];exact .inr he);exact ⟨err (c:=14) (by rw [heal_e hc (by rw [hj];simp),hj]) (by decide),fun h=>by cases h⟩
  have hk:k=0:=by
   refine Classical.byContradiction fun h=>he (.inl ?_);have:=hk0 h;subst this;rw [←hG];rw [show jscanN (none.getD [])=(0,0,[],6) from jscan_1 (by decide)];decide
  by_cases h2:65536<(jscanN G).2.1*(jscanN G).1
  ·rw [oq2 h0 he h2] at hb;exact absurd hb (by decide)
  by_cases h3:((jscanN G).2.2.1.take (mlen (some mb)-1)).any (fun f=>decide (64<f.page))=true
  ·rw [oq3 h0 he h2 h3] at hb;exact absurd hb (by decide)
  rw [oq4 h0 he h2 h3];have hs0:(jscanN G).2.2.2=0:=Classical.byContradiction fun h=>he (.inl h);obtain ⟨q1,q2,q3⟩:=jscan_good hs0;have hfr:∀f∈(jscanN G).2.2.1.take (mlen (some mb)-1),FrQ (jscanN G).1 f:=fun f hf=>by
   have a:=q1 f (List.mem_of_mem_take hf);refine ⟨⟨a.1,?_⟩,a.2⟩;refine Int.not_lt.1 fun h=>h3 ?_;exact List.any_eq_true.2 ⟨f,hf,decide_eq_true h⟩
  have hj:healJ D (sizeN D nM).1=restoreB D (jscanN G).1 (jscanN G).2.1 ((jscanN G).2.2.1.take (mlen (some mb)-1)):=by
   rw [hJ_go (J:=jscanN G) (by rw [hrd]) (by rw [hrd];exact hk13) (by rw [hrd,hk,hn];rintro (h | h);exact h rfl;exact he h),hn]
  obtain ⟨c1,c2,c3,c4,c5,T,c6,c7⟩:=res_ok (rest_any S.hd S.T S.J S.M hfr q2 q3) hl;have hh:healB D=overB (restoreB D (jscanN G).1 (jscanN G).2.1 ((jscanN G).2.2.1.take (mlen (some mb)-1))).1:=by
   rw [heal_0 hc (by rw [hj];exact c1),hj,if_neg (by rw [c2];decide)]
  obtain ⟨d1,d2,d3,d4⟩:=res_ok (bover_res c2 c6 c4 c5) c3;rw [←hh] at d1 d2 d3 d4;rw [←c7];refine fin d1 ⟨d2,d4.1,d4.2.1,d4.2.2⟩ d3 ?_;rw [c7,layQ_len (fun f hf=>hfr f (firstF_sub hf)) (longN_len _ _)];omega
def layDB (f g m:List UInt8):Dk:=layN (layN (layN newN nT f) nJ g) nM m
theorem layDB_syn {f g m:List UInt8} (hf:f.length≤16777216) (hg:g.length≤16777216) (hm:m.length≤16777216):SynB (layDB f g m) (if f=[] then none else some f) (if g=[] then none else some g) (if m=[] then none else some m)∧(layDB f g m).left<0:=by
 have h1:=(lay_spec (D:=newN) (n:=nT) (b:=f) rfl (by decide) nT_ok rfl hf).1;have h2:=(lay_spec (D:=layN newN nT f) (n:=nJ) (b:=g) h1.hd h1.left nJ_ok (by rw [h1.ne _ nJT];rfl) hg).1;have h3:=(lay_spec (D:=layN (layN newN nT f) nJ g) (n:=nM) (b:=m) h2.hd h2.left nM_ok (by rw [h2.ne _ nMJ,h1.ne _ nMT];rfl) hm).1;exact ⟨⟨h3.hd,by rw [show (layDB f g m).fs nT=_ from h3.ne _ nMT.symm,h2.ne _ nJT.symm];exact h1.at',by rw [show (layDB f g m).fs nJ=_ from h3.ne _ nMJ.symm];exact h2.at',h3.at'⟩,h3.left⟩
open Go Go.HL
theorem PgB.rows {h:Heap} {E:Nat→Prop} {x:SV} {l:List RB} (r:PgB h E x l):RdL h E E x (pgs l):=by
 obtain ⟨a,n,c⟩:=x;have hn:n=l.length:=r.n;refine ⟨by rw [pgs_len];exact r.n,r.m.1,r.m.2,fun hp=>?_⟩;rw [pgs_len] at hp;obtain ⟨b,o,rfl,hE⟩:=r.pos (by omega);refine ⟨b,o,rfl,hE,fun i hi=>?_⟩;have hil:i<l.length:=by rwa [pgs_len] at hi
 refine ⟨[.slice l[i].a l[i].l.length l[i].c],⟨(l[i].a,l[i].l.length,l[i].c),rfl,by rw [pgs_at hil];exact r.by' _ (List.getElem_mem hil)⟩,fun j v hj=>?_⟩;have hj0:j=0:=by have:=(List.getElem?_eq_some_iff.1 hj).1;simpa using this
 subst hj0;have:=sl_at1 RB.cells_len r.sl hil (v:=v) hj;simpa [Rep.k] using this
theorem whole_any {h:Heap} {FF FE:Nat→Prop} {fa:Option Addr} {fc z:Nat} {f:List UInt8} (hf:RdL h FF FE (fa,f.length,fc) f) (hz:okSz z=true) (hN:f.length≤100000000):HC Tryz.prog 64 #[.slice fa f.length fc,.int .i64 (z:Int)] h (fun v h'=>∃E' a c l,v=.tuple #[.slice a l.length c,.int .i64 (wholeN f z).2]∧pgs l=(wholeN f z).1∧Ext h h'∧PgB h' E' (a,l.length,c) l∧∀j,E' j→(FF j∨FE j)∨Nw h h' j):=by
 have hzb:=okSz_b hz;have hz0:0<z:=by omega
 have hfc:=hf.c;have hfm:=hf.m;simp only at hfc hfm;have ok:=(Hp.nil h none_).arg hf;refine HC.go Tryz.func64 53 ?_;refine .seq<|.r<|.z .asS<|.z .asI<|.nil ?_;refine .seq<|.seq<|.r<|.z .mvS<|.z (.len T.el22)<|.z .eql<|.nil ?_;refine .cd (fun C0=>?_) (fun C0=>?_)
 ·
  refine .seq<|.r<|.z .asS<|.z .asI<|.nil ?_;refine .ret ⟨.tuple #[.slice none 0 0,.int .i64 0],Res.two rfl rfl rfl,⟨none_,none,0,[],by rw [wh0 (List.eq_nil_of_length_eq_zero (by omega))];rfl,by rw [wh0 (List.eq_nil_of_length_eq_zero (by omega))];rfl,ok.chg,RwB.nil _ _ 0 (by decide),fun j f=>f.elim⟩⟩
 refine .skip<|.seq<|.seq<|.r<|.z .mvS<|.z (.len T.el22)<|.z .lss<|.nil ?_;refine .cd (fun C1=>?_) (fun C1=>?_)
 ·
  refine .seq<|.r<|.z .asS<|.z .asI<|.nil ?_;refine .ret ⟨.tuple #[.slice none 0 0,.int .i64 14],Res.two rfl rfl rfl,⟨none_,none,0,[],by rw [wh1 (fun h9=>by rw [h9] at C0;exact C0 rfl) (by omega)];rfl,by rw [wh1 (fun h9=>by rw [h9] at C0;exact C0 rfl) (by omega)];rfl,ok.chg,RwB.nil _ _ 0 (by decide),fun j f=>f.elim⟩⟩
 refine .skip<|.seq<|.r<|.z .mvS<|.z (.sl_h ((f.take 64).length) T.el22 T.sz5 (hb:=by (simp;omega)))<|?_;have ok:=ok.d0 (rdI (fun j=>FF j∧j<h.size) (fun j=>FE j∧j<h.size) (fa,(f.take 64).length,fc) (f.take 64)) ((ok.r0).pre (l2:=f.take 64) (List.take_prefix _ _)) (fun _ h=>h);refine .c' 19 .func (rdec_any (a:=fa) (c:=fc) (l:=f.take 64) ok.r0) ?_;rintro _ η1 ⟨rfl,hx⟩;rw [show (decN (f.take 64)).1.val=.agg #[.int .i64 (decN (f.take 64)).1.size,.int .i64 (decN (f.take 64)).1.pages,.int .i64 (decN (f.take 64)).1.free,.int .i64 (decN (f.take 64)).1.many,.int .i64 (decN (f.take 64)).1.cookie,.int .i64 (decN (f.take 64)).1.version] from rfl];have ok:=ok.ext hx;refine .z .mvU<|.z .ex<|.z .ex<|.a' 6 (.alA T.zr148 ok) ?_;rintro _ η2 ⟨pb1,rfl,ok,xe⟩;refine .ur' (.stW (vs:=[.int .i64 ((decN (f.take 64)).1.size),.int .i64 ((decN (f.take 64)).1.pages),.int .i64 ((decN (f.take 64)).1.free),.int .i64 ((decN (f.take 64)).1.many),.int .i64 ((decN (f.take 64)).1.cookie),.int .i64 ((decN (f.take 64)).1.version)]) T.sz148 ok (oneL rfl)) ?_;rintro η3 ⟨ok,cg⟩;refine .z .asI<|.nil ?_;refine .seq<|.seq<|.r<|.z .mvI<|.z .neq<|.z .mvB<|.sd (fun G24=>?_) (fun G24=>?_)
 ·
  refine .y<|.y<|.y<|.y<|.y<|.y<|.z .pkt<|.nil ?_;refine .ct<|.seq<|.r<|.z .asS<|.z .asI<|.nil ?_;refine .ret ⟨.tuple #[.slice none 0 0,.int .i64 14],Res.two rfl rfl rfl,⟨none_,none,0,[],by rw [wh2 (show ¬f.length<64 by omega) (by first | exact .inl (by omega) | exact .inr (by omega))];rfl,by rw [wh2 (show ¬f.length<64 by omega) (by first | exact .inl (by omega) | exact .inr (by omega))];rfl,ok.chg,RwB.nil _ _ 0 (by decide),fun j f=>f.elim⟩⟩
 have hdz:=okZ_cases (dec_sz (show (decN (f.take 64)).2=0 by omega));refine .z .mvS<|.z (.len T.el22)<|.z (.fa T.fd148_0)<|.z (.ldx T.ag3 ok.m0)<|.z .rem<|.z .neq<|.z .pkf<|.nil ?_;refine .cd (fun C2=>?_) (fun C2=>?_)
 ·
  refine .seq<|.r<|.z .asS<|.z .asI<|.nil ?_;refine .ret ⟨.tuple #[.slice none 0 0,.int .i64 14],Res.two rfl rfl rfl,⟨none_,none,0,[],by rw [wh2 (show ¬f.length<64 by omega) (by first | exact .inl (by omega) | exact .inr (by omega))];rfl,by rw [wh2 (show ¬f.length<64 by omega) (by first | exact .inl (by omega) | exact .inr (by omega))];rfl,ok.chg,RwB.nil _ _ 0 (by decide),fun j f=>f.elim⟩⟩
 refine .skip<|.seq<|.seq<|.r<|.z (.fa T.fd148_0)<|.z (.ldx T.ag3 ok.m0)<|.z .mvI<|.z .neq<|.nil ?_;refine .cd (fun C3=>?_) (fun C3=>?_)
 ·
  refine .seq<|.r<|.z .asS<|.z .asI<|.nil ?_;refine .ret ⟨.tuple #[.slice none 0 0,.int .i64 1],Res.two rfl rfl rfl,⟨none_,none,0,[],by rw [wh3 (show ¬f.length<64 by omega) (by rintro (h9 | h9)<;>omega) (by omega)];rfl,by rw [wh3 (show ¬f.length<64 by omega) (by rintro (h9 | h9)<;>omega) (by omega)];rfl,ok.chg,RwB.nil _ _ 0 (by decide),fun j f=>f.elim⟩⟩
 have hs3:(decN (f.take 64)).1.size=z:=by omega
 have h2n:¬((decN (f.take 64)).2≠0∨(f.length:Int)%(decN (f.take 64)).1.size≠0):=by rintro (h9 | h9)<;>omega
 have hmod:=wh_mod (show ¬f.length<64 by omega) h2n hs3;have hmul:=pgsN_mul hz0 hmod;refine .skip<|.seq<|.r<|.z .asS<|.nil ?_;refine .seq<|.seq<|?_;have ok:=ok.nilC (k:=1) (e:=22);have ok:=ok.d1 (pbyI (fun j=>(FF j∧j<h.size)∨FE j∧j<h.size) []) Pby.nil (fun _ h=>h);refine .r<|.z .asI<|.nil ?_;refine .block fun K0 hK0=>.loop (fun m s hh=>∃(k:Nat) (ol:List RB) (a8:Option Addr) (c8:Nat),Has s [(0,.slice fa f.length fc),(1,.int .i64 (z:Int)),(8,.slice a8 ol.length c8),(9,.int .i64 ((z*k:Nat):Int))]∧Hp h none_ [capI 1 22 (a8,ol.length,c8) (ol.flatMap RB.cells)] [rdI (fun j=>FF j∧j<h.size) (fun j=>FE j∧j<h.size) (fa,f.length,fc) f,pbyI (fun j=>(FF j∧j<h.size)∨FE j∧j<h.size) ol] hh∧k≤f.length / z∧ol.length=k∧pgs ol=(pgsN z f).take k∧m=f.length / z-k) ?_ ?_
 ·exact ⟨_,0,[],none,0,⟨rfl,rfl,rfl,rfl,trivial⟩,(ok).k1.f2.e2,Nat.zero_le _,rfl,rfl,rfl⟩
 rintro _ _ η4 ⟨k,ol,a8,c8,hs,ok,hk,hol,hpo,rfl⟩ J0 hJ0;refine .frame hs fun τ=>?_;refine .seq<|.seq<|.r<|.z .mvI<|.z .mvS<|.z (.len T.el22)<|.z .lss<|.nil ?_;refine .cdr (fun C4=>?_) (fun C4=>?_)
 ·
  have hkl:k=f.length / z:=by
   refine Nat.le_antisymm hk (Nat.le_of_not_lt fun h9=>?_);have h8:(k+1)*z≤f.length / z*z:=Nat.mul_le_mul_right _ h9;rw [Nat.succ_mul,hmul,Nat.mul_comm k z] at h8;omega
  refine .exit<|hK0 _ _<|.seq<|.r<|.z .mvS<|.z .asS<|.z .asI<|.nil ?_;refine .ret ⟨.tuple #[.slice a8 ol.length c8,.int .i64 0],Res.two rfl rfl rfl,⟨_,a8,c8,ol,by rw [wh4 (show ¬f.length<64 by omega) h2n hs3],by rw [wh4 (show ¬f.length<64 by omega) h2n hs3,hpo,List.take_of_length_le (by rw [pgsN_len];omega)],ok.chg,(PgB.of ok.m0 ok.r1 (fun j hj=>.inl hj) (fun j hj=>.inr hj):PgB _ (fun j=>blkC (sv (a8,ol.length,c8)) j∨(fun j=>(FF j∧j<h.size)∨FE j∧j<h.size) j) _ _),fun j hj=>hj.elim (fun h1=>let q:=((ok).m _ List.mem_cons_self).2 j h1;.inr ⟨q.2.elim (fun f=>f.elim) id,q.1⟩) (fun h1=>.inl (h1.imp (·.1) (·.1)))⟩⟩
 have hkl:k<f.length / z:=Nat.lt_of_mul_lt_mul_right (show k*z<f.length / z*z by rw [hmul,Nat.mul_comm];omega);have hkz:z*k+z≤f.length:=by have h9:(k+1)*z≤f.length / z*z:=Nat.mul_le_mul_right _ hkl;rw [Nat.succ_mul,hmul,Nat.mul_comm k z] at h9;exact h9
 refine .skip<|.seq<|.block fun K1 hK1=>.r<|.z .mvS<|.z .mvS<|.z .mvI<|.z .mvI<|.z .mvI<|.z .addI<|.z (.slh (z*k) ((z*k)+z) T.el22 T.sz5)<|?_;generalize hc1:cutA fa (z*k) fc 1=ca1;generalize hn1:((z*k)+z)-(z*k)=cn1;obtain rfl:cn1=((f.drop (z*k)).take z).length:=by rw [←hn1];simp;omega
 have ok:=ok.d0 (rdI (fun j=>FF j∧j<h.size) (fun j=>FE j∧j<h.size) (ca1,((f.drop (z*k)).take z).length,fc-(z*k)) ((f.drop (z*k)).take z)) (by have h1:=ok.r0.cut (i:=(z*k)) (j:=((z*k)+z)) (by omega) (by omega);rw [show ((f).drop (z*k)).take (((z*k)+z)-(z*k))=(f.drop (z*k)).take z from by congr 1;omega] at h1;rw [←hc1,←hn1];exact h1) (fun _ h=>h);refine .a' 50 (.lit [.tmp 49] (cs:=[.slice ca1 (((f.drop (z*k)).take z).length) (fc-(z*k))]) T.el26 T.sz22 T.zr22 ok ⟨rfl,trivial⟩) ?_;rintro _ η5 ⟨pb2,rfl,ok,xe⟩;refine .a' 51 (.app (news:=[.slice ca1 (((f.drop (z*k)).take z).length) (fc-(z*k))]) T.el26 T.sz22 T.by22 T.zr22 ok.n1 (ok.n1.m1).sl (oneL rfl) (by rw [flat_len RB.cells_len];simp only [List.length_cons,List.length_nil];have:=Nat.div_le_self f.length z;omega)) ?_;rintro _ η6 ⟨ya1,yn1,yc1,rfl,ok,ap⟩;have ok:=(ok).cx (ys:=(ol++[(⟨ca1,fc-(z*k),(f.drop (z*k)).take z⟩:RB)]).flatMap RB.cells) (by simp [RB.cells]);obtain rfl:yn1=(ol++[(⟨ca1,fc-(z*k),(f.drop (z*k)).take z⟩:RB)]).length:=(Sl.sz (Cap.sl ok.m0) RB.cells_len (by decide)).1.symm;have ok:=ok.d1 (pbyI (fun j=>(FF j∧j<h.size)∨FE j∧j<h.size) (ol++[(⟨ca1,fc-(z*k),(f.drop (z*k)).take z⟩:RB)])) (fun y hy=>(List.mem_append.1 hy).elim (fun h1=>ok.r2 y h1) (fun h1=>by rw [List.mem_singleton.1 h1];exact (ok.r0).mono (fun _ h=>.inl h) (fun _ h=>.inr h))) (fun _ h=>h);refine .z .asS<|.nil ?_;refine .end<|hK1 _ _<|.r<|.z .mvI<|.z .mvI<|.z .addI<|.z .asI<|.nil ?_;refine .end<|hJ0 _ _ _ ⟨k+1,ol++[(⟨ca1,fc-(z*k),(f.drop (z*k)).take z⟩:RB)],ya1,yc1,⟨rfl,rfl,rfl,rfl,trivial⟩,(ok).k1.f2.e2,by omega,by simp [hol],by rw [pgs_snoc,hpo,List.take_succ_eq_append_getElem (by rw [pgsN_len];exact hkl),pgsN_at,Nat.mul_comm k z],rfl⟩ (by omega)
theorem fixedN_rdN {l:List UInt8} {p k:Nat} (h:p+k≤l.length):fixedN (rdN l p k) k=(l.drop p).take k:=by
 have:=fixedN_beN ((l.drop p).take k);rwa [show ((l.drop p).take k).length=k by simp;omega] at this
theorem jraw_body {l:List UInt8} {n p:Nat} (h:p+n+8≤l.length):jbodyN (rdN l p 4) (jraw l n p).b=(l.drop p).take (4+n):=by
 show fixedN _ 4++(l.drop (p+4)).take n=_;rw [fixedN_rdN (by omega),List.take_add,List.drop_drop]
theorem jfits_iff {l:List UInt8} {n s p:Nat} (h:p+n+8≤l.length) (hz:okSz n=true):jfits l n s p↔okE (jraw l n p)=true∧jputN s (rdN l p 4) (jraw l n p).b=(l.drop p).take (n+8):=by
 have e1:(l.drop p).take (n+8)=(l.drop p).take (4+n)++(l.drop (p+4+n)).take 4:=by
  rw [show n+8=(4+n)+4 by omega,List.take_add,List.drop_drop,show p+(4+n)=p+4+n by omega]
 have e2:jputN s (rdN l p 4) (jraw l n p).b=(l.drop p).take (4+n)++jfootN s ((l.drop p).take (4+n)):=by unfold jputN;rw [jraw_body h]
 have e3:okE (jraw l n p)=true↔1≤rdN l p 4∧rdN l p 4≤1048576:=by
  have:(jraw l n p).b.length=n:=by simp [jraw];omega
  simp only [okE,this,hz,Bool.and_true,decide_eq_true_eq];show (1≤((rdN l p 4:Nat):Int)∧((rdN l p 4:Nat):Int)≤1048576∧(0:Int)=0)↔_;constructor
  ·rintro ⟨h1,h2,_⟩;exact ⟨by omega,by omega⟩
  ·rintro ⟨h1,h2⟩;exact ⟨by omega,by omega,rfl⟩
 rw [e1,e2,List.append_cancel_left_eq,e3];exact ⟨fun q=>⟨q.2.1,q.2.2⟩,fun q=>⟨h,q.1,q.2⟩⟩
theorem jrscan_any {h:Heap} {F E:Nat→Prop} {a:Option Addr} {c:Nat} {l:List UInt8} (hl:RdL h F E (a,l.length,c) l) (hN:l.length≤100000000) :
  HC Tryz.prog 102 #[.slice a l.length c] h (fun v h'=>∃x,v=.tuple #[.agg #[.int .i64 ((jscanN l).1:Nat),.int .i64 ((jscanN l).2.1:Nat),.int .u64 ((if (jscanN l).2.2.2=0 then rdN l 16 8 else 0:Nat):Int),sv x],.int .i64 ((jscanN l).2.2.2:Nat)]∧Ext h h'∧RdL h' (Nw h h') (Nw h h') x (jscanN l).2.2.1):=by
 have hc2:=hl.m;have hc1:l.length≤c:=hl.c;simp only at hc2;have ok:=(Hp.nil h none_).arg hl;have h41:=rdN_lt4 l 8;have h42:=rdN_lt4 l 12;have h81:=rdN_lt8 l 16;refine HC.go Tryz.func102 127 ?_;refine .seq<|.r<|.a' 2 (.alA T.zr152 ok) ?_;rintro _ η1 ⟨pb1,rfl,ok,xe⟩;refine .z .asI<|.nil ?_;refine .seq<|.seq<|.r<|.z .mvS<|.z (.len T.el22)<|.z .lss<|.nil ?_;refine .cd (fun C0=>?_) (fun C0=>?_)
 ·
  refine .seq<|.r<|.z (.bd #[.int .i64 0,.int .i64 0,.int .u64 0,.slice none 0 0] T.zr152 T.pl152 rfl)<|.ur' (.stW (vs:=[.int .i64 0,.int .i64 0,.int .u64 0,.slice none 0 0]) T.sz152 ok (oneL rfl)) ?_;rintro η2 ⟨ok,cg⟩;refine .z .asI<|.nil ?_;refine .ret ⟨.tuple #[.agg #[.int .i64 0,.int .i64 0,.int .u64 0,.slice none 0 0],.int .i64 6],Res.many (vs:=[.agg #[.int .i64 0,.int .i64 0,.int .u64 0,.slice none 0 0],.int .i64 6]) rfl ⟨⟨_,rfl,load_ag T.ag152 ok.m0 T.sz152⟩,rfl,trivial⟩ rfl,⟨(none,0,0),by rw [jscan_1 (by omega)];rfl,ok.chg,by rw [jscan_1 (by omega)];exact RdL.nil _ _ _⟩⟩
 refine .skip<|.seq<|.seq<|.r<|.z .mvS<|.z (.sl_h ((l.take 8).length) T.el22 T.sz5 (hb:=by (simp;omega)))<|?_;have ok:=ok.d0 (rdI (fun j=>F j∧j<h.size) (fun j=>E j∧j<h.size) (a,(l.take 8).length,c) (l.take 8)) ((ok.r0).pre (l2:=l.take 8) (List.take_prefix _ _)) (fun _ h=>h);refine .z (.bts T.el22 T.in5 T.st9 (ok.r0).by)<|.z .tNeB<|.nil ?_;refine .cd (fun C1=>?_) (fun C1=>?_)
 ·
  refine .seq<|.r<|.z (.bd #[.int .i64 0,.int .i64 0,.int .u64 0,.slice none 0 0] T.zr152 T.pl152 rfl)<|.ur' (.stW (vs:=[.int .i64 0,.int .i64 0,.int .u64 0,.slice none 0 0]) T.sz152 ok (oneL rfl)) ?_;rintro η3 ⟨ok,cg⟩;refine .z .asI<|.nil ?_;refine .ret ⟨.tuple #[.agg #[.int .i64 0,.int .i64 0,.int .u64 0,.slice none 0 0],.int .i64 8],Res.many (vs:=[.agg #[.int .i64 0,.int .i64 0,.int .u64 0,.slice none 0 0],.int .i64 8]) rfl ⟨⟨_,rfl,load_ag T.ag152 ok.m0 T.sz152⟩,rfl,trivial⟩ rfl,⟨(none,0,0),by rw [jscan_2 (by omega) C1];rfl,ok.chg,by rw [jscan_2 (by omega) C1];exact RdL.nil _ _ _⟩⟩
 have hsg:l.take 8=jsign:=Decidable.not_not.1 C1;refine .skip<|.seq<|.r<|.z .mvS<|.k 31 .func (rread_any (p:=8) (size:=4) (a:=a) (c:=c) (l:=l) ok.r1 (by omega) (by omega) (by omega))<|.z .mvU<|.z .ex<|.z .ex<|.z .asI<|.z .asI<|.nil ?_;refine .seq<|.r<|.z .mvS<|.k 36 .func (rread_any (p:=12) (size:=4) (a:=a) (c:=c) (l:=l) ok.r1 (by omega) (by omega) (by omega))<|.z .mvU<|.z .ex<|.z .ex<|.z .asI<|.z .asI<|.nil ?_;refine .seq<|.r<|.z .mvS<|.k 41 .func (rread_any (p:=16) (size:=8) (a:=a) (c:=c) (l:=l) ok.r1 (by omega) (by omega) (by omega))<|.z .mvU<|.z .ex<|.z .ex<|.z .asI<|.z .asI<|.nil ?_;refine .seq<|.r<|.z .mvI<|.z (.cvi T.in3 T.in77)<|.z .mvI<|.z (.cvi T.in3 T.in77)<|.z .mvI<|.c' 50 .func (jrstart_any (n:=(rdN l 8 4)) (k:=(rdN l 12 4)) (s:=(rdN l 16 8)) (by omega) (by omega) (by omega)) ?_;rintro _ η4 (⟨hoj,rfl,hx⟩ | ⟨hoj,w,rfl,own⟩)
 ·
  have ok:=ok.ext hx;have hbad:okJ (rdN l 8 4) (rdN l 12 4)=false∨jheadN (rdN l 8 4) (rdN l 12 4) (rdN l 16 8)≠l.take 28:=.inl hoj;refine .z .mvU<|.z .ex<|.z .ex<|.z .asS<|.z .asI<|.nil ?_;refine .seq<|.seq<|.r<|.z .mvI<|.z .neq<|.z .mvB<|.y<|.y<|.y<|.y<|.y<|.z .pkt<|.nil ?_;refine .ct<|.seq<|.r<|.z (.bd #[.int .i64 0,.int .i64 0,.int .u64 0,.slice none 0 0] T.zr152 T.pl152 rfl)<|.ur' (.stW (vs:=[.int .i64 0,.int .i64 0,.int .u64 0,.slice none 0 0]) T.sz152 ok (oneL rfl)) ?_;rintro η5 ⟨ok,cg⟩;refine .z .asI<|.nil ?_;refine .ret ⟨.tuple #[.agg #[.int .i64 0,.int .i64 0,.int .u64 0,.slice none 0 0],.int .i64 14],Res.many (vs:=[.agg #[.int .i64 0,.int .i64 0,.int .u64 0,.slice none 0 0],.int .i64 14]) rfl ⟨⟨_,rfl,load_ag T.ag152 ok.m0 T.sz152⟩,rfl,trivial⟩ rfl,⟨(none,0,0),by rw [jscan_3 (by omega) hsg hbad];rfl,ok.chg,by rw [jscan_3 (by omega) hsg hbad];exact RdL.nil _ _ _⟩⟩
 obtain ⟨ya1,yc1,rfl⟩:=own.formB;have ok:=ok.own own;have hoj2:=okJ_le hoj;refine .z .mvU<|.z .ex<|.z .ex<|.z .asS<|.z .asI<|.nil ?_;refine .seq<|.seq<|.r<|.z .mvI<|.z .neq<|.z .mvB<|.z .mvS<|.z .mvS<|.z (.sl_h ((l.take 28).length) T.el22 T.sz5 (hb:=by (simp;omega)))<|?_;have ok:=ok.d1 (rdI (fun j=>F j∧j<h.size) (fun j=>E j∧j<h.size) (a,(l.take 28).length,c) (l.take 28)) ((ok.r1).pre (l2:=l.take 28) (List.take_prefix _ _)) (fun _ h=>h);refine .k 59 .func (same_any (a:=ya1) (c:=yc1) (l:=(jheadN (rdN l 8 4) (rdN l 12 4) (rdN l 16 8))) (b:=a) (d:=c) (l2:=l.take 28) (RdL.ofCapB (v:=(ya1,(jheadN (rdN l 8 4) (rdN l 12 4) (rdN l 16 8)).length,yc1)) (l:=(jheadN (rdN l 8 4) (rdN l 12 4) (rdN l 16 8))) ok.m0) ok.r0)<|.z .notd<|.z .pkf<|.nil ?_;refine .cd (fun C2=>?_) (fun C2=>?_)
 ·
  have hbad:okJ (rdN l 8 4) (rdN l 12 4)=false∨jheadN (rdN l 8 4) (rdN l 12 4) (rdN l 16 8)≠l.take 28:=.inr (by simpa using C2);refine .seq<|.r<|.z (.bd #[.int .i64 0,.int .i64 0,.int .u64 0,.slice none 0 0] T.zr152 T.pl152 rfl)<|.ur' (.stW (vs:=[.int .i64 0,.int .i64 0,.int .u64 0,.slice none 0 0]) T.sz152 ok.n1 (oneL rfl)) ?_;rintro η6 ⟨ok,cg⟩;refine .z .asI<|.nil ?_;refine .ret ⟨.tuple #[.agg #[.int .i64 0,.int .i64 0,.int .u64 0,.slice none 0 0],.int .i64 14],Res.many (vs:=[.agg #[.int .i64 0,.int .i64 0,.int .u64 0,.slice none 0 0],.int .i64 14]) rfl ⟨⟨_,rfl,load_ag T.ag152 ok.m0 T.sz152⟩,rfl,trivial⟩ rfl,⟨(none,0,0),by rw [jscan_3 (by omega) hsg hbad];rfl,ok.chg,by rw [jscan_3 (by omega) hsg hbad];exact RdL.nil _ _ _⟩⟩
 have hJ4:=jscan_4 (by omega) hsg hoj (by simpa using C2);refine .skip<|.seq<|.r<|.z .mvI<|.z (.cvi T.in3 T.in77)<|.z .mvI<|.z (.cvi T.in3 T.in77)<|.z .mvI<|.z (.bd #[.int .i64 (((rdN l 8 4):Nat):Int),.int .i64 (((rdN l 12 4):Nat):Int),.int .u64 (((rdN l 16 8):Nat):Int),.slice none 0 0] T.zr152 T.pl152 rfl)<|.a' 12 (.alA T.zr152 ok) ?_;rintro _ η7 ⟨pb2,rfl,ok,xe⟩;refine .ur' (.stW (vs:=[.int .i64 (((rdN l 8 4):Nat):Int),.int .i64 (((rdN l 12 4):Nat):Int),.int .u64 (((rdN l 16 8):Nat):Int),.slice none 0 0]) T.sz152 ok (oneL rfl)) ?_;rintro η8 ⟨ok,cg⟩;refine .nil ?_;refine .seq<|.r<|.z (.fa T.fd152_0)<|.z (.ldx T.ag3 ok.m0)<|.z (.addI (b:=8))<|.z .asI<|.nil ?_;refine .seq<|.seq<|?_;have ok:=ok.accNil 102 Fr;refine .r<|.z .asI<|.nil ?_;refine .block fun K0 hK0=>.loop (fun m s hh=>∃(at_:Nat) (L:List Fr) (a8:Option Addr) (n8 c8:Nat) (E2:Nat→Prop),Has s [(0,.slice a l.length c),(2,.pointer (some ⟨pb1,0,none⟩)),(8,.int .u64 (((rdN l 16 8):Nat):Int)),(12,.pointer (some ⟨pb2,0,none⟩)),(13,.int .i64 (((rdN l 8 4)+8:Nat):Int)),(14,.int .i64 (at_:Int))]∧Hp h none_ [accI 102 (a8,n8,c8) (none,0,0) E2 L [],boxI pb2 152 [.int .i64 (((rdN l 8 4):Nat):Int),.int .i64 (((rdN l 12 4):Nat):Int),.int .u64 (((rdN l 16 8):Nat):Int),.slice a8 n8 c8],boxI pb1 152 [.int .i64 0,.int .i64 0,.int .u64 0,.slice none 0 0]] [rdI (fun j=>F j∧j<h.size) (fun j=>E j∧j<h.size) (a,(l.take 28).length,c) (l.take 28),rdI (fun j=>F j∧j<h.size) (fun j=>E j∧j<h.size) (a,(l.take 8).length,c) (l.take 8),rdI (fun j=>F j∧j<h.size) (fun j=>E j∧j<h.size) (a,l.length,c) l] hh∧L++jents l (rdN l 8 4) (rdN l 16 8) at_=jents l (rdN l 8 4) (rdN l 16 8) 28∧L.length≤at_∧28≤at_∧at_≤l.length∧m=l.length-at_) ?_ ?_
 ·exact ⟨_,28,[],none,0,0,none_,⟨rfl,rfl,rfl,rfl,rfl,rfl,trivial⟩,ok.n3.n2.n2.k3,rfl,Nat.zero_le _,Nat.le_refl _,by omega,rfl⟩
 rintro _ _ η9 ⟨at_,L,a8,n8,c8,E2,hs,ok,hL,hLl,h28,hat,rfl⟩ J0 hJ0;refine .frame hs fun τ=>?_;refine .seq<|.seq<|.r<|.z .mvS<|.z (.len T.el22)<|.z .mvI<|.z .sub<|.z .mvI<|.z .geq<|.nil ?_;refine .cdr (fun C3=>?_) (fun C3=>?_)
 ·
  have hnf:¬jfits l (rdN l 8 4) (rdN l 16 8) at_:=fun h=>by have:=h.1;omega
  have hEnd:jents l (rdN l 8 4) (rdN l 16 8) 28=L:=by rw [←hL,jents_f hnf,List.append_nil]
  refine .exit<|hK0 _ _<|.seq<|.r<|.z (.ldb T.ag152 ok.m1 T.sz152)<|.ur' (.stW (vs:=[.int .i64 (((rdN l 8 4):Nat):Int),.int .i64 (((rdN l 12 4):Nat):Int),.int .u64 (((rdN l 16 8):Nat):Int),.slice a8 n8 c8]) T.sz152 ok.n2 (oneL rfl)) ?_;rintro η10 ⟨ok,cg⟩;refine .z .asI<|.nil ?_;have ok:=(ok.n1).accEq;refine .ret ⟨.tuple #[.agg #[.int .i64 (((rdN l 8 4):Nat):Int),.int .i64 (((rdN l 12 4):Nat):Int),.int .u64 (((rdN l 16 8):Nat):Int),.slice a8 n8 c8],.int .i64 0],Res.many (vs:=[.agg #[.int .i64 (((rdN l 8 4):Nat):Int),.int .i64 (((rdN l 12 4):Nat):Int),.int .u64 (((rdN l 16 8):Nat):Int),.slice a8 n8 c8],.int .i64 0]) rfl ⟨⟨_,rfl,load_ag T.ag152 ok.m1 T.sz152⟩,rfl,trivial⟩ rfl,⟨(a8,n8,c8),by rw [hJ4];rfl,ok.chg,by rw [hJ4];show RdL _ _ _ _ (jents _ _ _ 28);rw [hEnd];exact (ok).m0.l3.mono (fun j hj=>(ok).fresh j (.inr (.inl hj))) (fun j hj=>(ok).fresh j (.inr (.inr hj)))⟩⟩
 refine .skip<|.seq<|.block fun K1 hK1=>.seq<|?_;have h49:=rdN_lt4 l at_;refine .r<|.z .mvS<|.z .mvI<|.k 84 .func (rread_any (p:=at_) (size:=4) (a:=a) (c:=c) (l:=l) ok.r2 (by omega) (by omega) (by omega))<|.z .mvU<|.z .ex<|.z .ex<|.z .asI<|.z .asI<|.nil ?_;refine .seq<|.r<|.z .mvI<|.z (.cvi T.in3 T.in77)<|.a' 89 (.lit [] (cs:=[]) T.el22 T.sz5 T.zr5 ok trivial) ?_;rintro _ η11 ⟨pb3,rfl,ok,xe⟩;have ok:=ok.cx (ys:=([]:List UInt8).map bv) rfl;refine .z .mvS<|.z .mvI<|.z (.addI (b:=4))<|.z .mvI<|.z (.addI (b:=4))<|.z (.fa T.fd152_0)<|.z (.ldx T.ag3 ok.m2)<|.z .addI<|.z (.slh (at_+4) (at_+4+(rdN l 8 4)) T.el22 T.sz5)<|?_;generalize hc1:cutA a (at_+4) c 1=ca1;generalize hn1:(at_+4+(rdN l 8 4))-(at_+4)=cn1;obtain rfl:cn1=((l.drop (at_+4)).take (rdN l 8 4)).length:=by rw [←hn1];simp;omega
 have ok:=ok.d2 (rdI (fun j=>F j∧j<h.size) (fun j=>E j∧j<h.size) (ca1,((l.drop (at_+4)).take (rdN l 8 4)).length,c-(at_+4)) ((l.drop (at_+4)).take (rdN l 8 4))) (by have h1:=ok.r2.cut (i:=(at_+4)) (j:=(at_+4+(rdN l 8 4))) (by omega) (by omega);rw [show ((l).drop (at_+4)).take ((at_+4+(rdN l 8 4))-(at_+4))=(l.drop (at_+4)).take (rdN l 8 4) from by congr 1;omega] at h1;rw [←hc1,←hn1];exact h1) (fun _ h=>h);refine .a' 99 (.app (news:=((l.drop (at_+4)).take (rdN l 8 4)).map bv) T.el22 T.sz5 T.by5 T.zr5 ok (ok.r0).by bv_all (by simp only [List.length_map,List.length_append,List.length_take,List.length_cons,List.length_nil,List.length_replicate,List.length_range,fixedN_len,sealN_len];omega)) ?_;rintro _ η12 ⟨ya2,yn1,yc2,rfl,ok,ap⟩;have ok:=ok.cx (ys:=(((l.drop (at_+4)).take (rdN l 8 4))).map bv) (by simp [bv]);obtain rfl:yn1=(((l.drop (at_+4)).take (rdN l 8 4))).length:=ok.lenB;refine .z (.bd #[.int .i64 (((rdN l at_ 4):Nat):Int),.int .i64 0,.slice ya2 ((((l.drop (at_+4)).take (rdN l 8 4))).length) yc2] T.zr102 T.pl102 rfl)<|.a' 17 (.alA T.zr102 ok) ?_;rintro _ η13 ⟨pb4,rfl,ok,xe⟩;refine .ur' (.stW (vs:=[.int .i64 (((rdN l at_ 4):Nat):Int),.int .i64 0,.slice ya2 ((((l.drop (at_+4)).take (rdN l 8 4))).length) yc2]) T.sz102 ok (oneL rfl)) ?_;rintro η14 ⟨ok,cg⟩;refine .nil ?_;refine .seq<|.r<|.z .mvI<|.z (.ldb T.ag102 ok.m0 T.sz102)<|.c' 104 .func (jrentry_any (s:=(rdN l 16 8)) (z1:=(((rdN l at_ 4):Nat):Int)) (z2:=0) (by omega) (by simp;omega) (a:=ya2) (c:=yc2) (l:=((l.drop (at_+4)).take (rdN l 8 4))) (RdL.ofCapB (v:=(ya2,(((l.drop (at_+4)).take (rdN l 8 4))).length,yc2)) (l:=((l.drop (at_+4)).take (rdN l 8 4))) ok.m1)) ?_;rintro _ η15 (⟨hoe,rfl,hx⟩ | ⟨hoe,w,rfl,own⟩)
 ·
  have ok:=ok.ext hx;have hnf:¬jfits l (rdN l 8 4) (rdN l 16 8) at_:=fun h=>by exact absurd ((jfits_iff (by omega) hoj2.2.2.2).1 h).1 (by rw [show okE (jraw l (rdN l 8 4) at_)=false from hoe];decide)
  have hEnd:jents l (rdN l 8 4) (rdN l 16 8) 28=L:=by rw [←hL,jents_f hnf,List.append_nil]
  refine .z .mvU<|.z .ex<|.z .ex<|.z .asS<|.z .asI<|.nil ?_;refine .seq<|.seq<|.r<|.z .mvI<|.z .neq<|.z .mvB<|.y<|.y<|.y<|.y<|.y<|.y<|.y<|.y<|.y<|.z .pkt<|.nil ?_;refine .ct<|.exit<|hK0 _ _<|.seq<|.r<|.z (.ldb T.ag152 ok.m3 T.sz152)<|.ur' (.stW (vs:=[.int .i64 (((rdN l 8 4):Nat):Int),.int .i64 (((rdN l 12 4):Nat):Int),.int .u64 (((rdN l 16 8):Nat):Int),.slice a8 n8 c8]) T.sz152 ok.n4 (oneL rfl)) ?_;rintro η16 ⟨ok,cg⟩;refine .z .asI<|.nil ?_;have ok:=(ok.n3).accEq;refine .ret ⟨.tuple #[.agg #[.int .i64 (((rdN l 8 4):Nat):Int),.int .i64 (((rdN l 12 4):Nat):Int),.int .u64 (((rdN l 16 8):Nat):Int),.slice a8 n8 c8],.int .i64 0],Res.many (vs:=[.agg #[.int .i64 (((rdN l 8 4):Nat):Int),.int .i64 (((rdN l 12 4):Nat):Int),.int .u64 (((rdN l 16 8):Nat):Int),.slice a8 n8 c8],.int .i64 0]) rfl ⟨⟨_,rfl,load_ag T.ag152 ok.m1 T.sz152⟩,rfl,trivial⟩ rfl,⟨(a8,n8,c8),by rw [hJ4];rfl,ok.chg,by rw [hJ4];show RdL _ _ _ _ (jents _ _ _ 28);rw [hEnd];exact (ok).m0.l3.mono (fun j hj=>(ok).fresh j (.inr (.inl hj))) (fun j hj=>(ok).fresh j (.inr (.inr hj)))⟩⟩
 obtain ⟨ya3,yc3,rfl⟩:=(show Own _ _ 1 _ w ((jputN (rdN l 16 8) (rdN l at_ 4) ((l.drop (at_+4)).take (rdN l 8 4))).map bv) from own).formB;have ok:=ok.own (show Own _ _ 1 _ _ ((jputN (rdN l 16 8) (rdN l at_ 4) ((l.drop (at_+4)).take (rdN l 8 4))).map bv) from own);refine .z .mvU<|.z .ex<|.z .ex<|.z .asS<|.z .asI<|.nil ?_;refine .seq<|.seq<|.r<|.z .mvI<|.z .neq<|.z .mvB<|.z .mvS<|.z .mvS<|.z .mvI<|.z .mvI<|.z .mvI<|.z .addI<|.z (.slh at_ (at_+((rdN l 8 4)+8)) T.el22 T.sz5)<|?_;generalize hc2:cutA a at_ c 1=ca2;generalize hn2:(at_+((rdN l 8 4)+8))-at_=cn2;obtain rfl:cn2=((l.drop at_).take ((rdN l 8 4)+8)).length:=by rw [←hn2];simp;omega
 have ok:=ok.d3 (rdI (fun j=>F j∧j<h.size) (fun j=>E j∧j<h.size) (ca2,((l.drop at_).take ((rdN l 8 4)+8)).length,c-at_) ((l.drop at_).take ((rdN l 8 4)+8))) (by have h1:=ok.r3.cut (i:=at_) (j:=(at_+((rdN l 8 4)+8))) (by omega) (by omega);rw [show ((l).drop at_).take ((at_+((rdN l 8 4)+8))-at_)=(l.drop at_).take ((rdN l 8 4)+8) from by congr 1;omega] at h1;rw [←hc2,←hn2];exact h1) (fun _ h=>h);refine .k 117 .func (same_any (a:=ya3) (c:=yc3) (l:=(jputN (rdN l 16 8) (rdN l at_ 4) ((l.drop (at_+4)).take (rdN l 8 4)))) (b:=ca2) (d:=c-at_) (l2:=(l.drop at_).take ((rdN l 8 4)+8)) (RdL.ofCapB (v:=(ya3,(jputN (rdN l 16 8) (rdN l at_ 4) ((l.drop (at_+4)).take (rdN l 8 4))).length,yc3)) (l:=(jputN (rdN l 16 8) (rdN l at_ 4) ((l.drop (at_+4)).take (rdN l 8 4)))) ok.m0) ok.r0)<|.z .notd<|.z .pkf<|.nil ?_;refine .cd (fun C4=>?_) (fun C4=>?_)
 ·
  have hnf:¬jfits l (rdN l 8 4) (rdN l 16 8) at_:=fun h=>by exact absurd ((jfits_iff (by omega) hoj2.2.2.2).1 h).2 (by simpa [jraw] using C4)
  have hEnd:jents l (rdN l 8 4) (rdN l 16 8) 28=L:=by rw [←hL,jents_f hnf,List.append_nil]
  refine .exit<|hK0 _ _<|.seq<|.r<|.z (.ldb T.ag152 ok.m4 T.sz152)<|.ur' (.stW (vs:=[.int .i64 (((rdN l 8 4):Nat):Int),.int .i64 (((rdN l 12 4):Nat):Int),.int .u64 (((rdN l 16 8):Nat):Int),.slice a8 n8 c8]) T.sz152 ok.n5 (oneL rfl)) ?_;rintro η17 ⟨ok,cg⟩;refine .z .asI<|.nil ?_;have ok:=(ok.n4).accEq;refine .ret ⟨.tuple #[.agg #[.int .i64 (((rdN l 8 4):Nat):Int),.int .i64 (((rdN l 12 4):Nat):Int),.int .u64 (((rdN l 16 8):Nat):Int),.slice a8 n8 c8],.int .i64 0],Res.many (vs:=[.agg #[.int .i64 (((rdN l 8 4):Nat):Int),.int .i64 (((rdN l 12 4):Nat):Int),.int .u64 (((rdN l 16 8):Nat):Int),.slice a8 n8 c8],.int .i64 0]) rfl ⟨⟨_,rfl,load_ag T.ag152 ok.m1 T.sz152⟩,rfl,trivial⟩ rfl,⟨(a8,n8,c8),by rw [hJ4];rfl,ok.chg,by rw [hJ4];show RdL _ _ _ _ (jents _ _ _ 28);rw [hEnd];exact (ok).m0.l3.mono (fun j hj=>(ok).fresh j (.inr (.inl hj))) (fun j hj=>(ok).fresh j (.inr (.inr hj)))⟩⟩
 have hfit:jfits l (rdN l 8 4) (rdN l 16 8) at_:=(jfits_iff (by omega) hoj2.2.2.2).2 ⟨hoe,by simpa [jraw] using C4⟩;refine .skip<|.r<|.z (.fa T.fd152_3)<|.z (.ldx T.ag76 ok.m4)<|.z (.ldb T.ag102 ok.m1 T.sz102)<|.a' 123 (.lit [.tmp 122] (cs:=[.int .i64 (((rdN l at_ 4):Nat):Int),.int .i64 0,.slice ya2 ((((l.drop (at_+4)).take (rdN l 8 4))).length) yc2]) T.el76 T.sz102 T.zr102 ok ⟨rfl,trivial⟩) ?_;rintro _ η18 ⟨pb5,rfl,ok,xe⟩;refine .a' 124 (.appA (jraw l (rdN l 8 4) at_) T.el76 T.sz102 T.by102 T.zr102 (ok.n3.n4) ((ok.n3.n4.m2).sl) (Fr.rd_cap (ok.n3.n4).m1) (by omega)) ?_;rintro _ η19 ⟨az1,nz1,cz1,rfl,ok⟩;refine .z (.fa T.fd152_3)<|.ur' (.stS T.sz76 ok.n4) ?_;rintro η20 ⟨ok,cg⟩;refine .nil ?_;refine .end<|hK1 _ _<|.r<|.z .mvI<|.z .mvI<|.z .addI<|.z .asI<|.nil ?_;refine .end<|hJ0 _ _ _ ⟨(at_+((rdN l 8 4)+8)),L++[(jraw l (rdN l 8 4) at_)],az1,nz1,cz1,_,⟨rfl,rfl,rfl,rfl,rfl,rfl,trivial⟩,ok.n5.n1.n2.k3.tR.tR,(by rw [←hL,jents_t hfit,List.append_assoc,show at_+((rdN l 8 4)+8)=at_+(rdN l 8 4)+8 by omega];rfl),(by simp only [List.length_append,List.length_singleton];omega),(by omega),(by omega),rfl⟩ (by omega)
end Go.Proofs.YtpeaicddbnghfaaGreat
namespace Go.HL
open Go
theorem Row.tk {h:Heap} {k:Nat} {a:Option Addr} {n m:Nat} {xs:List Value} (r:Row h k a n xs) (hm:m≤n):Row h k a m (xs.take (m*k)):=by
 have:=r.cut (l:=0) (q:=m) (m:=n+1) (by omega) (by omega);rwa [Nat.zero_mul,List.drop_zero,show cutA a 0 (n+1) k=a from by unfold cutA;rw [if_neg (by omega)];cases a<;>simp [Addr.add_zero']] at this
theorem OpA.cpT {P:Program} {s:Slots} {h0 h:Heap} {D:Nat→Prop} {M R:List Itm} {d:Option Tmp} {ty:TypeId} {pos:String} {af:Array Edge} {g:Option (Nat × Bool)} {x y:Operand} {t t' e:TypeId} {b o n c k:Nat} {a':Option Addr} {m m0 c':Nat} {xs ys:List Value}
  (ht:elB P t=some e) (hk:szB P e=some k) (ok:Hp h0 D (capI k e (some ⟨b,o,none⟩,n,c) xs::M) R h) (hn:Sl h k (.slice a' m0 c') ys) (h1:∀u∈ys,u.oneCell'=true)
  (hx:ev s x=.slice (some ⟨b,o,none⟩) n c:=by exact rfl) (hy:ev s y=.slice a' m0 c':=by exact rfl) (hm:min m0 n=m:=by omega) :
  OpA P ⟨d,.call ⟨.builtin .copy,#[x,y],#[t,t']⟩,ty,pos,af,g⟩ s h (fun v h'=>v=.int .i64 (m:Int)∧Hp h0 D (capI k e (some ⟨b,o,none⟩,n,c) (ys.take (m*k)++xs.drop (ys.take (m*k)).length)::M) R h'∧Chg (fun j=>j=b) h h'):=fun E w at'=>by
 have hr0:Row h k a' m (ys.take (m*k)):=hn.cells.tk (by omega);obtain ⟨zs,hzs⟩:∃zs,zs=ys.take (m*k):=⟨_,rfl⟩;rw [←hzs] at hr0⊢;have h1':∀u∈zs,u.oneCell'=true:=fun u hu=>h1 u (List.mem_of_mem_take (hzs▸hu));have hlim:0+zs.length≤n*k:=by rw [hr0.1,Nat.zero_add];exact Nat.mul_le_mul_right _ (by omega)
 obtain ⟨h',w',hcap,hchg,at2,hr⟩:=run_storeAt (P:=P) (i:=0) ok.m0 hlim h1' at';rw [show spl xs 0 zs=zs++xs.drop zs.length from by simp [spl]] at hcap;refine ⟨_,h',w',⟨rfl,ok.upd hchg (fun j e=>by subst e;exact ⟨o,n,c,rfl⟩) _ hcap (fun _ x=>.inl x),hchg⟩,at2,?_⟩;have hmin:Nat.min m0 n=m:=hm;have hf:(Builtin.firstCells k m (.slice a' m0 c')).run P w=.ok zs.toArray w:=by
  by_cases hm0:m=0
  ·subst hm0;have:zs=[]:=List.eq_nil_of_length_eq_zero (by simpa using hr0.1);subst this;cases a'<;>simp [Builtin.firstCells,loadCells,loadCellsFrom]
  ·obtain ⟨b',o',rfl,hcell⟩:=hr0.2 (by omega);exact run_firstCells_some w k m ⟨b',o',none⟩ m0 c' zs hr0.1 (fun j v hj=>by rw [Addr.add_lit,cell?_eq,at'.heap];exact hcell j v hj)
 rw [Nat.add_zero] at hr;simp [execOp,resolve,invoke,builtin,hx,hy,Builtin.copy_,run_und (elB_iff ht),Builtin.lenOf,hmin,run_szB hk,hf,hr,goInt]
theorem cpT_b {ys xs:List UInt8} {n m:Nat} (h:m=min ys.length n):(ys.map bv).take (m*1)++(xs.map bv).drop ((ys.map bv).take (m*1)).length=(ys.take n++xs.drop (ys.take n).length).map bv:=by
 subst h;rw [Nat.mul_one,←List.map_take,List.length_map,←List.map_drop,←List.map_append];congr 2<;>rw [Nat.min_comm,←List.take_eq_take_min]
theorem spl_b {xs ys:List UInt8} {o:Nat} : spl (xs.map bv) (o*1) (ys.map bv)=(xs.take o++ys++xs.drop (o+ys.length)).map bv:=by simp [spl]
end Go.HL
namespace Go.Proofs.YtpeaicddbnghfaaGreat
open Go Go.HL
theorem setE_same {s:List Int} {k:Int} (h:k∈s):aput (setE s) k (.bool true)=setE s:=by
 induction s with
 | nil=>cases h
 | cons a s ih=>
  unfold setE at ih⊢;by_cases e:a=k
  ·simp [aput,e]
  ·simp only [List.map_cons,aput,if_neg e];rw [ih ((List.mem_cons.1 h).resolve_left fun h=>e h.symm)]
theorem wrB_in {xs b:List UInt8} {p:Nat} (h:p+b.length≤xs.length):wrB xs p b=xs.take p++b++xs.drop (p+b.length):=by
 unfold wrB patchN;rw [Nat.max_eq_left h,longN_le (Nat.le_refl _),List.take_length]
theorem layQ_app {n k:Nat} : ∀ {a b:List Fr} {U:List UInt8},layQ n k (a++b) U=layQ n k b (layQ n k a U)
 | [],_,_=>rfl
 | _::a,_,_=>layQ_app (a:=a)
theorem base_q {f:List UInt8} {N:Nat} : f.take N++(List.replicate N (0:UInt8)).drop (f.take N).length=longN f N:=by
 unfold longN;rw [List.drop_replicate,List.length_take];congr 2;omega
theorem frN_take {l:List Fr} {i n:Nat} (h:i<n) (h2:i<l.length):frN l i∈l.take n:=by
 have e:frN l i=(l.take n)[i]'(by rw [List.length_take];omega):=by rw [List.getElem_take];simp [frN,h2]
 rw [e];exact List.getElem_mem _
theorem any_no {l:List Fr} {n:Nat} (h:∀j,j<n→(frN l j).page≤64):¬(l.take n).any (fun f=>decide (64<f.page))=true:=by
 intro h2;obtain ⟨f,hf,h3⟩:=List.any_eq_true.1 h2;obtain ⟨j,hj,rfl⟩:=List.mem_iff_getElem.1 hf;have h4:=of_decide_eq_true h3;rw [List.length_take] at hj;rw [List.getElem_take] at h4;have:=h j (by omega);rw [show frN l j=l[j] by simp [frN,show j<l.length by omega]] at this;omega
theorem lay_q1 {n k i:Nat} {L:List Fr} {U xs:List UInt8} (hi:i<L.length) (h:xs=layQ n k (firstF [] (L.take i)) U) (hm:(frN L i).page∈metF (L.take i)):xs=layQ n k (firstF [] (L.take (i+1))) U:=by rw [firstF_next hi,if_pos hm,List.append_nil];exact h
theorem lay_q2 {n k i:Nat} {L:List Fr} {U xs:List UInt8} (hi:i<L.length) (h:xs=layQ n k (firstF [] (L.take i)) U) (hm:(frN L i).page∉metF (L.take i)) (hk:¬(frN L i).page≤(k:Int)):xs=layQ n k (firstF [] (L.take (i+1))) U:=by
 rw [firstF_next hi,if_neg hm,layQ_app,←h];unfold layQ;rw [if_neg hk];rfl
theorem lay_q3 {n k i p:Nat} {L:List Fr} {U xs:List UInt8} (hi:i<L.length) (h:xs=layQ n k (firstF [] (L.take i)) U) (hm:(frN L i).page∉metF (L.take i)) (hk:(frN L i).page≤(k:Int)) (hp:(frN L i).page=(p:Int)+1) (hl:p*n+(frN L i).b.length≤xs.length):xs.take (p*n)++(frN L i).b++xs.drop (p*n+(frN L i).b.length)=layQ n k (firstF [] (L.take (i+1))) U:=by
 rw [firstF_next hi,if_neg hm,layQ_app,←h];unfold layQ;rw [if_pos hk,show ((frN L i).page-1).toNat=p by omega,←wrB_in hl];rfl
theorem bopens_any {h:Heap} {FF FE GF GE:Nat→Prop} {fa ga:Option Addr} {fc gc z mk:Nat} {f g:List UInt8} (hf:RdL h FF FE (fa,f.length,fc) f) (hg:RdL h GF GE (ga,g.length,gc) g) (hz:okSz z=true) (hN:f.length≤5000) (hN2:g.length≤5000) (hmk:mk<256):HC Tryz.prog 41 #[.int .i64 (z:Int),.slice fa f.length fc,.slice ga g.length gc,.int .i64 (mk:Int)] h (fun v h'=>∃E' a c l,v=.tuple #[.slice a l.length c,.int .i64 (opnQ z f g mk).2]∧pgs l=(opnQ z f g mk).1∧Ext h h'∧PgB h' E' (a,l.length,c) l∧∀j,E' j→(FF j∨FE j)∨Nw h h' j):=by
 have hzb:=okSz_b hz;have hz0:0<z:=by omega
 have hfc:=hf.c;have hfm:=hf.m;have hgc:=hg.c;have hgm:=hg.m;simp only at hfc hfm hgc hgm;obtain ⟨jn,hJ1⟩:∃x,(jscanN g).1=x:=⟨_,rfl⟩;obtain ⟨jk,hJ2⟩:∃x,(jscanN g).2.1=x:=⟨_,rfl⟩;obtain ⟨jL,hJ3⟩:∃x,(jscanN g).2.2.1=x:=⟨_,rfl⟩;obtain ⟨je,hJ4⟩:∃x,(jscanN g).2.2.2=x:=⟨_,rfl⟩;have hjf:=jscan_facts g;rw [hJ1,hJ2,hJ3] at hjf;have hjmul:jk*jn≤1048576*4096:=Nat.mul_le_mul hjf.2.2.2 hjf.2.2.1;have ok:=((Hp.nil h none_).arg hg).arg hf;refine HC.go Tryz.func41 99 ?_;refine .seq<|.r<|.z .asS<|.z .asI<|.nil ?_;refine .seq<|.seq<|.r<|.z .mvI<|.z .eql<|.nil ?_;refine .cd (fun C0=>?_) (fun C0=>?_)
 ·
  refine .seq<|.r<|.z .mvS<|.z .mvI<|.c' 20 .func (whole_any (fa:=fa) (fc:=fc) (f:=f) (z:=z) ok.r0 hz (by omega)) ?_;rintro _ η1 ⟨Ew1,aw1,cw1,lw1,rfl,hpw1,hx,hrw1,hEw1⟩;have hgrw1:=ok.chg.size;have ok:=ok.grow hx (r:=rdI (fun j=>FF j∧j<h.size) (fun j=>FE j∧j<h.size) (fa,f.length,fc) f) (by simp) (pgwI Ew1 (aw1,lw1.length,cw1) lw1) hrw1 hEw1;have hmw1:=ok.r0.m;refine .z .ex<|.z .ex<|.z .asS<|.z .asI<|.nil ?_;refine .ret ⟨.tuple #[.slice aw1 lw1.length cw1,.int .i64 ((wholeN f z).2)],Res.two rfl rfl rfl,⟨Ew1,aw1,cw1,lw1,by rw [oq0 (by omega)],by rw [oq0 (by omega)];exact hpw1,ok.chg,ok.r0,fun j hj=>(hEw1 j hj).elim (fun h1=>.inl (h1.imp (·.1) (·.1))) (fun h1=>.inr ⟨Nat.le_trans hgrw1 h1.1,h1.2⟩)⟩⟩
 have h0:¬mk=0:=by omega
 refine .skip<|.seq<|.r<|.z .mvS<|.c' 25 .func (jrscan_any (a:=ga) (c:=gc) (l:=g) ok.r1 (by omega)) ?_;rintro _ η2 ⟨xj,rfl,hx,hr⟩;obtain ⟨ab,nb,cb⟩:=xj;rw [hJ3] at hr;rw [hJ1,hJ2,hJ4];obtain rfl:nb=jL.length:=hr.n;have hjc:=hr.c;have hjm:=hr.m;simp only at hjc hjm;rw [show sv (ab,jL.length,cb)=.slice ab jL.length cb from rfl];have ok:=ok.ret hx hr;obtain ⟨xa,xc,hfr⟩:=RdL.frs ok.r0;have ok:=ok.d0 (frsI (Nw h η2) (Nw h η2) (ab,jL.length,cb) jL xa xc) hfr (fun _ h=>h);refine .z .mvU<|.z .ex<|.z .ex<|.a' 10 (.alA T.zr152 ok) ?_;rintro _ η3 ⟨pb1,rfl,ok,xe⟩;refine .ur' (.stW (vs:=[.int .i64 ((jn:Nat):Int),.int .i64 ((jk:Nat):Int),.int .u64 ((if je=0 then rdN g 16 8 else 0:Nat):Int),.slice ab jL.length cb]) T.sz152 ok (oneL rfl)) ?_;rintro η4 ⟨ok,cg⟩;refine .z .asI<|.nil ?_;refine .seq<|.seq<|.r<|.z .mvI<|.z .neq<|.z .mvB<|.sd (fun G30=>?_) (fun G30=>?_)
 ·
  refine .y<|.y<|.y<|.y<|.y<|.y<|.z .pkt<|.nil ?_;refine .ct<|.seq<|.r<|.z .asS<|.z .asI<|.nil ?_;refine .ret ⟨.tuple #[.slice none 0 0,.int .i64 14],Res.two rfl rfl rfl,⟨none_,none,0,[],by rw [oq1 h0 (by simp only [hJ1,hJ2,hJ3,hJ4];first | exact .inl (by omega) | exact .inr (by omega))];rfl,by rw [oq1 h0 (by simp only [hJ1,hJ2,hJ3,hJ4];first | exact .inl (by omega) | exact .inr (by omega))];rfl,ok.chg,RwB.nil _ _ 0 (by decide),fun j f=>f.elim⟩⟩
 refine .z (.fa T.fd152_3)<|.z (.ldx T.ag76 ok.m0)<|.z (.len T.el76)<|.z .mvI<|.z .sub<|?_;rw [show ((mk:Int)-1:Int)=((mk-1:Nat):Int) from by omega];refine .z .lss<|.z .pkf<|.nil ?_;refine .cd (fun C1=>?_) (fun C1=>?_)
 ·
  refine .seq<|.r<|.z .asS<|.z .asI<|.nil ?_;refine .ret ⟨.tuple #[.slice none 0 0,.int .i64 14],Res.two rfl rfl rfl,⟨none_,none,0,[],by rw [oq1 h0 (by simp only [hJ1,hJ2,hJ3,hJ4];first | exact .inl (by omega) | exact .inr (by omega))];rfl,by rw [oq1 h0 (by simp only [hJ1,hJ2,hJ3,hJ4];first | exact .inl (by omega) | exact .inr (by omega))];rfl,ok.chg,RwB.nil _ _ 0 (by decide),fun j f=>f.elim⟩⟩
 have hje:je=0:=by omega
 have hjL:mk-1≤jL.length:=by omega
 have hjg:=jscan_good (g:=g) (hJ4.trans hje);rw [hJ1,hJ2,hJ3] at hjg;refine .skip<|.seq<|.seq<|.r<|.z (.fa T.fd152_1)<|.z (.ldx T.ag3 ok.m0)<|.z (.fa T.fd152_0)<|.z (.ldx T.ag3 ok.m0)<|.z .mulI<|.z .gtr<|.nil ?_;refine .cd (fun C2=>?_) (fun C2=>?_)
 ·
  refine .seq<|.r<|.z .asS<|.z .asI<|.nil ?_;refine .ret ⟨.tuple #[.slice none 0 0,.int .i64 (-1)],Res.two rfl rfl rfl,⟨none_,none,0,[],by rw [oq2 h0 (by simp only [hJ1,hJ2,hJ3,hJ4];rintro (h9 | h9)<;>omega) (by simp only [hJ1,hJ2,hJ3,hJ4];omega)];rfl,by rw [oq2 h0 (by simp only [hJ1,hJ2,hJ3,hJ4];rintro (h9 | h9)<;>omega) (by simp only [hJ1,hJ2,hJ3,hJ4];omega)];rfl,ok.chg,RwB.nil _ _ 0 (by decide),fun j f=>f.elim⟩⟩
 refine .skip<|.seq<|.r<|.z (.fa T.fd152_1)<|.z (.ldx T.ag3 ok.m0)<|.z (.fa T.fd152_0)<|.z (.ldx T.ag3 ok.m0)<|.z .mulI<|.a' 49 (.mks (jk*jn) (jk*jn) T.el22 T.sz5 T.by5 T.zr5 ok) ?_;rintro _ η5 ⟨pb2,rfl,ok,xe⟩;have ok:=ok.cx (ys:=(List.replicate (jk*jn) (0:UInt8)).map bv) (zeros8 _);refine .z .asS<|.nil ?_;refine .seq<|.r<|.z .mvS<|.z .mvS<|.a' 52 (.cpT (ys:=f.map bv) (m:=min f.length (jk*jn)) T.el22 T.sz5 ok ok.r2.by bv_all (hm:=rfl)) ?_;rintro _ η6 ⟨rfl,ok,cg⟩;have ok:=ok.cx (cpT_b (ys:=f) (xs:=List.replicate (jk*jn) (0:UInt8)) (n:=jk*jn) rfl);refine .nil ?_;refine .seq<|.r<|.a' 53 (.mkm (Value.int .i64) ok) ?_;rintro _ η7 ⟨mb1,rfl,ok⟩;refine .z .asM<|.nil ?_;refine .seq<|.seq<|.r<|.z .asI<|.nil ?_;refine .block fun K0 hK0=>.loop (fun m s hh=>∃(i:Nat) (ms:List Int) (xs:List UInt8),Has s [(0,.int .i64 (z:Int)),(3,.int .i64 (mk:Int)),(10,.pointer (some ⟨pb1,0,none⟩)),(12,.slice (some ⟨pb2,0,none⟩) (jk*jn) (jk*jn)),(13,.map (some mb1)),(14,.int .i64 (i:Int))]∧Hp h none_ [capI 1 5 (some ⟨pb2,0,none⟩,(jk*jn),(jk*jn)) (xs.map bv),mapI (Value.int .i64) mb1 (setE ms),boxI pb1 152 [.int .i64 ((jn:Nat):Int),.int .i64 ((jk:Nat):Int),.int .u64 ((if je=0 then rdN g 16 8 else 0:Nat):Int),.slice ab jL.length cb]] [frsI (Nw h η2) (Nw h η2) (ab,jL.length,cb) jL xa xc,rdI (Nw h η2) (Nw h η2) (ab,jL.length,cb) jL] hh∧i≤mk-1∧ms=metF (jL.take i)∧xs=layQ jn jk (firstF [] (jL.take i)) (longN f (jk*jn))∧xs.length=jk*jn∧(∀j,j<i→(frN jL j).page≤64)∧m=mk-1-i) ?_ ?_
 ·exact ⟨_,0,[],(f.take (jk*jn)++(List.replicate (jk*jn) (0:UInt8)).drop (f.take (jk*jn)).length),⟨rfl,rfl,rfl,rfl,rfl,rfl,trivial⟩,(ok.n2.n1.n2).k3.f1.f1.e2,Nat.zero_le _,rfl,base_q,by rw [base_q,longN_len],fun j hj=>absurd hj (Nat.not_lt_zero _),rfl⟩
 rintro _ _ η8 ⟨i,ms,xs,hs,ok,hi,hms,hxs,hxl,hsm,rfl⟩ J0 hJ0;refine .frame hs fun τ=>?_;refine .seq<|.seq<|.r<|.z .mvI<|.z .mvI<|.z .sub<|?_;rw [show ((mk:Int)-1:Int)=((mk-1:Nat):Int) from by omega];refine .z .lss<|.nil ?_;refine .cdr (fun C3=>?_) (fun C3=>?_)
 ·
  refine .exit<|hK0 _ _<|.seq<|?_;have hie:i=mk-1:=by omega
  have hq9:opnQ z f g mk=wholeN xs z:=by
   rw [oq4 h0 (by simp only [hJ1,hJ2,hJ3,hJ4];rintro (h9 | h9)<;>omega) (by simp only [hJ1,hJ2,hJ3,hJ4];omega) (by simp only [hJ1,hJ2,hJ3,hJ4];rw [←hie];exact any_no hsm)];simp only [hJ1,hJ2,hJ3,hJ4];rw [hxs,hie]
  rw [←hxl] at ok⊢;have hfz8:=fun j hj=>((ok).m _ List.mem_cons_self).2 j hj;have ok:=Hp.frzB (l:=xs) (ok) rfl;refine .r<|.z .mvS<|.z .mvI<|.c' 96 .func (whole_any (fa:=some ⟨pb2,0,none⟩) (fc:=xs.length) (f:=xs) (z:=z) ok.r0 hz (by omega)) ?_;rintro _ η9 ⟨Ew2,aw2,cw2,lw2,rfl,hpw2,hx,hrw2,hEw2⟩;have hgrw2:=ok.chg.size;have ok:=ok.grow hx (r:=rdI (blkC (sv (some ⟨pb2,0,none⟩,xs.length,xs.length))) none_ (some ⟨pb2,0,none⟩,xs.length,xs.length) xs) (by simp) (pgwI Ew2 (aw2,lw2.length,cw2) lw2) hrw2 hEw2;have hmw2:=ok.r0.m;refine .z .ex<|.z .ex<|.z .asS<|.z .asI<|.nil ?_;refine .ret ⟨.tuple #[.slice aw2 lw2.length cw2,.int .i64 ((wholeN xs z).2)],Res.two rfl rfl rfl,⟨Ew2,aw2,cw2,lw2,by rw [hq9],by rw [hq9];exact hpw2,ok.chg,ok.r0,fun j hj=>(hEw2 j hj).elim (fun h1=>.inr ⟨h1.elim (fun h2=>(hfz8 j h2).2.elim (fun f=>f.elim) id) (fun f=>f.elim),ok.l0 j hj⟩) (fun h1=>.inr ⟨Nat.le_trans hgrw2 h1.1,h1.2⟩)⟩⟩
 refine .skip<|.seq<|.block fun K1 hK1=>.seq<|?_;have hiL:i<jL.length:=by omega
 have hfo:=hjf.1 _ (frN_mem (l:=jL) (i:=i) hiL);have hfb:=(hjg.1 _ (frN_mem (l:=jL) (i:=i) hiL)).2;obtain ⟨p,hp⟩:∃p:Nat,(frN jL i).page=(p:Int)+1:=⟨((frN jL i).page-1).toNat,by omega⟩;refine .r<|.z (.fa T.fd152_3)<|.z (.ldx T.ag76 ok.m2)<|.z .mvI<|?_;obtain ⟨bb1,oo1,rfl,fb1⟩:=ok.r0.pos (by omega);refine .z (.ix i T.el76 T.sz102)<|.z (.fa T.fd102_0)<|.z (.ld T.ag3 (frs_at (ok.r0).sl (i:=i) (j:=0) (by omega) rfl))<|.z .asI<|.nil ?_;refine .seq<|.seq<|.r<|.z .mvI<|.z .gtr<|.nil ?_;refine .cd (fun C4=>?_) (fun C4=>?_)
 ·
  refine .seq<|.r<|.z .asS<|.z .asI<|.nil ?_;refine .ret ⟨.tuple #[.slice none 0 0,.int .i64 (-1)],Res.two rfl rfl rfl,⟨none_,none,0,[],by rw [oq3 h0 (by simp only [hJ1,hJ2,hJ3,hJ4];rintro (h9 | h9)<;>omega) (by simp only [hJ1,hJ2,hJ3,hJ4];omega) (by simp only [hJ1,hJ2,hJ3,hJ4];exact List.any_eq_true.2 ⟨_,frN_take (by omega) hiL,decide_eq_true (by omega)⟩)];rfl,by rw [oq3 h0 (by simp only [hJ1,hJ2,hJ3,hJ4];rintro (h9 | h9)<;>omega) (by simp only [hJ1,hJ2,hJ3,hJ4];omega) (by simp only [hJ1,hJ2,hJ3,hJ4];exact List.any_eq_true.2 ⟨_,frN_take (by omega) hiL,decide_eq_true (by omega)⟩)];rfl,ok.chg,RwB.nil _ _ 0 (by decide),fun j f=>f.elim⟩⟩
 have hsm2:∀j,j<i+1→(frN jL j).page≤64:=fun j hj=>(Nat.lt_succ_iff_lt_or_eq.1 hj).elim (hsm j) (fun h9=>by rw [h9];omega);refine .skip<|.seq<|.seq<|.r<|.z .mvM<|.z .mvI<|.z (.lk (KV.int .i64) ((frN jL i).page) (v:=.bool (decide ((frN jL i).page∈ms))) T.mp132 (inB_iff T.in3) T.zr4 ok.m1 (by exact setE_get))<|.z .notd<|.z .mvB<|.sd (fun G72=>?_) (fun G72=>?_)
 ·
  have hmt:(frN jL i).page∉ms:=by simpa using G72
  refine .z .mvI<|.z (.fa T.fd152_1)<|.z (.ldx T.ag3 ok.m2)<|.z .leq<|.z .pkt<|.nil ?_;refine .cd (fun C5=>?_) (fun C5=>?_)
  ·
   have hpj:p*jn+jn≤jk*jn:=by
    have h9:=Nat.mul_le_mul_right jn (show p+1≤jk by omega);rwa [Nat.succ_mul] at h9
   refine .t 13 mixed ?_;simp only [List.take_succ_cons,List.take_zero,List.drop_succ_cons,List.drop_zero];refine .z .mvS<|.z .mvI<|.z .sub<|?_;rw [show ((frN jL i).page-1)=((p:Nat):Int) from by omega];refine .z (.fa T.fd152_0)<|.z (.ldx T.ag3 ok.m2)<|.z .mulI<|.z (.sll (p*jn) T.el22 T.sz5)<|.z (.fa T.fd152_3)<|.z (.ldx T.ag76 ok.m2)<|.z .mvI<|.z (.ix i T.el76 T.sz102)<|.z (.fa T.fd102_2)<|?_;have ok:=ok.d0 (rdI (Nw h η2) (Nw h η2) ((xa i),(frN jL i).b.length,(xc i)) ((frN jL i).b)) ((ok.r0).b i (by omega)) (fun _ h=>.inr (h.elim id id));refine .z (.ld T.ag22 (frs_at (ok.r1).sl (i:=i) (j:=2) (by omega) rfl))<|.nil ?_;refine .a' 91 (.cpy (ys:=((frN jL i).b).map bv) (m:=(frN jL i).b.length) (p*jn) T.el22 T.sz5 ok ok.r0.by bv_all rfl) ?_;rintro _ η10 ⟨rfl,ok,cg⟩;refine .nil ?_;refine .r<|.z .mvM<|.z .mvI<|.ur' (.mpu (KV.int .i64) V.sbI ((frN jL i).page) (v:=.bool true) T.mp132 (inB_iff T.in3) ok.n1) ?_;rintro η11 ok;rw [setE_put hmt] at ok;refine .nil ?_;refine .end<|hK1 _ _<|.r<|.z .mvI<|.z (.addI (b:=1))<|.z .asI<|.nil ?_;refine .end<|hJ0 _ _ _ ⟨i+1,ms++[(frN jL i).page],_,⟨rfl,rfl,rfl,rfl,rfl,rfl,trivial⟩,((ok.n2.n1.n2).k3.f2.f2.e2).cx spl_b,by omega,by rw [hms,metF,metF,firstF_next hiL,if_neg (hms▸hmt),List.map_append];rfl,lay_q3 hiL hxs (hms▸hmt) (by omega) hp (by rw [hfb];omega),by simp only [List.length_append,List.length_take,List.length_drop];omega,hsm2,rfl⟩ (by omega)
  refine .skip<|.r<|.z .mvM<|.z .mvI<|.ur' (.mpu (KV.int .i64) V.sbI ((frN jL i).page) (v:=.bool true) T.mp132 (inB_iff T.in3) ok.n1) ?_;rintro η12 ok;rw [setE_put hmt] at ok;refine .nil ?_;refine .end<|hK1 _ _<|.r<|.z .mvI<|.z (.addI (b:=1))<|.z .asI<|.nil ?_;refine .end<|hJ0 _ _ _ ⟨i+1,ms++[(frN jL i).page],xs,⟨rfl,rfl,rfl,rfl,rfl,rfl,trivial⟩,(ok.n2.n1.n2).k3.f1.f1,by omega,by rw [hms,metF,metF,firstF_next hiL,if_neg (hms▸hmt),List.map_append];rfl,lay_q2 hiL hxs (hms▸hmt) (by omega),hxl,hsm2,rfl⟩ (by omega)
 have hmt:(frN jL i).page∈ms:=by simpa using G72
 refine .y<|.y<|.y<|.y<|.z .pkf<|.nil ?_;refine .cf<|.skip<|.r<|.z .mvM<|.z .mvI<|.ur' (.mpu (KV.int .i64) V.sbI ((frN jL i).page) (v:=.bool true) T.mp132 (inB_iff T.in3) ok.n1) ?_;rintro η13 ok;rw [setE_same hmt] at ok;refine .nil ?_;refine .end<|hK1 _ _<|.r<|.z .mvI<|.z (.addI (b:=1))<|.z .asI<|.nil ?_;refine .end<|hJ0 _ _ _ ⟨i+1,ms,xs,⟨rfl,rfl,rfl,rfl,rfl,rfl,trivial⟩,(ok.n2.n1.n2).k3.f1.f1,by omega,by rw [hms,metF,metF,firstF_next hiL,if_pos (hms▸hmt),List.append_nil],lay_q1 hiL hxs (hms▸hmt),hxl,hsm2,rfl⟩ (by omega)
end Go.Proofs.YtpeaicddbnghfaaGreat
namespace Go.HL
open Go
theorem OpE.makeSliceK {P:Program} {s:Slots} {h:Heap} {d:Option Tmp} {ty t:TypeId} {pos:String} {af:Array Edge} {g:Option (Nat × Bool)} {x y:Operand} {kk:IntKind} {n m k bytes:Nat} {e:TypeId} {z:Value} (hx:ev s x=.int kk n) (hy:ev s y=.int kk m) (ht:elB P t=some e) (hk:szB P e=some k) (hb:byB P e=some bytes) (hz:zrB P e=some z) (hnm:n≤m) (hfit:m*bytes≤281474976710656) (hm:m≤9223372036854775807) :
  OpE P ⟨d,.makeSlice t x y,ty,pos,af,g⟩ s h (.slice (some ⟨h.size,0,none⟩) n m) (h.push (.cells ((Array.range (m*k)).map (z.cells[· % z.cells.size]!)) e (0,0))):=fun E w at'=>by
 refine ⟨_,at'.alloc _,?_⟩;obtain ⟨i,hi,hik⟩:=szB_iff hk;have hib:i.bytes=bytes:=by
  obtain ⟨i',hi',e'⟩:=byB_iff hb;rw [hi] at hi';injection hi' with hi';subst hi';exact e'
 have w1:IntKind.i64.wrap (n:Int)=n:=IntWalk.i64_in _ (by omega);have w2:IntKind.i64.wrap (m:Int)=m:=IntWalk.i64_in _ (by omega);have b1:¬((281474976710656:Int)<(bytes:Int)*(m:Int)):=by
  have:((m*bytes:Nat):Int)≤281474976710656:=by omega
  rw [Nat.mul_comm] at this;rw [←Int.natCast_mul];omega
 have b2:¬((m:Int)<n):=by omega
 have b3:¬((m:Int)<0):=by omega
 have b4:¬((n:Int)<0):=by omega
 by_cases h0:m*k=0
 ·have r0:Array.range 0 = #[]:=rfl;simp [r0,execOp,hx,hy,Instr.makeSlice,run_und (elB_iff ht),asInt,asIntOf,typeInfo,hi,hib,w1,w2,b1,b2,b3,b4,run_szB hk,h0,newRow,at'.heap]
 ·simp [execOp,hx,hy,Instr.makeSlice,run_und (elB_iff ht),asInt,asIntOf,typeInfo,hi,hib,w1,w2,b1,b2,b3,b4,run_szB hk,h0,run_zrB hz,newRow,at'.heap]
theorem OpA.mksK {P:Program} {s:Slots} {h0 h:Heap} {D:Nat→Prop} {M R:List Itm} {d:Option Tmp} {ty:TypeId} {pos:String} {af:Array Edge} {g:Option (Nat × Bool)} {x y:Operand} {t e:TypeId} {kk:IntKind} {k bytes:Nat} {z:Value} (n m:Nat)
  (ht:elB P t=some e) (hk:szB P e=some k) (hb:byB P e=some bytes) (hz:zrB P e=some z) (ok:Hp h0 D M R h)
  (hx:ev s x=.int kk (n:Nat):=by exact rfl) (hy:ev s y=.int kk (m:Nat):=by exact rfl) (hnm:n≤m∧m*bytes≤281474976710656∧m≤9223372036854775807:=by omega) :
  OpA P ⟨d,.makeSlice t x y,ty,pos,af,g⟩ s h (fun v h'=>∃b,v=.slice (some ⟨b,0,none⟩) n m∧Hp h0 D (capI k e (some ⟨b,0,none⟩,n,m) ((List.range (n*k)).map (z.cells[· % z.cells.size]!))::M) R h'∧Ext h h'):=fun E w at'=>by
 obtain ⟨h1,h2,h3⟩:=hnm;obtain ⟨w',at2,hr⟩:=OpE.makeSliceK (P:=P) (s:=s) (h:=h) (d:=d) (ty:=ty) (pos:=pos) (af:=af) (g:=g) hx hy ht hk hb hz h1 h2 h3 E w at';have hnk:n*k≤m*k:=Nat.mul_le_mul_right _ h1;refine ⟨_,_,w',⟨h.size,rfl,ok.newM (Ext.push _ _) _ ?_ (fun j hj=>?_),Ext.push _ _⟩,at2,hr⟩
 ·refine ⟨_,n,m,rfl,h1,h3,by simp,.inr ⟨h.size,0,_,(0,0),rfl,push_same _ _,by simp,fzOk_zero _,?_⟩⟩;apply List.ext_getElem?;intro j;rw [List.drop_zero,List.getElem?_take];by_cases hj:j<n*k
  ·rw [if_pos hj];simp [hj,Nat.lt_of_lt_of_le hj hnk]
  ·rw [if_neg hj];simp [hj]
 ·obtain ⟨o,n',c',hv⟩:=hj;injection hv with h1;injection h1 with h1;injection h1 with h1;simp;omega
end Go.HL
namespace Go.Proofs.YtpeaicddbnghfaaGreat
open Go Go.HL
theorem rd_take {d:Dk} {T:Option (List UInt8)} {n:List UInt8} {z:Nat} (hd:d.dark=false) (hn:nOk n) (h:d.fs n=synF T):(readN d n 0 (z:Int)).1=(T.getD []).take z:=by
 have st:FSt (d.fs n) T [] T:=by rw [h];exact .syn T
 cases T with
 | none=>have:=read_no (p:=0) (z:=z) hd hn st;rw [show ((0:Nat):Int)=0 from rfl] at this;rw [this];simp
 | some b=>have:=read_st (p:=0) (z:=z) hd hn st;rw [show ((0:Nat):Int)=0 from rfl,List.drop_zero] at this;rw [this];rfl
theorem few_fl {z:Nat} {s:List (List UInt8)} (p:PgOk z s) (h:s.flatten.length≤65536):s.length≤256:=by
 rw [flat_lenZ p.len] at h;have hz:=(okSz_b p.sz).1;have:=Nat.mul_le_mul_left s.length hz;omega
theorem most_fl {z:Nat} {s:List (List UInt8)} (p:PgOk z s) (h:s.flatten.length≤65536):s.length≤mostB z:=by
 have hz:=okSz_b p.sz;have:=few_fl p h;have q2:256≤mostB z:=by unfold mostB;exact (Nat.le_div_iff_mul_le (by omega)).2 (by omega)
 omega
end Go.Proofs.YtpeaicddbnghfaaGreat
namespace Go.HL
open Go
theorem Hp.lenC {h0 hh:Heap} {D:Nat→Prop} {M R:List Itm} {k n:Nat} {e:TypeId} {a:Option Addr} {xs:List Value} {l:List UInt8} (h:l.length=n) (ok:Hp h0 D (capI k e (a,n,n) xs::M) R hh):Hp h0 D (capI k e (a,l.length,l.length) xs::M) R hh:=by subst h;exact ok
end Go.HL
namespace Go.Proofs.YtpeaicddbnghfaaGreat
open Go Go.HL
theorem lay13_any {h:Heap} {d:Nat} {F F2 E2:Nat→Prop} {D:Dk} {n b:List UInt8} {ba:Option Addr} {bc:Nat} (ok:Hp h F [dgI d F D] [rdI F2 E2 (ba,b.length,bc) b] h) (hk:DkOk D) (hcg:D.chg<290000000) (hd:D.dark=false) (hl:D.left<0) (hn:nOk n) (hf:D.fs n=none) (hb:b.length≤16777216):HC Tryz.prog 42 #[.pointer (some ⟨d,0,none⟩),.string (BA n),.slice ba b.length bc] h (fun v h'=>∃F',v=.bool true∧Hp h F [dgI d F' (layN D n b)] [] h'):=by
 have hbm:=(ok.r0).m;have hsp:=lay_spec (b:=b) hd hl hn hf hb;have hwc:=write_chg (d:=D) (n:=n) (z:=0) (l:=b);refine HC.go Tryz.func42 23 ?_;refine .seq<|.r<|.z .asB<|.nil ?_;refine .seq<|.r<|.z .mvS<|.z (.len T.el22)<|.z .eql<|.z .mvB<|.sd (fun G10=>?_) (fun G10=>?_)
 ·
  refine .y<|.y<|.y<|.y<|.y<|.y<|.y<|.y<|.y<|.y<|.y<|.z .pkt<|.z .asB<|.nil ?_;refine .ret ⟨.bool true,Res.one rfl rfl,⟨F,rfl,by rw [show layN D n b=D from if_pos (List.eq_nil_of_length_eq_zero (by omega))];exact (ok).k1.e0⟩⟩
 have hb0:b≠[]:=fun h9=>G10 (by rw [h9];rfl);refine .z .mvP<|.z .mvT<|.z .mvS<|.c' 14 .func (dgwrite_any (d:=d) (F:=F) (D:=D) (n:=n) (z:=0) (a:=ba) (c:=bc) (l:=b) (ok).loc1 hk (by omega) (by omega)) ?_;rintro _ η1 ⟨Fw1,rfl,q⟩;have ok:=(ok).lift1 q;refine .z .eql<|.z .mvB<|.sd (fun G16=>?_) (fun G16=>?_)
 ·
  refine .z .mvP<|.z .mvT<|.c' 19 .func (dgsync_any (d:=d) (F:=Fw1) (D:=((writeN D n 0 b).1)) (n:=n) (ok).loc0 hk.write (by omega)) ?_;rintro _ η2 ⟨Fw2,rfl,q⟩;have ok:=(ok).lift1 q;refine .z .eql<|.z .pkt<|.z .pkf<|.z .asB<|.nil ?_;refine .ret ⟨.bool (decide (((syncN ((writeN D n 0 b).1) n).2:Int)=0)),Res.one rfl rfl,⟨Fw2,congrArg Value.bool (decide_eq_true (by rw [(hsp.2 hb0).2];rfl)),by rw [show layN D n b=_ from if_neg hb0];exact (ok).k1.e0⟩⟩
 exact absurd (by rw [(hsp.2 hb0).1];rfl) G16
theorem bopens_walk {h:Heap} {FF FE GF GE:Nat→Prop} {fa ga:Option Addr} {fc gc u mk:Nat} {f g:List UInt8} (hf:RdL h FF FE (fa,f.length,fc) f) (hg:RdL h GF GE (ga,g.length,gc) g) (hu:u<256) (hmk:mk<256):HC Tryz.prog 7 #[.int .u8 (u:Int),.agg #[.slice fa f.length fc,.slice ga g.length gc,.int .u8 (mk:Int)]] h (fun v h'=>v=.bool true∧Ext h h'):=by
 have hfc:=hf.c;have hfm:=hf.m;have hgc:=hg.c;have hgm:=hg.m;simp only at hfc hfm hgc hgm;have hzb:=sizeZ_b u;have hcn:newN.chg=0:=rfl;have ok:=((Hp.nil h none_).arg hg).arg hf;refine HC.go Tryz.func7 146 ?_;refine .seq<|.r<|.a' 3 (.bxA (cs:=[.slice fa f.length fc,.slice ga g.length gc,.int .u8 (mk:Int)]) ok) ?_;rintro _ η1 ⟨pb1,rfl,ok,xe⟩;refine .z .asB<|.nil ?_;refine .seq<|.seq<|.r<|.z (.fa T.fd67_0)<|.z (.ldx T.ag22 ok.m0)<|.z (.len T.el22)<|.z .gtr<|.z .mvB<|.sd (fun G23=>?_) (fun G23=>?_)
 ·
  refine .y<|.y<|.y<|.y<|.z .pkt<|.nil ?_;refine .ct<|.seq<|.r<|.c' 29 .func live13_any ?_;rintro _ η2 ⟨rfl,hx⟩;have ok:=ok.ext hx;refine .z .asB<|.nil ?_;refine .ret ⟨.bool true,Res.one rfl rfl,⟨rfl,ok.chg⟩⟩
 refine .z (.fa T.fd67_1)<|.z (.ldx T.ag22 ok.m0)<|.z (.len T.el22)<|.z .gtr<|.z .pkf<|.nil ?_;refine .cd (fun C0=>?_) (fun C0=>?_)
 ·
  refine .seq<|.r<|.c' 29 .func live13_any ?_;rintro _ η3 ⟨rfl,hx⟩;have ok:=ok.ext hx;refine .z .asB<|.nil ?_;refine .ret ⟨.bool true,Res.one rfl rfl,⟨rfl,ok.chg⟩⟩
 refine .skip<|.seq<|.a 15 (fun fl hh=>Hp h none_ [boxI pb1 67 [.slice fa f.length fc,.slice ga g.length gc,.int .u8 (mk:Int)]] [rdI (fun j=>FF j∧j<h.size) (fun j=>FE j∧j<h.size) (fa,f.length,fc) f,rdI (fun j=>GF j∧j<h.size) (fun j=>GE j∧j<h.size) (ga,g.length,gc) g] hh) mixed ?_;have hS:=ok;refine .g 0 false rfl 31 hS (fun _=>.mvI)<|.g 2 false rfl 33 hS (fun _=>.fa T.fd67_0)<|.lw 3 false rfl 34 hS (fun _ _ hS=>.ldx T.ag22 hS.m0)<|.g 4 false rfl 35 hS (fun _=>.fa T.fd67_1)<|.lw 5 false rfl 36 hS (fun _ _ hS=>.ldx T.ag22 hS.m0)<|.g 6 false rfl 37 hS (fun _=>.fa T.fd67_2)<|.lw 7 false rfl 38 hS (fun _ _ hS=>.ldx T.ag5 hS.m0)<|.g 8 false rfl 39 hS (fun _=>.cvi T.in3 T.in5)<|.o1 1<|.k false rfl 32 .func (size13_any (n:=u) (by omega)) hS<|.o1 9<|.c' false rfl 40 .func (bopens_any (fa:=fa) (fc:=fc) (ga:=ga) (gc:=gc) (f:=f) (g:=g) (z:=sizeZ u) (mk:=mk) ok.r0 ok.r1 (sizeZ_ok u) (by omega) (by omega) (by omega)) ?_;rintro _ η4 ⟨Ew1,aw1,cw1,lw1,rfl,hpw1,hx,hrw1,hEw1⟩;have ok:=ok.grow hx (r:=rdI (fun j=>FF j∧j<h.size) (fun j=>FE j∧j<h.size) (fa,f.length,fc) f) (by simp) (pgwI Ew1 (aw1,lw1.length,cw1) lw1) hrw1 hEw1;have hmw1:=ok.r0.m;have hpw:pgs lw1=(opnQ (sizeZ u) f g mk).1:=hpw1;refine ⟨ok.tR,?_⟩;have hS:=ok.tR;refine .g 10 false rfl 30 hS (fun _=>.mvU)<|.g 11 false rfl 41 hS (fun _=>.ex)<|.g 12 false rfl 42 hS (fun _=>.ex)<|.g 13 false rfl 5 hS (fun _=>.asS)<|.g 14 false rfl 6 hS (fun _=>.asI)<|.e ?_;refine .seq<|.seq<|.r<|.z .mvI<|.z .lss<|.nil ?_;refine .cd (fun C1=>?_) (fun C1=>?_)
 ·
  refine .seq<|.r<|.c' 45 .func live13_any ?_;rintro _ η5 ⟨rfl,hx⟩;have ok:=ok.ext hx;refine .z .asB<|.nil ?_;refine .ret ⟨.bool true,Res.one rfl rfl,⟨rfl,ok.chg⟩⟩
 refine .skip<|.seq<|.r<|.c' 46 .func dgnew_any ?_;rintro _ η6 ⟨dnd1,Fnd1,rfl,q⟩;have ok:=Hp.addM ok q;refine .z .asP<|.nil ?_;refine .seq<|.seq<|.r<|.z .mvP<|.z (.fa T.fd67_0)<|.z (.ldx T.ag22 ok.m1)<|.c' 50 .func (lay13_any (d:=dnd1) (F:=Fnd1) (D:=newN) (n:=nT) (ba:=fa) (bc:=fc) (b:=f) (ok.f1).loc1 newN_ok (by omega) rfl (by decide) nT_ok rfl (by omega)) ?_;rintro _ η7 ⟨Fy1,rfl,q⟩;have ok:=(ok.f1).lift1 q;have L1:=(lay_spec (D:=newN) (n:=nT) (b:=f) rfl (by decide) nT_ok rfl (by omega)).1;have k1:DkOk (layN newN nT f):=lay_dkok newN_ok nT_ok;have c1:=lay_chg (D:=newN) (n:=nT) (b:=f);refine .z .not<|.z .mvB<|.z .mvP<|.z (.fa T.fd67_1)<|.z (.ldx T.ag22 ok.m1)<|.c' 56 .func (lay13_any (d:=dnd1) (F:=Fy1) (D:=(layN newN nT f)) (n:=nJ) (ba:=ga) (bc:=gc) (b:=g) (ok.f2).loc1 k1 (by omega) L1.hd L1.left nJ_ok (by rw [L1.ne _ nJT];rfl) (by omega)) ?_;rintro _ η8 ⟨Fy2,rfl,q⟩;have ok:=(ok.f2).lift1 q;have L2:=(lay_spec (D:=layN newN nT f) (n:=nJ) (b:=g) L1.hd L1.left nJ_ok (by rw [L1.ne _ nJT];rfl) (by omega)).1;have k2:DkOk (layN (layN newN nT f) nJ g):=lay_dkok k1 nJ_ok;have c2:=lay_chg (D:=layN newN nT f) (n:=nJ) (b:=g);refine .z .not<|.z .pkf<|.z .mvB<|.z .mvP<|.z (.fa T.fd67_2)<|.z (.ldx T.ag5 ok.m1)<|.a' 63 (.mksK mk mk T.el22 T.sz5 T.by5 T.zr5 ok) ?_;rintro _ η9 ⟨pb2,rfl,ok,xe⟩;have ok:=ok.cx (ys:=(List.replicate mk (0:UInt8)).map bv) (zeros8 _);have hrl:(List.replicate mk (0:UInt8)).length=mk:=List.length_replicate;have ok:=Hp.lenC hrl ok;rw [show (Value.slice (some ⟨pb2,0,none⟩) mk mk)=.slice (some ⟨pb2,0,none⟩) (List.replicate mk (0:UInt8)).length (List.replicate mk (0:UInt8)).length from by rw [hrl]];refine .c' 64 .func (lay13_any (d:=dnd1) (F:=Fy2) (D:=(layN (layN newN nT f) nJ g)) (n:=nM) (ba:=some ⟨pb2,0,none⟩) (bc:=(List.replicate mk (0:UInt8)).length) (b:=(List.replicate mk (0:UInt8))) (ok.n1).locC k2 (by omega) L2.hd L2.left nM_ok (by rw [L2.ne _ nMJ,L1.ne _ nMT];rfl) (by rw [List.length_replicate];omega)) ?_;rintro _ η10 ⟨Fy3,rfl,q⟩;have ok:=(ok.n1).lift1 q;refine .z .not<|.z .pkf<|.nil ?_;refine .cf<|.skip<|.seq<|?_;have k3:DkOk (layDB f g (List.replicate mk (0:UInt8))):=lay_dkok k2 nM_ok;have c3:=lay_chg (D:=layN (layN newN nT f) nJ g) (n:=nM) (b:=(List.replicate mk (0:UInt8)));obtain ⟨D3,hD3⟩:∃x:Dk,layDB f g (List.replicate mk (0:UInt8))=x:=⟨_,rfl⟩;rw [show (layN (layN (layN newN nT f) nJ g) nM (List.replicate mk (0:UInt8)))=D3 from hD3] at ok;rw [show layN (layN (layN newN nT f) nJ g) nM (List.replicate mk (0:UInt8))=D3 from hD3] at c3;rw [hD3] at k3;have hS:=layDB_syn (f:=f) (g:=g) (m:=(List.replicate mk (0:UInt8))) (by omega) (by omega) (by rw [List.length_replicate];omega);rw [hD3] at hS;have hml:mlen (if (List.replicate mk (0:UInt8))=[] then none else some (List.replicate mk (0:UInt8)))=mk:=by unfold mlen;rw [ifD,List.length_replicate]
 have hop:=opnQ_own (room:=4) hS.1 (sizeZ_ok u) hS.2 (by rw [ifD];omega) (by rw [ifD];omega) (by omega) (by rw [ifD,ifD,hml];omega);rw [ifD,ifD,hml,←hpw] at hop;have hz9:(openB D3 ((sizeZ u:Nat):Int) 4).2.2=0→(opnQ (sizeZ u) f g mk).2=0:=fun h9=>by rw [hop.1] at h9;simp only at h9;omega
 refine .r<|.z .mvP<|.z .mvI<|.k 70 .func (size13_any (n:=u) (by omega))<|.c' 71 .func (gbopen_any (d:=dnd1) (F:=Fy3) (D:=D3) (z:=((sizeZ u:Nat):Int)) (room:=4) (Hp.loc0 (ok)) k3 (by omega) (by omega) (fun h9=>⟨(opnB_dk k3).1,pgs lw1,by rw [hop.1,if_pos (hz9 h9)];exact opened_rl (hop.2 (hz9 h9)).2.1 (opnB_dk k3).1 (hop.2 (hz9 h9)).1 (most_fl (hop.2 (hz9 h9)).1 (hop.2 (hz9 h9)).2.2.1) ⟨by omega,by omega⟩⟩)) ?_;rintro _ η11 (⟨Fo1,heo1,rfl,q⟩ | ⟨po1,Fo1,heo1,rfl,q⟩)
 ·
  have ok:=Hp.lift1 (ok) q;have hcn9:(opnQ (sizeZ u) f g mk).2≠0:=fun h9=>heo1 (by rw [hop.1];simp only;omega);refine .z .mvU<|.z .ex<|.z .ex<|.z .asP<|.z .asI<|.nil ?_;refine .seq<|.seq<|.r<|.z .mvI<|.z .mvI<|.z .neq<|.z .mvB<|.sd (fun G77=>?_) (fun G77=>?_)
  ·
   exact absurd (by rw [hop.1];simp only;omega) G77
  refine .z .mvP<|.z (.pEqN T.pt47)<|.z .mvI<|.z .neq<|.z (.bNe T.bo4)<|.z .pkf<|.nil ?_;refine .cond (fun C3=>?_) (fun C3=>?_)
  ·
   rw [decide_eq_true hcn9] at C3;cases C3
  refine .skip<|.seq<|.seq<|.r<|.z .mvP<|.z (.pEqN T.pt47)<|.nil ?_;refine .ct<|.seq<|.r<|.c' 86 .func live13_any ?_;rintro _ η12 ⟨rfl,hx⟩;have ok:=ok.ext hx;refine .z .asB<|.nil ?_;refine .ret ⟨.bool true,Res.one rfl rfl,⟨rfl,ok.chg⟩⟩
 have ok:=Hp.lift1 (ok) q;obtain ⟨Ao1,hAo1⟩:∃x:Bk,(openedB (openB D3 ((sizeZ u:Nat):Int) 4).1 (Int.toNat ((sizeZ u:Nat):Int)) 4 (openB D3 ((sizeZ u:Nat):Int) 4).2.1:Bk)=x:=⟨_,rfl⟩;rw [hAo1] at ok;have hc0:=hz9 heo1;have hrel0:RelB Ao1 ⟨sizeZ u,pgs lw1,[],false,0⟩:=by rw [←hAo1,hop.1,if_pos hc0];exact ⟨rfl,rfl,rfl,fun _=>rfl,opened_rl (hop.2 hc0).2.1 (opnB_dk k3).1 (hop.2 hc0).1 (most_fl (hop.2 hc0).1 (hop.2 hc0).2.2.1) ⟨by omega,by omega⟩⟩
 have hlf0:Ao1.dk.left<0:=by rw [←hAo1];exact (hop.2 hc0).2.2.2
 have hfl9:(pgs lw1).flatten.length≤65536:=(hop.2 hc0).2.2.1;have hfew9:=few_fl (hop.2 hc0).1 (hop.2 hc0).2.2.1;rw [pgs_len] at hfew9;have hPg:=hrel0.pages;rw [show (⟨sizeZ u,pgs lw1,[],false,0⟩:WPg).pages.length=lw1.length from pgs_len] at hPg;have hcA:Ao1.dk.chg≤20000000:=by rw [←hAo1];have:=(opnB_dk (z:=((sizeZ u:Nat):Int)) (room:=4) k3).2;have h9:newN.chg=0:=rfl;show (openB D3 _ _).1.chg≤_;omega
 refine .z .mvU<|.z .ex<|.z .ex<|.z .asP<|.z .asI<|.nil ?_;refine .seq<|.seq<|.r<|.z .mvI<|.z .mvI<|.z .neq<|.z .mvB<|.sd (fun G77=>?_) (fun G77=>?_)
 ·
  exact absurd hc0.symm G77
 refine .z .mvP<|.z (.pEqS T.pt47)<|.z .mvI<|.z .neq<|.z (.bNe T.bo4)<|.z .pkf<|.nil ?_;refine .cond (fun C3=>?_) (fun C3=>?_)
 ·
  rw [decide_eq_false (not_not_intro hc0)] at C3;cases C3
 refine .skip<|.seq<|.seq<|.r<|.z .mvP<|.z (.pEqS T.pt47)<|.nil ?_;refine .cf<|.skip<|.seq<|.seq<|.r<|.z .mvP<|.k 88 .func (gbPages_any (p:=po1) (d:=dnd1) (F:=Fo1) (A:=Ao1) ok.m0)<|.z .mvS<|.z (.len T.el26)<|.z .neq<|.nil ?_;refine .cd (fun C5=>?_) (fun C5=>?_)
 ·
  exact absurd (by rw [hPg]) C5
 refine .skip<|.seq<|.seq<|.r<|.z .asI<|.nil ?_;refine .block fun K0 hK0=>.loop (fun m s hh=>∃(i:Nat) (F:Nat→Prop) (A:Bk),Has s [(5,.slice aw1 lw1.length cw1),(7,.pointer (some ⟨dnd1,0,none⟩)),(8,.pointer (some ⟨po1,0,none⟩)),(10,.int .i64 (i:Int))]∧Hp h none_ [bgI po1 dnd1 F A] [pgwI Ew1 (aw1,lw1.length,cw1) lw1] hh∧i≤lw1.length∧RelB A ⟨sizeZ u,pgs lw1,[],false,0⟩∧A.dk.left<0∧A.dk.chg≤20000000+10*i∧m=lw1.length-i) ?_ ?_
 ·exact ⟨_,0,Fo1,Ao1,⟨rfl,rfl,rfl,rfl,trivial⟩,(ok).k1.f2.e1,Nat.zero_le _,hrel0,hlf0,by omega,rfl⟩
 rintro _ _ η13 ⟨i,F,A,hs,ok,hi,hrel,hlf,hcg,rfl⟩ J0 hJ0;refine .frame hs fun τ=>?_;refine .seq<|.seq<|.r<|.z .mvI<|.z .mvS<|.z (.len T.el26)<|.z .lss<|.nil ?_;refine .cdr (fun C6=>?_) (fun C6=>?_)
 ·
  refine .exit<|hK0 _ _<|.seq<|?_;obtain ⟨tt,S9,hT9⟩:=RL.clean ⟨hrel,hlf⟩ rfl;replace hT9:tt.getD []=(pgs lw1).flatten:=hT9;obtain ⟨flb,flc,hfl⟩:∃x y,readN A.dk nT 0 131072=(x,y):=⟨_,_,rfl⟩;have hfb:flb=(pgs lw1).flatten:=by
   have h9:=rd_take (z:=131072) S9.hd nT_ok S9.T;rw [show ((131072:Nat):Int)=131072 from rfl,hfl,hT9,List.take_of_length_le (by omega)] at h9;exact h9
  have hnM9:sizeN A.dk nM=(0,false):=by rw [size_st S9.hd (show FSt (A.dk.fs nM) none [] none by rw [S9.M];exact .syn _)];rfl
  have hnL9:sizeN A.dk nJ=(0,false):=by rw [size_st S9.hd (show FSt (A.dk.fs nJ) none [] none by rw [S9.J];exact .syn _)];rfl
  have Pk9:=(bg_pl (ok).m0).ok;refine .r<|.z .mvP<|.c' 118 .func (dgread_any (d:=dnd1) (F:=F) (D:=A.dk) (n:=([116,111,109,101]:List UInt8)) (y:=0) (z:=131072) (Hp.loc0 (bg_dgo (ok))) Pk9 (by omega) (by omega)) ?_;rintro _ η14 ⟨w,rfl,own⟩;rw [show readN A.dk ([116,111,109,101]:List UInt8) 0 131072=(flb,flc) from hfl] at own⊢;replace own:Own _ _ 1 5 w (flb.map bv):=own;obtain ⟨ya1,yc1,rfl⟩:=own.formB;have ok:=ok.own own;refine .z .mvU<|.z .ex<|.z .ex<|.z .asS<|.z .asI<|.nil ?_;refine .seq<|.r<|.z .mvP<|.k 123 .func ((dgsize_any (d:=dnd1) (F:=F) (D:=A.dk) (n:=([116,111,109,101,46,109,97,114,107]:List UInt8)) (Hp.loc0 (bg_dgo (ok.n1)))).mono fun _ _ q=>(by rw [show sizeN A.dk ([116,111,109,101,46,109,97,114,107]:List UInt8)=(0,false) from hnM9] at q;exact q:_=(Value.tuple #[.int .i64 ((0:Nat):Int),.bool false])∧_))<|.z .mvU<|.z .ex<|.z .ex<|.z .asI<|.z .asB<|.nil ?_;refine .seq<|.r<|.z .mvP<|.k 128 .func ((dgsize_any (d:=dnd1) (F:=F) (D:=A.dk) (n:=([116,111,109,101,46,98,97,99,107]:List UInt8)) (Hp.loc0 (bg_dgo (ok.n1)))).mono fun _ _ q=>(by rw [show sizeN A.dk ([116,111,109,101,46,98,97,99,107]:List UInt8)=(0,false) from hnL9] at q;exact q:_=(Value.tuple #[.int .i64 ((0:Nat):Int),.bool false])∧_))<|.z .mvU<|.z .ex<|.z .ex<|.z .asI<|.z .asB<|.nil ?_;refine .seq<|.r<|.c' 131 .func live13_any ?_;rintro _ η15 ⟨rfl,hx⟩;have ok:=ok.ext hx;refine .z .mvB<|.z .mvB<|.z .not<|.z .pkt<|.z .mvB<|.z .mvB<|.z .not<|.z .pkt<|.z .mvB<|.z .mvS<|.z .mvS<|.c' 143 .func (join_any (E:=Ew1) (x:=(aw1,lw1.length,cw1)) (L:=pgs lw1) (PgB.rows ok.r0) (by omega)) ?_;rintro _ η16 own;obtain ⟨ya2,yc2,rfl⟩:=own.formB;have ok:=ok.own own;refine .k 144 .func (same_any (a:=ya1) (c:=yc1) (l:=flb) (b:=ya2) (d:=yc2) (l2:=((pgs lw1).flatten)) (RdL.ofCapB (v:=(ya1,flb.length,yc1)) (l:=flb) ok.m1) (RdL.ofCapB (v:=(ya2,((pgs lw1).flatten).length,yc2)) (l:=((pgs lw1).flatten)) ok.m0))<|.z .pkt<|.z .asB<|.nil ?_;refine .ret ⟨.bool (decide (flb=((pgs lw1).flatten))),Res.one rfl rfl,⟨congrArg Value.bool (decide_eq_true hfb),ok.chg⟩⟩
 have hil:i<lw1.length:=by omega
 refine .skip<|.seq<|.block fun K1 hK1=>.seq<|.r<|.z .mvP<|.z .mvI<|.z (.addI (b:=1))<|.c' 102 .func (gbread_any (p:=po1) (d:=dnd1) (F:=F) (A:=A) (no:=((i+1:Nat):Int)) (ok).loc0 (by omega)) ?_;rintro _ η17 ⟨Fg1,ag1,cg1,rfl,q⟩;have Pg1:=bg_pl (ok).m0;have ok:=(ok).lift2 q;obtain ⟨Ag1,hAg1⟩:∃x:Bk,(readB A ((i+1:Nat):Int)).1=x:=⟨_,rfl⟩;rw [hAg1] at ok;have hcg1:Ag1.dk.chg≤A.dk.chg+1200000:=by rw [←hAg1];exact (Int.le_trans Pg1.read.2 (by omega))
 refine .z .mvU<|.z .ex<|.z .ex<|.z .asS<|.z .asI<|.nil ?_;refine .seq<|?_;have hrd9:=hrel.read_in hlf (k:=i) (show i<(pgs lw1).length by rw [pgs_len];exact hil);have hc10:=(Pg1.read (no:=(i:Int)+1)).2;rw [show ((i:Int)+1)=((i+1:Nat):Int) from by omega] at hc10 hrd9;rw [hAg1] at hc10 hrd9;have hrv:(⟨sizeZ u,pgs lw1,[],false,0⟩:WPg).pages.getD i []=lw1[i].l:=by show (pgs lw1).getD i []=_;simp [pgs,hil]
 rw [hrv] at hrd9;have ok:=ok.d0 (rdI Ew1 Ew1 (lw1[i].a,lw1[i].l.length,lw1[i].c) lw1[i].l) ((ok.r0).by' _ (List.getElem_mem hil)) (fun _ h=>h.elim id id);refine .r<|.z .mvI<|.z .neq<|.z .mvB<|.sd (fun G107=>?_) (fun G107=>?_)
 ·
  exact absurd (by rw [hrd9.1];rfl) G107
 refine .z .mvS<|.z .mvS<|.z .mvI<|?_;obtain ⟨bb1,oo1,rfl,fb1⟩:=ok.r1.pos (by omega);refine .z (.ix1 i T.el26 T.sz22)<|.z (.ld T.ag22 (sl_at1 RB.cells_len (ok.r1).sl (i:=i) (by omega) rfl))<|.k 113 .func (same_any (a:=ag1) (c:=cg1) (l:=(readB A ((i+1:Nat):Int)).2.1) (b:=lw1[i].a) (d:=lw1[i].c) (l2:=lw1[i].l) (RdL.ofCapB (v:=(ag1,(readB A ((i+1:Nat):Int)).2.1.length,cg1)) (l:=((readB A ((i+1:Nat):Int)).2.1)) ok.m0) ok.r0)<|.z .notd<|.z .pkf<|.nil ?_;refine .cd (fun C7=>?_) (fun C7=>?_)
 ·
  exact absurd (by rw [hrd9.1]) C7
 refine .skip<|.end<|hK1 _ _<|.r<|.z .mvI<|.z (.addI (b:=1))<|.z .asI<|.nil ?_;refine .end<|hJ0 _ _ _ ⟨i+1,Fg1,Ag1,⟨rfl,rfl,rfl,rfl,trivial⟩,(ok.n1).k1.f1.e1,by omega,hrd9.2.1,hrd9.2.2,by omega,rfl⟩ (by omega)
end Go.Proofs.YtpeaicddbnghfaaGreat
namespace Go.HL
open Go Go.RowKit Go.ChangeShapes Go.WideShapes Go.ChangeAt
theorem Below.of {w w':World} {h':Heap} (a:At (Env.of w) h' w') (x:Ext w.heap h'):Below w.heap.size w w':=
 ⟨a.os,a.tape,a.output,by rw [a.heap];exact x.size,fun k hk=>by rw [a.heap];exact x.same k hk fun f=>f⟩
theorem trodAll_below {H:Type} {enc:TypeId × Value→H} {P:Program} (hl:laidOutB P=true) {W W':World} (hb:Below W.heap.size W W'):∀ {ts:List TypeId} {vs:List Value} {ds:List (DataW H)} {ps:List MemPlace},
  (ts.all fun t=>P.readableRec t && decide (t<P.types.size))=true→(∀x∈ps,x.block<W.heap.size)→DataW.TrodAll enc P W 0 (fun _=>true) true ts vs ds ps→DataW.TrodAll enc P W' 0 (fun b=>decide (b<W.heap.size)) true ts vs ds ps
 | [],[],[],_,_,_,h=>h
 | t::ts,v::vs,d::ds,ps,ht,hp,h=>by
  obtain ⟨p,q,h1,h2,rfl⟩:=h;simp only [List.all_cons,Bool.and_eq_true,decide_eq_true_eq] at ht;exact ⟨p,q,RowKit.Below.trod hl ht.1.1 ht.1.2 h1 hb (fun x hx=>hp x (List.mem_append_left _ hx)),trodAll_below hl hb (by simpa using ht.2) (fun x hx=>hp x (List.mem_append_right _ hx)) h2,rfl⟩
 | [],[],_::_,_,_,_,h=>h.elim
 | [],_::_,_,_,_,_,h=>h.elim
 | _::_,[],_,_,_,_,h=>h.elim
 | _::_,_::_,[],_,_,_,h=>h.elim
theorem law_post {H:Type} {enc:TypeId × Value→H} {P:Program} {f:Func} {s:ChangeSpec} {fresh handsOn:Bool} {W W':World} {args:Array Value} {ds gs:List (DataW H)} {before:List MemPlace} {tb:TypeId}
  (hl:laidOutB P=true) (hW:DataW.Whole enc P f.params.toList s.vars false W args.toList ds gs before) (hv:s.vars=[]) (ht:(f.params.toList.all fun t=>P.readableRec t && decide (t<P.types.size))=true)
  (hr:f.resultTypes = #[tb]) (hb:P.underlying tb=some .bool) (hs:s.fn H ds = { results:=[.lit (.bool true)],args:=ds }) {h':Heap} (a:At (Env.of W) h' W') (x:Ext W.heap h') :
  s.post enc P f false fresh handsOn false W args (.bool true) W':=by
 have bel:=Below.of a x;have hlt:=hW.lt;obtain ⟨p,q,hA,hV,rfl,hfz,hnd⟩:=hW;rw [hv] at hV;cases gs with
 | cons g gs=>exact hV.elim
 | nil=>
  have hq:q=[]:=hV;subst hq;rw [List.append_nil] at *;refine ⟨ds,[],p,[],p,[],⟨p,[],hA,by rw [hv];rfl,by simp,hfz,hnd⟩,?_,?_,?_,bel.frame _,fun h=>by cases h⟩
  ·rw [List.append_nil,hs,hr];exact trodAll_mk1 (shut_bool hb _)
  ·rw [List.append_nil,hs];exact trodAll_below hl bel ht (fun x hx=>hlt x (by simpa using hx)) hA
  ·rw [List.append_nil,hs,hv];rfl
theorem addr_add (b o j:Nat):(⟨b,o,none⟩:Addr).add j=⟨b,o+j,none⟩:=by unfold Addr.add;split<;>simp_all
theorem byte_val {z:Int} (w:(Lit.int .u8 z).wf=true):∃x:UInt8,z=(x.toNat:Int):=by
 have hr:0≤z∧z≤255:=by simpa [Lit.wf,IntKind.min,IntKind.max,IntKind.signed,IntKind.bits] using w
 refine ⟨UInt8.ofNat z.toNat,?_⟩;simp;omega
end Go.HL
