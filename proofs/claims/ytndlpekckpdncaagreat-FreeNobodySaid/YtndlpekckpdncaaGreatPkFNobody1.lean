/- The rules of the logic in few words: code as a list of what is still to run. Conditions: those that each rule names. All free pages; the head laid anew; the file grows. Conditions: the store is in order. A page is taken; a page is given. Conditions: the store is in order. Without a store nothing is taken or given. Conditions: none. The law FreeNobody returns true at every input and leaves its arguments as they were. Conditions: none. -/
import Derived.Test.YtndlpekckpdncaaGreatPkF6
import Derived.Test.YtndlpekckpdncaaGreatRows
set_option maxRecDepth 100000
set_option maxHeartbeats 2000000
set_option linter.all false
namespace Go.HL
open Go
namespace OpV
variable {P:Program} {s:Slots} {h:Heap} {d:Option Tmp} {ty:TypeId} {pos:String} {af:Array Edge} {g:Option (Nat × Bool)} {x y c:Operand} {t u:TypeId}
theorem pNeN {e:TypeId} (ht:ptB P t=some e) (hx:ev s x=.pointer none:=by exact rfl) (hy:ev s y=.pointer none:=by exact rfl):OpV P ⟨d,.binOp .neq t x y u,ty,pos,af,g⟩ s h (.bool false):=V.ptrNeNil hx hy ht
end OpV
end Go.HL
namespace Go.Proofs.YtndlpekckpdncaaGreat
open Go Go.HL
theorem fopenNil_any {h:Heap} :
  HC Tryz.prog 73 #[.pointer none] h (fun v h'=>v=.tuple #[.slice none 0 0,.int .i64 2]∧h'=h):=by
 refine HC.go Tryz.func73 20 ?_;refine .seq<|.r<|.z .asS<|.z .asI<|.nil ?_;refine .seq<|.block fun K0 hK0=>.seq<|.r<|.z .mvP<|.z (.pEqN T.pt27)<|.z .asB<|.nil ?_;refine .ct<|.seq<|.r<|.z .asS<|.z .asI<|.nil ?_;refine .ret ⟨.tuple #[.slice none 0 0,.int .i64 2],Res.two rfl rfl rfl,⟨rfl,rfl⟩⟩
theorem flistNil_any {h:Heap} :
  HC Tryz.prog 17 #[.pointer none] h (fun v h'=>v=.tuple #[.slice none 0 0,.int .i64 2]∧h'=h):=by
 refine HC.go Tryz.func17 17 ?_;refine .seq<|.r<|.z .asS<|.z .asI<|.nil ?_;refine .seq<|.seq<|.r<|.z .mvP<|.z (.pEqN T.pt27)<|.nil ?_;refine .ct<|.seq<|.r<|.z .asS<|.z .asI<|.nil ?_;refine .ret ⟨.tuple #[.slice none 0 0,.int .i64 2],Res.two rfl rfl rfl,⟨rfl,rfl⟩⟩
theorem ftakeNil_any {h:Heap} :
  HC Tryz.prog 21 #[.pointer none] h (fun v h'=>v=.tuple #[.int .i64 0,.int .i64 2]∧h'=h):=by
 refine HC.go Tryz.func21 92 ?_;refine .seq<|.r<|.z .asI<|.z .asI<|.nil ?_;refine .seq<|.r<|.z .mvP<|.k 14 .func fopenNil_any<|.z .mvU<|.z .ex<|.z .ex<|.z .asS<|.z .asI<|.nil ?_;refine .seq<|.seq<|.r<|.z .mvI<|.z .neq<|.nil ?_;refine .ct<|.seq<|.r<|.z .mvI<|.z .asI<|.z .asI<|.nil ?_;refine .ret ⟨.tuple #[.int .i64 0,.int .i64 2],Res.two rfl rfl rfl,⟨rfl,rfl⟩⟩
theorem fgiveNil_any {h:Heap} {no:Int} :
  HC Tryz.prog 19 #[.pointer none,.int .i64 no] h (fun v h'=>v=.int .i64 2∧h'=h):=by
 refine HC.go Tryz.func19 114 ?_;refine .seq<|.r<|.z .asI<|.nil ?_;refine .seq<|.seq<|.r<|.z .mvP<|.z (.pNeN T.pt27)<|.z .mvB<|.y<|.y<|.z .pkf<|.z .mvB<|.y<|.y<|.y<|.y<|.z .pkf<|.z .mvB<|.y<|.y<|.y<|.y<|.y<|.y<|.y<|.y<|.y<|.z .pkf<|.nil ?_;refine .cf<|.skip<|.seq<|.r<|.z .mvP<|.k 37 .func fopenNil_any<|.z .mvU<|.z .ex<|.z .ex<|.z .asS<|.z .asI<|.nil ?_;refine .seq<|.block fun K0 hK0=>.seq<|.r<|.z .mvI<|.z .neq<|.z .asB<|.nil ?_;refine .ct<|.seq<|.r<|.z .mvI<|.z .asI<|.nil ?_;refine .ret ⟨.int .i64 2,Res.one rfl rfl,⟨rfl,rfl⟩⟩
theorem freeNobody_walk {h:Heap} {no:Int} :
  HC Tryz.prog 4 #[.int .i64 no] h (fun v h'=>v=.bool true∧Ext h h'):=by
 have ok:=Hp.nil h none_;refine HC.go Tryz.func4 38 ?_;refine .seq<|.r<|.z .asB<|.nil ?_;refine .seq<|.r<|.k 8 .func ftakeNil_any<|.z .mvU<|.z .ex<|.z .ex<|.z .asI<|.z .asI<|.nil ?_;refine .seq<|.r<|.k 12 .func flistNil_any<|.z .mvU<|.z .ex<|.z .ex<|.z .asS<|.z .asI<|.nil ?_;refine .seq<|.r<|.c' 15 .func live16_any ?_;rintro _ η1 ⟨rfl,hx⟩;have ok:=ok.ext hx;refine .z .mvB<|.z .mvI<|.z .eql<|.z .pkt<|.z .mvB<|.z .mvI<|.z .eql<|.z .pkt<|.z .mvB<|.z .mvI<|.k 26 .func (fgiveNil_any (no:=no))<|.z .eql<|.z .pkt<|.z .mvB<|.z .mvS<|.z (.len T.el24)<|.z .eql<|.z .pkt<|.z .mvB<|.z .mvI<|.z .eql<|.z .pkt<|.z .asB<|.nil ?_;refine .ret ⟨.bool true,Res.one rfl rfl,⟨rfl,ok.chg⟩⟩
open Go.ChangeShapes Go.WideShapes Go.ChangeAt Go.RowKit
theorem freeNobody_lifted (os:Os) (started:os.Started) (H:Type) (enc:TypeId × Value→H) :
  ReturnsInHanded {} Tryz.checked os 4 .any (Rows.freeNobodySpec.pre6 enc Tryz.prog Tryz.f4 Rows.freeNobodyRow.domain false) (Rows.freeNobodySpec.post enc Tryz.prog Tryz.f4 false true false false):=by
 refine returnsInHanded_of_change (C:=Tryz.checked) own_knob started (by kernel_rfl) Tryz.func4
  (ChangeSpec.witness6 (enc:=enc) (C:=Tryz.checked) false ⟨#[],#[.int .i64 0],[]⟩ 8 (by kernel_rfl) (by kernel_rfl) (by kernel_rfl) (by kernel_rfl)) ?_
 intro W base args ds gs before hval0 hW hcnd _;have hval:∀(j:Nat) t v,Tryz.f4.params[j]? = some t→args[j]? = some v→Value.okWide Tryz.prog W .any base t v:=hval0;have hW':=hW;obtain ⟨p,q,hA0,hV,rfl,hfz,hnd⟩:=hW;have hA:DataW.TrodAll enc Tryz.prog W 0 (fun _=>true) true Tryz.f4.params.toList args.toList ds p:=hA0;rw [Tryz.params4] at hA hval;obtain ⟨v0,vs0,d0,ds0,p0,q0,hargs,rfl,rfl,h0,r0⟩:=trodAll_cons hA;obtain ⟨rfl,rfl,rfl⟩:=trodAll_nil r0;obtain rfl:args = #[v0]:=by cases args;simp_all
 obtain ⟨z0,rfl,_,_,w0⟩:=open_int Tryz.underlying3 (hval 0 3 v0 rfl rfl) h0;have b0 : -9223372036854775808≤z0∧z0≤9223372036854775807:=by simpa [Lit.wf,IntKind.min,IntKind.max,IntKind.signed,IntKind.bits] using w0
 refine (((freeNobody_walk (no:=z0))).2 _ W (At.self W)).mono fun e W' ⟨v,h',he,at',hv,hx⟩=>?_;subst he;subst hv;exact ⟨_,rfl,law_post laid_out hW' rfl (by kernel_rfl) rfl Tryz.underlying4 rfl at' hx⟩
theorem freeNobody_holds:Rows.FreeNobodySaid:=
 OpenClaim.holds_of_wide 4 Tryz.f4 rfl rfl rfl rfl rfl rfl rfl ⟨rfl,rfl,rfl,rfl,rfl⟩ rfl rfl rfl rfl rfl (by kernel_rfl) Tryz.func4 (by kernel_rfl)
  (of_decide_eq_true (by kernel_rfl)) (by unfold Func.isWrapper;first | (rw [if_pos (by decide +kernel)];kernel_rfl) | (rw [if_neg (by decide +kernel)];exact ⟨rfl,rfl⟩))
  (fun os started H enc _=>freeNobody_lifted os started H enc)
end Go.Proofs.YtndlpekckpdncaaGreat
