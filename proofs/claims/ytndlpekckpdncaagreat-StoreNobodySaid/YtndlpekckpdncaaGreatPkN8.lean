/- The law StoreNobody returns true at every input and leaves its arguments as they were. Conditions: none. -/
import Derived.Test.YtndlpekckpdncaaGreatPkN7
import Derived.Test.YtndlpekckpdncaaGreatRows
set_option maxRecDepth 100000
set_option maxHeartbeats 2000000
set_option linter.all false
namespace Go.Proofs.YtndlpekckpdncaaGreat
open Go Go.HL Go.ChangeShapes Go.WideShapes Go.ChangeAt Go.RowKit
theorem own_knob:ownKnob Tryz.prog.godebug=none:=by kernel_rfl
theorem laid_out:laidOutB Tryz.prog=true:=by kernel_rfl
theorem storeNobody_lifted (os:Os) (started:os.Started) (H:Type) (enc:TypeId × Value→H) :
  ReturnsInHanded {} Tryz.checked os 10 .any (Rows.storeNobodySpec.pre6 enc Tryz.prog Tryz.f10 Rows.storeNobodyRow.domain false) (Rows.storeNobodySpec.post enc Tryz.prog Tryz.f10 false true false false):=by
 refine returnsInHanded_of_change (C:=Tryz.checked) own_knob started (by kernel_rfl) Tryz.func10
  (ChangeSpec.witness6 (enc:=enc) (C:=Tryz.checked) false ⟨#[],#[.agg #[.int .i64 0,.bool false,.int .i64 0],.agg #[.int .i64 0,.int .i64 0,.int .u8 0,.int .i64 0,.int .i64 0,.int .i64 0,.int .i64 0,.int .i64 0,.int .i64 0]],[]⟩ 8 (by kernel_rfl) (by kernel_rfl) (by kernel_rfl) (by kernel_rfl)) ?_
 intro W base args ds gs before hval0 hW hcnd _;have hval:∀(j:Nat) t v,Tryz.f10.params[j]? = some t→args[j]? = some v→Value.okWide Tryz.prog W .any base t v:=hval0;have hW':=hW;obtain ⟨p,q,hA0,hV,rfl,hfz,hnd⟩:=hW;have hA:DataW.TrodAll enc Tryz.prog W 0 (fun _=>true) true Tryz.f10.params.toList args.toList ds p:=hA0;rw [Tryz.params10] at hA hval;obtain ⟨v0,vs0,d0,ds0,p0,q0,hargs,rfl,rfl,h0,r0⟩:=trodAll_cons hA;obtain ⟨v1,vs1,d1,ds1,p1,q1,rfl,rfl,rfl,h1,r1⟩:=trodAll_cons r0;obtain ⟨rfl,rfl,rfl⟩:=trodAll_nil r1;obtain rfl:args = #[v0,v1]:=by cases args;simp_all
 obtain ⟨cs0,rfl,_⟩:=okWide_struct Tryz.underlying23 (hval 0 23 v0 rfl rfl);obtain ⟨l0,hy0,hl0⟩:=opn_mode.arg h0;obtain ⟨ys0⟩:=cs0;obtain rfl:ys0=_:=hy0;obtain ⟨cs1,rfl,_⟩:=okWide_struct Tryz.underlying68 (hval 1 68 v1 rfl rfl);obtain ⟨l1,hy1,hl1⟩:=opn_deed.arg h1;obtain ⟨ys1⟩:=cs1;obtain rfl:ys1=_:=hy1;refine (((storeNobody_row (m:=l0) (d:=l1))).2 _ W (At.self W)).mono fun e W' ⟨v,h',he,at',hv,hx⟩=>?_;subst he;subst hv;exact ⟨_,rfl,law_post laid_out hW' rfl (by kernel_rfl) rfl Tryz.underlying4 rfl at' hx⟩
theorem storeNobody_holds:Rows.StoreNobodySaid:=
 OpenClaim.holds_of_wide 10 Tryz.f10 rfl rfl rfl rfl rfl rfl rfl ⟨rfl,rfl,rfl,rfl,rfl⟩ rfl rfl rfl rfl rfl (by kernel_rfl) Tryz.func10 (by kernel_rfl)
  (of_decide_eq_true (by kernel_rfl)) (by unfold Func.isWrapper;first | (rw [if_pos (by decide +kernel)];kernel_rfl) | (rw [if_neg (by decide +kernel)];exact ⟨rfl,rfl⟩))
  (fun os started H enc _=>storeNobody_lifted os started H enc)
end Go.Proofs.YtndlpekckpdncaaGreat
