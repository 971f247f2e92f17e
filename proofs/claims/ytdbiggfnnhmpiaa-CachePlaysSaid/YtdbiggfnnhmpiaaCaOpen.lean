/- The calls that come in to the cache's laws, opened. Conditions: none. -/
import Derived.Test.YtdbiggfnnhmpiaaCaSmall
import Derived.Test.YtdbiggfnnhmpiaaHlOpen
namespace Go.Proofs.Ytdbiggfnnhmpiaa
open Go Go.HL

def InI (z : Int) : Prop := -9223372036854775808 ≤ z ∧ z ≤ 9223372036854775807
theorem opn_op : Opn Try.prog 33 (fun h cs a => ∃ o, cs = opc o ∧ (OpIs h o a ∧ InI a.no ∧ ∀ z ∈ a.l, InI z)) := ⟨fun hx => by
  have hl := (opn_struct Try.underlying33 hx).1
  have f0 := opn_field T.fd33_0 hx (Opn.u8 Try.underlying5)
  have f1 := opn_field T.fd33_1 hx (Opn.i64 Try.underlying3)
  have f2 := opn_field T.fd33_2 hx (Opn.bytes Try.underlying30 Try.underlying5 (by kernel_rfl))
  have f3 := opn_field T.fd33_3 hx (Opn.bool Try.underlying4)
  have f4 := opn_field T.fd33_4 hx (Opn.ints Try.underlying31 Try.underlying3 (by kernel_rfl))
  obtain ⟨c0, c1, c2, c3, c4, rfl⟩ := len5 (hl.trans (by kernel_rfl : _ = 5))
  obtain ⟨k, h0⟩ := f0
  obtain ⟨no, h1, hno⟩ := f1
  obtain ⟨b, xb, h2, hb⟩ := f2
  obtain ⟨d, h3⟩ := f3
  obtain ⟨l, xl, h4, hl4, hr⟩ := f4
  simp at h0 h1 h2 h3 h4
  subst h0 h1 h2 h3 h4
  exact ⟨⟨k, no, b, d, l⟩, ⟨k, no, xb, d, xl⟩, rfl, ⟨rfl, rfl, hb, rfl, hl4⟩, hno, hr⟩⟩
theorem open_ops : Opn Try.prog 22 (fun h cs (M : List AOp) => ∃ x : SV, cs = [sv x] ∧ Ops h (sv x) M ∧ ∀ o ∈ M, InI o.no ∧ ∀ z ∈ o.l, InI z) :=
  (Opn.slice Try.underlying22 (by kernel_rfl : _ = 5) (by omega) opc_len opn_op).mono fun h cs l ⟨x, os, h1, h2, h3⟩ => ⟨l, x, h1, ⟨os, h2, h3.mono fun _ _ q => q.1⟩, fun o ho => by
    obtain ⟨i, hi, rfl⟩ := List.mem_iff_getElem.1 ho
    exact (h3.2 i (by have := h3.1; omega) hi).2⟩
end Go.Proofs.Ytdbiggfnnhmpiaa
