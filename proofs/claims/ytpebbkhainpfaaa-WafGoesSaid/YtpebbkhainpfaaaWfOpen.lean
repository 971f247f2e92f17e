/- The frames and logs that come in to the laws on logs, opened. Conditions: none. -/
import Derived.Test.YtpebbkhainpfaaaWfLive
import Derived.Test.YtpebbkhainpfaaaHlOpen
namespace Go.Proofs.Ytpebbkhainpfaaa
open Go Go.HL

theorem _root_.Go.HL.RdL.of_sls {α : Type} [Rep α] {h : Heap} {E : Nat → Prop} {x : SV} {css : List (List Value)} {l : List α} (hs : Sl h (Rep.k α) (sv x) css.flatten) (r : All2 (Rep.rd h E) css l) : RdL h any_ E x l := by
  obtain ⟨a, n, c'⟩ := x
  have hk := Rep.kpos (α := α)
  have hlen : ∀ cs ∈ css, cs.length = Rep.k α := fun cs hcs => by
    obtain ⟨i, hi, rfl⟩ := List.mem_iff_getElem.1 hcs
    exact Rep.len (r.2 i hi (by have := r.1; omega))
  have hn : css.length = n := by
    have h1 := hs.cells.1
    rw [flatten_len hlen] at h1
    exact Nat.eq_of_mul_eq_mul_right hk h1
  obtain ⟨a', n', c2, hv, g1, g2, g3⟩ := id hs
  injection hv with e1 e2 e3
  simp only at e1 e2 e3
  subst e1 e2 e3
  refine ⟨by have := r.1; simp; omega, g1, g2, fun hp => ?_⟩
  have hn0 : 0 < n := by have := r.1; omega
  obtain ⟨b, o, rfl, hc⟩ := hs.cells.pos hn0
  refine ⟨b, o, rfl, trivial, fun i hi => ⟨css[i]'(by have := r.1; omega), r.2 i _ hi, fun j v hj => ?_⟩⟩
  have h1 : i < css.length := by have := r.1; omega
  have h2 : j < Rep.k α := by
    have h3 := (List.getElem?_eq_some_iff.1 hj).1
    rwa [hlen _ (List.getElem_mem h1)] at h3
  rw [Nat.add_assoc]
  exact hc _ _ (by rw [flatten_at hlen i j h1 h2]; exact hj)
def InI (z : Int) : Prop := -9223372036854775808 ≤ z ∧ z ≤ 9223372036854775807
theorem opn_frame : Opn Try.prog 38 (fun h cs (f : Fr) => ∃ x : SV, cs = [.int .i64 f.page, .int .i64 f.commit, sv x] ∧ Bytes h (sv x) f.b ∧ InI f.page ∧ InI f.commit) := ⟨fun hx => by
  have hl := (opn_struct Try.underlying38 hx).1
  have f0 := opn_field T.fd38_0 hx (Opn.i64 Try.underlying3)
  have f1 := opn_field T.fd38_1 hx (Opn.i64 Try.underlying3)
  have f2 := opn_field T.fd38_2 hx (Opn.bytes Try.underlying22 Try.underlying5 (by kernel_rfl))
  obtain ⟨c0, c1, c2, rfl⟩ := len3 (hl.trans (by kernel_rfl : _ = 3))
  obtain ⟨p, h0, hp⟩ := f0
  obtain ⟨q, h1, hq⟩ := f1
  obtain ⟨b, xb, h2, hb⟩ := f2
  simp at h0 h1 h2
  subst h0 h1 h2
  exact ⟨⟨p, q, b⟩, xb, rfl, hb, hp, hq⟩⟩
def frC (o : Int × Int × SV) : List Value := [.int .i64 o.1, .int .i64 o.2.1, sv o.2.2]
theorem frC_len (o : Int × Int × SV) : (frC o).length = 3 := rfl
theorem opn_frames : Opn Try.prog 24 (fun h cs (l : List Fr) => ∃ x : SV, cs = [sv x] ∧ RdL h any_ any_ x l ∧ ∀ f ∈ l, InI f.page ∧ InI f.commit) :=
  (Opn.slice (f := frC) (Q := fun h o (f : Fr) => o.1 = f.page ∧ o.2.1 = f.commit ∧ Bytes h (sv o.2.2) f.b ∧ InI f.page ∧ InI f.commit) Try.underlying24 (by kernel_rfl : _ = 3) (by omega) frC_len (opn_frame.mono fun h cs f ⟨x, e, hb, h1, h2⟩ => ⟨f, (f.page, f.commit, x), e, rfl, rfl, hb, h1, h2⟩)).mono fun h cs l ⟨x, os, h1, h2, h3⟩ => ⟨l, x, h1,
    RdL.of_sls (α := Fr) (css := os.map frC) (by rw [← List.flatMap_def]; exact h2) (h3.map fun o f ⟨e1, e2, hb, _⟩ => ⟨o.2.2, by simp only [frC, e1, e2]; rfl, (RdL.ofBytes (E := any_) hb).mono (fun _ _ => trivial) (fun _ h => h)⟩), fun f hf => by
    obtain ⟨i, hi, rfl⟩ := List.mem_iff_getElem.1 hf
    exact (h3.2 i (by have := h3.1; omega) hi).2.2.2⟩
structure Lg where
  size : Int
  salt : Int
  l : List Fr
theorem opn_log : Opn Try.prog 50 (fun h cs (g : Lg) => ∃ x : SV, cs = [.int .i64 g.size, .int .u64 g.salt, sv x] ∧ RdL h any_ any_ x g.l ∧ InI g.size ∧ (0 ≤ g.salt ∧ g.salt ≤ 18446744073709551615) ∧ ∀ f ∈ g.l, InI f.page ∧ InI f.commit) := ⟨fun hx => by
  have hl := (opn_struct Try.underlying50 hx).1
  have f0 := opn_field T.fd50_0 hx (Opn.i64 Try.underlying3)
  have f1 := opn_field T.fd50_1 hx (Opn.int Try.underlying25)
  have f2 := opn_field T.fd50_2 hx opn_frames
  obtain ⟨c0, c1, c2, rfl⟩ := len3 (hl.trans (by kernel_rfl : _ = 3))
  obtain ⟨p, h0, hp⟩ := f0
  obtain ⟨q, h1, hq⟩ := f1
  obtain ⟨b, xb, h2, hb⟩ := f2
  simp at h0 h1 h2
  subst h0 h1 h2
  exact ⟨⟨p, q, b⟩, xb, rfl, hb.1, hp, by simpa [IntKind.min, IntKind.max, IntKind.signed, IntKind.bits] using hq, hb.2⟩⟩
end Go.Proofs.Ytpebbkhainpfaaa
