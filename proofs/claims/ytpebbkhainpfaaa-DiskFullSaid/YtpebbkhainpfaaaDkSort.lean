/- maps.Keys and slices.Sorted over a map by strings: its keys, sorted. Conditions: the keys are few and short. -/
import Derived.Test.YtpebbkhainpfaaaSrtB
import Derived.Test.YtpebbkhainpfaaaWfSort
import Derived.Test.YtpebbkhainpfaaaHlTxt
namespace Go.Proofs.Ytpebbkhainpfaaa
open Go Go.HL Go.RowKit Go.Maps Go.Sort Go.Shelf Go.MapKept
theorem sortsS_in (m : Nat) : AnyZ.SortsIn Try.prog Try.sortedB_ren Fence.wide m :=
  ⟨fun blk off cap ss W hH hblk hsz => callsIn_wide.2 (AnyM.slices_Sort_string Try.sortB blk off cap ss W hH hblk hsz),
   fun p cap W => callsIn_wide.2 (AnyM.slices_Sort_string_none Try.sortB p cap W)⟩
/-- The map as the kit's readings have it: its keys. -/
theorem owns_keysS {h : Heap} {mb : Nat} {l : List (List UInt8 × Value)} (hm : MapT kvB h mb l) (hr : ∀ p ∈ l, p.1.length ≤ 1000000000) (hl : l.length ≤ 1000000000) {w : World} (hw : w.heap[mb]? = h[mb]?) :
    ∃ (nn : Nat) (D : DataW Unit), w.ownsMap Try.prog 9 noElem mb nn D ∧ Maps.size D = l.length ∧ (strKeys D).Perm (l.map (·.1)) := by
  obtain ⟨es, cl, hb, he, hs⟩ := hm
  have hlen : es.size = l.length := by
    have := congrArg List.length he
    simpa using this
  have hrd : ∀ x ∈ es.toList, ∃ k ∈ l.map (·.1), x.key = kvB k ∧ WideElems.rd Try.prog 9 noElem x = some (.string k, .nil) := fun x hx => by
    have h1 : (x.key, x.val) ∈ es.toList.map fun e => (e.key, e.val) := List.mem_map.2 ⟨x, hx, rfl⟩
    rw [he] at h1
    obtain ⟨p, hp, e⟩ := List.mem_map.1 h1
    injection e with e1 e2
    refine ⟨p.1, List.mem_map.2 ⟨p, hp, rfl⟩, e1.symm, ?_⟩
    unfold WideElems.rd
    have hsz : (BA p.1).size ≤ maxLen := by have := hr p hp; rw [BA_size]; simp only [maxLen]; omega
    have hk : keyOf Try.prog 9 (.string (BA p.1)) = some (.string (BA p.1).data.toList) := by simp [keyOf, Try.underlying9, mapKey, hsz]
    rw [← e1, kvB, hk]
    simp [noElem, BA]
  have hrg : es.toList.map (WideElems.rg Try.prog 9 noElem) = l.map fun p => (Lit.string p.1, DataW.nil) := by
    have h1 : es.toList.map (·.key) = l.map fun p => kvB p.1 := by
      have := congrArg (List.map Prod.fst) he
      rw [List.map_map, List.map_map] at this
      exact this
    have h2 : ∀ (m : List MapEntry) (s : List (List UInt8 × Value)), m.map (·.key) = (s.map fun p => kvB p.1) → (∀ x ∈ m, ∃ k ∈ l.map (·.1), x.key = kvB k ∧ WideElems.rd Try.prog 9 noElem x = some (.string k, .nil)) → m.map (WideElems.rg Try.prog 9 noElem) = s.map fun p => (Lit.string p.1, DataW.nil) := by
      intro m
      induction m with
      | nil => intro s hs _; cases s with
        | nil => rfl
        | cons a s => simp at hs
      | cons x m ih =>
        intro s hs hx
        cases s with
        | nil => simp at hs
        | cons a s =>
          simp only [List.map_cons, List.cons.injEq] at hs ⊢
          obtain ⟨k, _, h3, h4⟩ := hx x List.mem_cons_self
          have : a.1 = k := by
            have h5 := hs.1
            rw [h3] at h5
            exact (KV.ba.inj _ _ h5).symm
          subst this
          refine ⟨?_, ih s hs.2 fun y hy => hx y (List.mem_cons_of_mem _ hy)⟩
          unfold WideElems.rg
          rw [h4]; rfl
    exact h2 _ _ h1 hrd
  refine ⟨es.size, _, ⟨es, cl, hw.trans hb, ⟨by show _ ≤ 9223372036854775807; omega, hs, fun x hx => let ⟨k, _, _, h⟩ := hrd x hx; ⟨_, h⟩⟩, Nat.le_refl _, rfl⟩, ?_, ?_⟩
  · show (List.foldr DataW.insert [] _).length = _
    rw [(sorted_perm _).length_eq, List.length_map]; simpa using hlen
  · show ((List.foldr DataW.insert [] _).map fun p => strOf p.1).Perm (l.map (·.1))
    refine ((sorted_perm _).map _).trans ?_
    rw [hrg, List.map_map]
    exact .of_eq rfl
theorem keysS_any {h : Heap} {mb : Nat} : HC Try.prog 108 #[.map (some mb)] h (fun v h' => v = .func (.func 120) #[] #[ptr h.size] ∧ h' = h.push (.cells #[.map (some mb)] 111 (0, 0))) :=
  HC.of_calls ⟨_, Try.func108, by decide, rfl⟩ fun w hw => (callsIn_wide.1 (AnyZ.keys_in Try.keysB Fence.wide 5 trivial rfl (some mb) w)).mono fun e w' ⟨h1, h2⟩ => by
    subst h2 hw
    exact ⟨_, h1, (RowKit.Below.refl _ w).alloc (Nat.le_refl _) _, rfl, rfl⟩
theorem le_of_not {a b : List UInt8} (h : ¬ a ≤ b) : b ≤ a := by
  rcases list_tri a b with h1 | h1 | h1
  · exact absurd (List.le_of_lt h1) h
  · exact absurd (h1 ▸ List.le_refl _) h
  · exact List.le_of_lt h1
theorem sortedS_any {h : Heap} {mb : Nat} {l : List (List UInt8 × Value)} (hm : MapT kvB h mb l) (hr : ∀ p ∈ l, p.1.length ≤ 1000000000) (hl : l.length ≤ 1000000000) :
    HC Try.prog 107 #[.func (.func 120) #[] #[ptr h.size]] (h.push (.cells #[.map (some mb)] 111 (0, 0)))
      (fun v h' => ∃ S : List (List UInt8), S.Perm (l.map (·.1)) ∧ S.Pairwise (· ≤ ·) ∧ Own (h.push (.cells #[.map (some mb)] 111 (0, 0))) h' 1 9 v (S.map kvB)) :=
  HC.of_calls ⟨_, Try.func107, by decide, rfl⟩ fun w hw => by
    have hsz : w.heap.size = h.size + 1 := by rw [hw]; simp
    obtain ⟨nn, D, hown, hD, hK⟩ := owns_keysS hm hr hl (w := w) (by rw [hw, Array.getElem?_push, if_neg (by have := hm.lt; omega)])
    have hseq : SeqGives Fence.wide 2 Try.prog 120 #[.pointer (some ⟨h.size, 0, none⟩)] encStr (fun ss => ss.Perm (strKeys D)) (Maps.size D) w :=
      AnyZ.keys_gives (ρ := Try.keysB_ren) { Try.keysB with } Fence.wide _ trivial rfl (by omega) h.size mb nn D w (by omega) (by rw [cell?_eq, hw]; exact cell_of (push_same _ _) 0) hown
    have cS := AnyZ.sorted_in Try.sortedB Fence.wide 5 trivial trivial trivial trivial rfl (by omega) (sortsS_in _) (enters_of Try.func119 (by kernel_rfl) rfl) 120 #[.pointer (some ⟨h.size, 0, none⟩)] trivial (enters_of Try.func120 (by kernel_rfl) rfl) _ (Maps.size D) (by show _ ≤ 9223372036854775807; omega) (by omega) w hseq
    refine (callsIn_wide.1 cS).mono fun e w' ⟨v, ss, h1, h2, h3, h4, h5⟩ => ⟨v, h1, by rw [← hw]; exact h5, ss.mergeSort (fun x y => decide (x ≤ y)), ?_, ?_, ?_⟩
    · exact (List.mergeSort_perm _ _).trans (h2.trans hK)
    · have := List.pairwise_mergeSort (le := fun x y : List UInt8 => decide (x ≤ y)) (fun a b c h1 h2 => by simp only [decide_eq_true_eq] at h1 h2 ⊢; exact List.le_trans h1 h2) (fun a b => by
        by_cases h : a ≤ b
        · simp [h]
        · simp [le_of_not h]) ss
      exact this.imp fun h => by simpa using h
    · have hx : Ext w.heap w'.heap := Ext.of_below rfl h5
      rw [← hw]
      have hml : (ss.mergeSort fun x y => decide (x ≤ y)).length = ss.length := List.length_mergeSort _
      rcases h3.2 with ⟨rfl, hz⟩ | ⟨g, cap, cur, rfl, hg, hgb, hnc, hcm, hcs, hct⟩
      · have hs0 : ss = [] := List.length_eq_zero_iff.1 hz
        subst hs0
        rw [List.mergeSort_nil]
        exact Own.nil hx _ _
      · refine ⟨⟨_, _, _, rfl, hnc, hcm, by simp, .inr ⟨g, 0, cur, (0, 0), rfl, hgb, by simp; omega, fzOk_zero _, ?_⟩⟩, hx, fun b hb => ?_⟩
        · rw [List.drop_zero]; exact hct
        · obtain ⟨o, n, c, e⟩ := hb
          injection e with e; injection e with e; injection e with e; subst e; exact hg
end Go.Proofs.Ytpebbkhainpfaaa
