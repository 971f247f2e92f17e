/- maps.Keys and slices.Sorted over a map of frames: its keys, sorted. Conditions: the keys are ints of 64 bits. -/
import Derived.Test.YtpebbkhainpfaaaSrtA
import Derived.Test.YtpebbkhainpfaaaHlMapC
import Derived.Test.YtpebbkhainpfaaaTy
namespace Go.Proofs.Ytpebbkhainpfaaa
open Go Go.HL Go.RowKit Go.Maps Go.Sort Go.Shelf Go.MapKept

@[reducible] def ptr (b : Nat) : Value := .pointer (some ⟨b, 0, none⟩)
theorem HC.of_calls {P : Program} {f : FuncId} {args : Array Value} {h : Heap} {R : Value → Heap → Prop} (hc : Callable P f) (hr : ∀ w : World, w.heap = h → Calls P f args w fun e w' => ∃ v, e = .returned v ∧ RowKit.Below h.size w w' ∧ R v w'.heap) : HC P f args h R :=
  ⟨hc, fun _ w at' => (hr w at'.heap).mono fun _ w' ⟨v, e, b, r⟩ => ⟨v, w'.heap, e, ⟨rfl, b.os.trans at'.os, b.tape.trans at'.tape, b.output.trans at'.output⟩, r⟩⟩
theorem Ext.of_below {h : Heap} {w w' : World} (hw : w.heap = h) (b : RowKit.Below h.size w w') : Ext h w'.heap := ⟨hw ▸ b.size, fun k hk _ => by rw [b.block k hk, hw]⟩
theorem sorts_in (m : Nat) : AnyZI.SortsIn Try.prog Try.sortedA_ren Fence.wide m :=
  ⟨fun blk off cap ss W hH hblk hsz => callsIn_wide.2 (AnyM.slices_Sort_int Try.sortA blk off cap ss W hH hblk hsz),
   fun p cap W => callsIn_wide.2 (AnyM.slices_Sort_int_none Try.sortA p cap W)⟩
/-- An element reads as nothing. -/
def noElem (_ : Value) : Option (DataW Unit × List MemPlace) := some (.nil, [])
theorem int_wf {k : Int} (h : -9223372036854775808 ≤ k ∧ k ≤ 9223372036854775807) : (Lit.int .i64 k).wf = true := by
  simpa [Lit.wf, IntKind.min, IntKind.max, IntKind.signed, IntKind.bits] using h

theorem insert_perm {H : Type} (x : Lit × DataW H) : ∀ l : List (Lit × DataW H), (DataW.insert x l).Perm (x :: l)
  | [] => by simp [DataW.insert]
  | y :: l => by
    unfold DataW.insert
    split
    · exact .refl _
    · exact ((insert_perm x l).cons y).trans (.swap x y l)
theorem sorted_perm {H : Type} : ∀ l : List (Lit × DataW H), (l.foldr DataW.insert []).Perm l
  | [] => .refl _
  | x :: l => (insert_perm x _).trans ((sorted_perm l).cons x)
/-- The map as the kit's readings have it: its keys. -/
theorem owns_keys {h : Heap} {mb : Nat} {ks : List Int} {f : Int → Value} (hm : MapT (Value.int .i64) h mb (ks.map fun k => (k, f k))) (hr : ∀ k ∈ ks, -9223372036854775808 ≤ k ∧ k ≤ 9223372036854775807) (hl : ks.length ≤ 1000000000000) {w : World} (hw : w.heap[mb]? = h[mb]?) :
    ∃ (nn : Nat) (D : DataW Unit), w.ownsMap Try.prog 3 noElem mb nn D ∧ Maps.size D = ks.length ∧ (intKeys D).Perm ks := by
  obtain ⟨es, cl, hb, he, hs⟩ := hm
  have hlen : es.size = ks.length := by
    have := congrArg List.length he
    simpa using this
  have hkeys : es.toList.map (fun e => (e.key, e.val)) = ks.map fun k => (Value.int .i64 k, f k) := by rw [he, List.map_map]; rfl
  have hrd : ∀ x ∈ es.toList, ∃ k ∈ ks, x.key = .int .i64 k ∧ WideElems.rd Try.prog 3 noElem x = some (.int .i64 k, .nil) := fun x hx => by
    have h1 : (x.key, x.val) ∈ es.toList.map fun e => (e.key, e.val) := List.mem_map.2 ⟨x, hx, rfl⟩
    rw [hkeys] at h1
    obtain ⟨k, hk, e⟩ := List.mem_map.1 h1
    injection e with e1 e2
    refine ⟨k, hk, e1.symm, ?_⟩
    unfold WideElems.rd
    rw [← e1, keyOf_int_mk Try.underlying3 (int_wf (hr k hk))]
    rfl
  have hrg : es.toList.map (WideElems.rg Try.prog 3 noElem) = ks.map fun k => (Lit.int .i64 k, DataW.nil) := by
    have h1 : es.toList.map (·.key) = ks.map (Value.int .i64) := by
      have := congrArg (List.map Prod.fst) hkeys
      rw [List.map_map, List.map_map] at this
      exact this
    have h2 : ∀ (l : List MapEntry) (s : List Int), l.map (·.key) = s.map (Value.int .i64) → (∀ x ∈ l, ∃ k ∈ ks, x.key = .int .i64 k ∧ WideElems.rd Try.prog 3 noElem x = some (.int .i64 k, .nil)) → l.map (WideElems.rg Try.prog 3 noElem) = s.map fun k => (Lit.int .i64 k, DataW.nil) := by
      intro l
      induction l with
      | nil => intro s hs _; cases s with
        | nil => rfl
        | cons a s => simp at hs
      | cons x l ih =>
        intro s hs hx
        cases s with
        | nil => simp at hs
        | cons a s =>
          simp only [List.map_cons, List.cons.injEq] at hs ⊢
          obtain ⟨k, _, h3, h4⟩ := hx x List.mem_cons_self
          have : a = k := by
            have h5 := hs.1
            rw [h3] at h5
            exact (Value.int.inj h5).2.symm
          subst this
          refine ⟨?_, ih s hs.2 fun y hy => hx y (List.mem_cons_of_mem _ hy)⟩
          unfold WideElems.rg
          rw [h4]; rfl
    exact h2 _ _ h1 hrd
  refine ⟨es.size, _, ⟨es, cl, hw.trans hb, ⟨by show _ ≤ 9223372036854775807; omega, hs, fun x hx => let ⟨k, _, _, h⟩ := hrd x hx; ⟨_, h⟩⟩, Nat.le_refl _, rfl⟩, ?_, ?_⟩
  · show (List.foldr DataW.insert [] _).length = _
    rw [(sorted_perm _).length_eq, List.length_map]; simpa using hlen
  · show ((List.foldr DataW.insert [] _).map fun p => _root_.Go.intOf p.1).Perm ks
    refine ((sorted_perm _).map _).trans ?_
    rw [hrg, List.map_map]
    exact .of_eq (by rw [show ((fun p : Lit × DataW Unit => _root_.Go.intOf p.1) ∘ fun k => (Lit.int .i64 k, DataW.nil)) = id from rfl, List.map_id])

/-- The keys of the map as a sequence. -/
theorem keys_any {h : Heap} {mb : Nat} : HC Try.prog 53 #[.map (some mb)] h (fun v h' => v = .func (.func 93) #[] #[ptr h.size] ∧ h' = h.push (.cells #[.map (some mb)] 100 (0, 0))) :=
  HC.of_calls ⟨_, Try.func53, by decide, rfl⟩ fun w hw => (callsIn_wide.1 (AnyZI.keys_in Try.keysA Fence.wide 5 trivial rfl (some mb) w)).mono fun e w' ⟨h1, h2⟩ => by
    subst h2 hw
    exact ⟨_, h1, (RowKit.Below.refl _ w).alloc (Nat.le_refl _) _, rfl, rfl⟩

theorem sorted_any {h : Heap} {mb : Nat} {ks : List Int} {f : Int → Value} (hm : MapT (Value.int .i64) h mb (ks.map fun k => (k, f k))) (hr : ∀ k ∈ ks, -9223372036854775808 ≤ k ∧ k ≤ 9223372036854775807) (hl : ks.length ≤ 1000000000000) :
    HC Try.prog 52 #[.func (.func 93) #[] #[ptr h.size]] (h.push (.cells #[.map (some mb)] 100 (0, 0)))
      (fun v h' => ∃ S : List Int, S.Perm ks ∧ S.Pairwise (· ≤ ·) ∧ Own (h.push (.cells #[.map (some mb)] 100 (0, 0))) h' 1 3 v (S.map iv)) :=
  HC.of_calls ⟨_, Try.func52, by decide, rfl⟩ fun w hw => by
    have hsz : w.heap.size = h.size + 1 := by rw [hw]; simp
    obtain ⟨nn, D, hown, hD, hK⟩ := owns_keys hm hr hl (w := w) (by rw [hw, Array.getElem?_push, if_neg (by have := hm.lt; omega)])
    have hseq : SeqGives Fence.wide 2 Try.prog 93 #[.pointer (some ⟨h.size, 0, none⟩)] encZ (fun ss => ss.Perm (intKeys D)) (Maps.size D) w :=
      AnyZI.keys_gives (ρ := Try.keysA_ren) { Try.keysA with } Fence.wide _ trivial rfl (by omega) h.size mb nn D w (by omega) (by rw [cell?_eq, hw]; exact cell_of (push_same _ _) 0) hown
    have cS := AnyZI.sorted_in Try.sortedA Fence.wide 5 trivial trivial trivial trivial rfl (by omega) (sorts_in _) (enters_of Try.func92 (by kernel_rfl) rfl) 93 #[.pointer (some ⟨h.size, 0, none⟩)] trivial (enters_of Try.func93 (by kernel_rfl) rfl) _ (Maps.size D) (by show _ ≤ 9223372036854775807; omega) (by omega) w hseq
    refine (callsIn_wide.1 cS).mono fun e w' ⟨v, ss, h1, h2, h3, h4, h5⟩ => ⟨v, h1, by rw [← hw]; exact h5, ss.mergeSort (fun x y => decide (x ≤ y)), ?_, ?_, ?_⟩
    · exact (List.mergeSort_perm _ _).trans (h2.trans hK)
    · have := List.pairwise_mergeSort (le := fun x y : Int => decide (x ≤ y)) (fun a b c h1 h2 => by simp at h1 h2 ⊢; omega) (fun a b => by simp; omega) ss
      exact this.imp fun h => by simpa using h
    · have hx : Ext w.heap w'.heap := Ext.of_below rfl h5
      rw [← hw]
      have hml : (ss.mergeSort fun x y => decide (x ≤ y)).length = ss.length := List.length_mergeSort _
      rcases h3.2 with ⟨rfl, hz⟩ | ⟨g, cap, cur, rfl, hg, hgb, hnc, hcm, hcs, hct⟩
      · have hs0 : ss = [] := List.length_eq_zero_iff.1 hz
        subst hs0
        rw [List.mergeSort_nil]
        exact Own.nil hx _ _
      · refine ⟨⟨_, _, _, rfl, hnc, hcm, by simp, .inr ⟨g, 0, cur, (0, 0), rfl, hgb, by simp; omega, fzOk_zero _, ?_⟩⟩, hx, fun b hb => ?_⟩
        · rw [List.drop_zero]; exact hct
        · obtain ⟨o, n, c, e⟩ := hb
          injection e with e; injection e with e; injection e with e; subst e; exact hg
end Go.Proofs.Ytpebbkhainpfaaa
