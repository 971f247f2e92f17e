/- Bytes and strings: a slice of bytes that becomes a string, and one that is marked as a constant's. Conditions: those that each rule names. -/
import Derived.Test.YtpebbkhainpfaaaHlMore
import Derived.Laws.BytesString
import Derived.Laws.Strings
namespace Go.HL
open Go
theorem run_markStringish {P : Program} {h : Heap} {e : TypeId} {b o n c : Nat} {xs : List Value} (r : Cap h 1 e (.slice (some ⟨b, o, none⟩) n c) xs) {E : Env} {w : World} (at' : At E h w) :
    ∃ h' w', Cap h' 1 e (.slice (some ⟨b, o, none⟩) n c) xs ∧ Chg (fun x => x = b) h h' ∧ At E h' w' ∧ (markStringish ⟨b, o, none⟩).run P w = .ok () w' := by
  obtain ⟨a', n', c', hv, hn, hcm, hxl, hr⟩ := r
  injection hv with g1 g2 g3; subst g1 g2 g3
  rcases hr with ⟨hbad, _⟩ | ⟨b', o', cs, fz, hab, hb, hs, hf, hx⟩
  · cases hbad
  injection hab with hab; injection hab with g1 g2; subst g1 g2
  have hwb : w.heap[b]? = some (.cells cs e fz) := by rw [at'.heap]; exact hb
  obtain ⟨lo, hi⟩ := fz
  refine ⟨(w.freeze ⟨b, cs.size, none⟩ 1).heap, w.freeze ⟨b, cs.size, none⟩ 1, ⟨_, _, _, rfl, hn, hcm, hxl, .inr ⟨b, o, cs, if lo == hi then (cs.size, cs.size + 1) else (min lo cs.size, max hi (cs.size + 1)), rfl, ?_, hs, ?_, hx⟩⟩, ?_, ⟨rfl, at'.os, at'.tape, at'.output⟩, ?_⟩
  · simp [World.freeze, Array.getElem?_modify, hwb]
  · obtain ⟨h1, h2⟩ := hf
    simp only at h1 h2
    by_cases hlh : lo = hi
    · simp [hlh, fzOk]; intro j hj hj2; omega
    · have : cs.size ≤ lo := by
        rcases Nat.lt_or_ge lo cs.size with h3 | h3
        · exact absurd ⟨Nat.le_refl _, by omega⟩ (h2 lo h3)
        · exact h3
      simp only [beq_iff_eq, hlh, if_false, fzOk]
      refine ⟨by omega, fun j hj => by omega⟩
  · rw [← at'.heap]
    refine ⟨by simp [World.freeze], fun b' _ hf => ?_⟩
    have : ¬ b = b' := fun e => hf e.symm
    simp [World.freeze, Array.getElem?_modify, this]
  · simp [markStringish, shape, freeze, Sem.run, World.shape?, hwb]
section
variable {P : Program} {s : Slots} {h0 h : Heap} {D : Nat → Prop} {M R : List Itm} {d : Option Tmp} {ty : TypeId} {pos : String} {af : Array Edge} {g : Option (Nat × Bool)} {x : Operand} {t u e : TypeId}
/-- []byte of a constant string. -/
theorem OpA.cvL {b o n c : Nat} {xs : List Value} (ht : elB P t = some e) (he : inB P e = some .u8) (ok : Hp h0 D (capI 1 e (some ⟨b, o, none⟩, n, c) xs :: M) R h) (hx : ev s x = .slice (some ⟨b, o, none⟩) n c := by exact rfl) :
    OpA P ⟨d, .convert t t x, ty, pos, af, g⟩ s h (fun v h' => v = .slice (some ⟨b, o, none⟩) n c ∧ Hp h0 D (capI 1 e (some ⟨b, o, none⟩, n, c) xs :: M) R h' ∧ Chg (fun j => j = b) h h') := fun E w at' => by
  obtain ⟨h', w', hcap, hchg, at2, hr⟩ := run_markStringish (P := P) ok.m0 at'
  refine ⟨_, h', w', ⟨rfl, ok.upd hchg (fun j e => by subst e; exact ⟨o, n, c, rfl⟩) _ hcap (fun _ x => .inl x), hchg⟩, at2, ?_⟩
  simp [execOp, hx, convert, run_und (elB_iff ht), run_und (inB_iff he), hr]
def BA (l : List UInt8) : ByteArray := ⟨l.toArray⟩
@[simp] theorem BA_toList (l : List UInt8) : (BA l).toList = l := by rw [ByteArray.toList_eq]; simp [BA]
theorem fold_push (l : List UInt8) : ∀ s : ByteArray, (l.map fun x => (x.toNat : Int)).foldl (fun r n => r.push (UInt8.ofNat n.toNat)) s = ⟨s.data ++ l.toArray⟩ := by
  induction l with
  | nil => intro s; simp
  | cons a l ih => intro s; simp only [List.map_cons, List.foldl_cons, ih]; simp [ByteArray.push]
/-- string of bytes. -/
theorem OpV.bts {v : Value} {l : List UInt8} (ht : elB P t = some e) (he : inB P e = some .u8) (hu : stB P u = true) (r : Bytes h v l) (hx : ev s x = v := by exact rfl) :
    OpV P ⟨d, .convert t u x, ty, pos, af, g⟩ s h (.string (BA l)) := fun w hw => by
  obtain ⟨a, n, c, rfl, h1, h2, hr⟩ := id r
  have hc : (convert t u (.slice a n c)).run P w = (Conv.bytesToString (.slice a n c)).run P w := run_convert_bytes_string w t u e a n c (elB_iff ht) (inB_iff he) (stB_iff hu)
  have hlen : l.length = n := by have := hr.1; simpa using this
  have hb : (Conv.bytesToString (.slice a n c)).run P w = .ok (.string (BA l)) w := by
    cases a with
    | none =>
      have : n = 0 := by
        rcases Nat.eq_zero_or_pos n with e | e
        · exact e
        · obtain ⟨b, o, e2, _⟩ := hr.2 e; cases e2
      have : l = [] := List.eq_nil_of_length_eq_zero (by omega)
      subst this
      simp [Conv.bytesToString, Sem.run_pure]; rfl
    | some ad =>
      have hl : (loadCells ad n).run P w = .ok (((l.map fun x => (x.toNat : Int)).map (Value.int .u8)).toArray) w := by
        rcases Nat.eq_zero_or_pos n with e | e
        · have : l = [] := List.eq_nil_of_length_eq_zero (by omega)
          subst this; subst e
          simp [loadCells, loadCellsFrom]
        · obtain ⟨b, o, e2, hcl⟩ := hr.2 e
          injection e2 with e2; subst e2
          have := run_loadCells_list (P := P) (w := w) ⟨b, o, none⟩ ((l.map fun x => (x.toNat : Int)).map (Value.int .u8)) (fun j v hj => by
            rw [Addr.add_lit, cell?_eq, hw]
            exact hcl j v (by rw [List.map_map] at hj; exact hj))
          simpa [hlen] using this
      rw [run_bytesToString w ad n c _ hl, fold_push]
      simp [BA]
  have : (convert t u (ev s x)).run P w = .ok (.string (BA l)) w := by rw [hx, hc, hb]
  simp [execOp, this]
end
end Go.HL
