/- The disk's files in plain terms, as the program has them. Conditions: those that each fact names. -/
import Derived.Test.YtpebbkhainpfaaaHlStar
namespace Go.Proofs.Ytpebbkhainpfaaa
open Go Go.HL
/-- A change: its kind (0 write, 1 truncate, 2 remove), its place or length, its bytes. -/
structure Chn where
  kind : Nat
  pos : Nat
  b : List UInt8
def longN (b : List UInt8) (n : Nat) : List UInt8 := b.take n ++ List.replicate (n - b.length) 0
theorem longN_len (b : List UInt8) (n : Nat) : (longN b n).length = n := by simp [longN]; omega
theorem longN_le {b : List UInt8} {n : Nat} (h : n ≤ b.length) : longN b n = b.take n := by simp [longN, Nat.sub_eq_zero_of_le h]
theorem longN_ge {b : List UInt8} {n : Nat} (h : b.length ≤ n) : longN b n = b ++ List.replicate (n - b.length) 0 := by simp [longN, List.take_of_length_le h]
def patchN (o : List UInt8) (p : Nat) (b : List UInt8) : List UInt8 := o.take p ++ b ++ o.drop (p + b.length)
theorem patchN_len {o : List UInt8} {p : Nat} {b : List UInt8} (h : p + b.length ≤ o.length) : (patchN o p b).length = o.length := by simp [patchN]; omega
def doneN (c : Chn) (b : List UInt8) (here : Bool) : List UInt8 × Bool :=
  if c.kind = 0 then (patchN (longN b (max b.length (c.pos + c.b.length))) c.pos c.b, true) else if c.kind = 1 ∧ here = true then (longN b c.pos, true) else ([], false)
def keptN (c : Chn) (k : Nat) : Chn × Bool :=
  if c.kind ≠ 0 then (c, decide (128 ≤ k)) else (if k ≠ 255 then ⟨c.kind, c.pos, c.b.take (c.b.length * k / 255)⟩ else c, decide (k ≠ 0))
structure Fl where
  now : List UInt8
  safe : List UInt8
  here : Bool
  was : Bool
  opn : List Chn
structure Dk where
  fs : List UInt8 → Option Fl
  dark : Bool
  left : Int
  chg : Int
def put1 (f : List UInt8 → Option Fl) (n : List UInt8) (v : Option Fl) : List UInt8 → Option Fl := fun m => if m = n then v else f m
theorem put1_at (f : List UInt8 → Option Fl) (n : List UInt8) (v : Option Fl) : put1 f n v n = v := by simp [put1]
theorem put1_ne {f : List UInt8 → Option Fl} {n m : List UInt8} {v : Option Fl} (h : m ≠ n) : put1 f n v m = f m := by simp [put1, h]
def noF : Fl := ⟨[], [], false, false, []⟩
/-- What is wrong with a call (0: nothing). -/
def wrongN (d : Dk) (n : List UInt8) (zs : List Int) : Nat := if n.length < 1 ∨ 32 < n.length ∨ (∃ z ∈ zs, z < 0) then 1 else if d.dark = true then 13 else 0
def powerN (d : Dk) : Dk × Nat := if d.left = 0 then (⟨d.fs, true, d.left, d.chg⟩, 13) else (⟨d.fs, d.dark, if 0 < d.left then d.left - 1 else d.left, d.chg + 1⟩, 0)
def chgF (f : Fl) (c : Chn) : Fl := ⟨(doneN c f.now f.here).1, f.safe, (doneN c f.now f.here).2, f.was, f.opn ++ [c]⟩
def doN (d : Dk) (n : List UInt8) (c : Chn) : Dk × Nat :=
  if d.left = 0 then powerN d else (⟨put1 d.fs n (some (chgF ((d.fs n).getD noF) c)), d.dark, if 0 < d.left then d.left - 1 else d.left, d.chg + 1⟩, 0)
def thereN (d : Dk) (n : List UInt8) : Bool := match d.fs n with | some f => f.here | none => false
def writeN (d : Dk) (n : List UInt8) (pos : Int) (b : List UInt8) : Dk × Nat :=
  if wrongN d n [pos] ≠ 0 then (d, wrongN d n [pos]) else if 16777216 < pos ∨ 16777216 - pos < b.length then (d, 5) else doN d n ⟨0, pos.toNat, b⟩
def truncN (d : Dk) (n : List UInt8) (z : Int) : Dk × Nat :=
  if wrongN d n [z] ≠ 0 then (d, wrongN d n [z]) else if thereN d n = false then (d, 4) else if 16777216 < z then (d, 5) else doN d n ⟨1, z.toNat, []⟩
def removeN (d : Dk) (n : List UInt8) : Dk × Nat :=
  if wrongN d n [] ≠ 0 then (d, wrongN d n []) else if thereN d n = false then (d, 4) else doN d n ⟨2, 0, []⟩
def settleF (f : Fl) : Option Fl := if f.here = true then some ⟨f.now, f.now, true, true, []⟩ else none
def syncN (d : Dk) (n : List UInt8) : Dk × Nat :=
  if wrongN d n [] ≠ 0 then (d, wrongN d n []) else match d.fs n with
    | none => (d, 4)
    | some f => if f.here = false ∧ f.opn = [] then (d, 4) else if d.left = 0 then powerN d else (⟨put1 d.fs n (settleF f), d.dark, if 0 < d.left then d.left - 1 else d.left, d.chg + 1⟩, 0)
def readN (d : Dk) (n : List UInt8) (pos z : Int) : List UInt8 × Nat :=
  if wrongN d n [pos, z] ≠ 0 then ([], wrongN d n [pos, z]) else match d.fs n with
    | none => ([], 4)
    | some f => if f.here = false then ([], 4) else ((f.now.drop pos.toNat).take z.toNat, 0)
def sizeN (d : Dk) (n : List UInt8) : Nat × Bool := if d.dark = true ∨ thereN d n = false then (0, false) else (((d.fs n).getD noF).now.length, true)
def cutN (d : Dk) (z : Int) : Dk := if d.dark = true then d else ⟨d.fs, d.dark, max z (-1), d.chg⟩
/-- What a crash makes of a file's bytes. -/
def crC : List UInt8 → Bool → List Chn → List UInt8 → List UInt8 × Bool
  | b, h, [], _ => (b, h)
  | b, h, c :: l, ks =>
    let p := keptN c (ks.headD 0).toNat
    if p.2 = true ∧ (c.kind = 0 ∨ h = true) then crC (doneN p.1 b h).1 (doneN p.1 b h).2 l ks.tail else crC b h l ks.tail
def crF (f : Fl) (ks : List UInt8) : Option Fl := settleF ⟨(crC f.safe f.was f.opn ks).1, f.safe, (crC f.safe f.was f.opn ks).2, f.was, f.opn⟩
def crashL : (List UInt8 → Option Fl) → List (List UInt8) → List UInt8 → List UInt8 → Option Fl
  | fs, [], _ => fs
  | fs, n :: ns, ks => match fs n with
    | none => crashL fs ns ks
    | some f => crashL (put1 fs n (crF f ks)) ns (ks.drop f.opn.length)
def crashN (d : Dk) (ns : List (List UInt8)) (ks : List UInt8) : Dk := ⟨crashL d.fs ns ks, false, -1, d.chg⟩
/-- The names of the files, rising. -/
structure Keys (fs : List UInt8 → Option Fl) (ns : List (List UInt8)) : Prop where
  up : ns.Pairwise (· < ·)
  iff : ∀ n, n ∈ ns ↔ (fs n).isSome = true
/-! ### What holds of every disk -/
structure ChOk (c : Chn) : Prop where
  kind : c.kind ≤ 2
  fit : c.pos + c.b.length ≤ 16777216
structure FlOk (f : Fl) : Prop where
  now : f.now.length ≤ 16777216
  safe : f.safe.length ≤ 16777216
  opn : ∀ c ∈ f.opn, ChOk c
structure DkOk (d : Dk) : Prop where
  fs : ∀ n f, d.fs n = some f → FlOk f ∧ (f.opn.length : Int) ≤ d.chg
  chg : 0 ≤ d.chg
  left : d.left ≤ 9223372036854775807
  cnt : ∃ ks : List (List UInt8), (ks.length : Int) ≤ d.chg ∧ ∀ n f, d.fs n = some f → n ∈ ks ∧ n.length ≤ 32
theorem doneN_len {c : Chn} {b : List UInt8} {here : Bool} (hc : ChOk c) (hb : b.length ≤ 16777216) : (doneN c b here).1.length ≤ 16777216 := by
  have h1 := hc.fit
  unfold doneN
  split
  · rw [patchN_len (by rw [longN_len]; omega), longN_len]; omega
  · split
    · rw [longN_len]; omega
    · simp
theorem DkOk.power {d : Dk} (k : DkOk d) : DkOk (powerN d).1 := by
  unfold powerN
  split
  · exact ⟨k.fs, k.chg, k.left, k.cnt⟩
  · refine ⟨fun n f h => ⟨(k.fs n f h).1, ?_⟩, ?_, ?_, let ⟨ks, h1, h2⟩ := k.cnt; ⟨ks, (by simp only; omega), h2⟩⟩
    · have := (k.fs n f h).2; simp only; omega
    · have := k.chg; simp only; omega
    · have := k.left; simp only; split <;> omega
theorem wrongN_ok {d : Dk} {n : List UInt8} {zs : List Int} (h : wrongN d n zs = 0) : 1 ≤ n.length ∧ n.length ≤ 32 ∧ (∀ z ∈ zs, 0 ≤ z) ∧ d.dark = false := by
  unfold wrongN at h
  split at h
  · cases h
  · rename_i h1
    split at h
    · cases h
    · rename_i h2
      refine ⟨by omega, by omega, fun z hz => ?_, by simpa using h2⟩
      by_cases h3 : z < 0
      · exact absurd (.inr (.inr ⟨z, hz, h3⟩)) h1
      · omega
theorem noF_ok : FlOk noF := ⟨by simp [noF], by simp [noF], by simp [noF]⟩
theorem DkOk.getD {d : Dk} (k : DkOk d) (n : List UInt8) : FlOk ((d.fs n).getD noF) ∧ ((((d.fs n).getD noF).opn.length : Nat) : Int) ≤ d.chg := by
  cases h : d.fs n with
  | none => exact ⟨noF_ok, by simpa [noF] using k.chg⟩
  | some f => exact k.fs n f h
theorem DkOk.do {d : Dk} (k : DkOk d) {n : List UInt8} {c : Chn} (hc : ChOk c) (hn : n.length ≤ 32) : DkOk (doN d n c).1 := by
  unfold doN
  split
  · exact k.power
  · have hg := k.getD n
    refine ⟨fun m f h => ?_, by have := k.chg; simp only; omega, by have := k.left; simp only; split <;> omega, let ⟨ks, h1, h2⟩ := k.cnt; ⟨n :: ks, (by simp only [List.length_cons]; omega), fun m f h => ?_⟩⟩
    rotate_left
    · simp only [put1] at h
      split at h
      · rename_i hm; subst hm; exact ⟨List.mem_cons_self, hn⟩
      · exact ⟨List.mem_cons_of_mem _ (h2 m f h).1, (h2 m f h).2⟩
    simp only [put1] at h
    split at h
    · injection h with h; subst h
      exact ⟨⟨doneN_len hc hg.1.now, hg.1.safe, fun x hx => (List.mem_append.1 hx).elim (hg.1.opn x) fun h => by rw [List.mem_singleton.1 h]; exact hc⟩, by have := hg.2; simp [chgF]; omega⟩
    · have := (k.fs m f h).2; exact ⟨(k.fs m f h).1, by simp only; omega⟩
theorem settleF_ok {f g : Fl} (k : FlOk f) (h : settleF f = some g) : FlOk g ∧ g.opn = [] := by
  unfold settleF at h
  split at h
  · injection h with h; subst h; exact ⟨⟨k.now, k.now, by simp⟩, rfl⟩
  · cases h
theorem DkOk.sync {d : Dk} (k : DkOk d) {n : List UInt8} : DkOk (syncN d n).1 := by
  unfold syncN
  split
  · exact k
  · split
    · exact k
    · rename_i f hf
      split
      · exact k
      · split
        · exact k.power
        · refine ⟨fun m g h => ?_, by have := k.chg; simp only; omega, by have := k.left; simp only; split <;> omega, let ⟨ks, h1, h2⟩ := k.cnt; ⟨ks, (by simp only; omega), fun m g h => ?_⟩⟩
          rotate_left
          · simp only [put1] at h
            split at h
            · rename_i hm; subst hm; exact h2 _ _ hf
            · exact h2 m g h
          simp only [put1] at h
          split at h
          · have h1 := settleF_ok (k.fs n f hf).1 h
            exact ⟨h1.1, by rw [h1.2]; have := k.chg; simp; omega⟩
          · have := (k.fs m g h).2; exact ⟨(k.fs m g h).1, by simp only; omega⟩
theorem DkOk.write {d : Dk} (k : DkOk d) {n : List UInt8} {pos : Int} {b : List UInt8} : DkOk (writeN d n pos b).1 := by
  unfold writeN
  split
  · exact k
  · split
    · exact k
    · rename_i h0 h1
      have h2 := (wrongN_ok (d := d) (n := n) (zs := [pos]) (by simpa using h0)).2.2.1 pos (by simp)
      refine k.do ⟨by simp, ?_⟩ (wrongN_ok (d := d) (n := n) (zs := [pos]) (by simpa using h0)).2.1
      simp only; omega
theorem DkOk.trunc {d : Dk} (k : DkOk d) {n : List UInt8} {z : Int} : DkOk (truncN d n z).1 := by
  unfold truncN
  split
  · exact k
  · rename_i h0
    have hn := (wrongN_ok (d := d) (n := n) (zs := [z]) (by simpa using h0)).2.1
    repeat' split
    · exact k
    · exact k
    · exact k.do ⟨by simp, by simp; omega⟩ hn
theorem DkOk.remove {d : Dk} (k : DkOk d) {n : List UInt8} : DkOk (removeN d n).1 := by
  unfold removeN
  split
  · exact k
  · rename_i h0
    have hn := (wrongN_ok (d := d) (n := n) (zs := []) (by simpa using h0)).2.1
    split
    · exact k
    · exact k.do ⟨by simp, by simp⟩ hn
theorem DkOk.cut {d : Dk} (k : DkOk d) {z : Int} (hz : z ≤ 9223372036854775807) : DkOk (cutN d z) := by
  unfold cutN
  split
  · exact k
  · exact ⟨k.fs, k.chg, by simp only; omega, k.cnt⟩
theorem keptN_ok {c : Chn} {k : Nat} (h : ChOk c) : ChOk (keptN c k).1 := by
  have h1 := h.fit
  have h2 := h.kind
  unfold keptN
  split
  · exact h
  · split
    · exact ⟨h2, by simp; omega⟩
    · exact h
theorem crC_len : ∀ {l : List Chn} {b : List UInt8} {here : Bool} {ks : List UInt8}, (∀ c ∈ l, ChOk c) → b.length ≤ 16777216 → (crC b here l ks).1.length ≤ 16777216
  | [], _, _, _, _, hb => hb
  | c :: l, b, here, ks, hc, hb => by
    unfold crC
    simp only
    split
    · exact crC_len (fun x hx => hc x (List.mem_cons_of_mem _ hx)) (doneN_len (keptN_ok (hc c List.mem_cons_self)) hb)
    · exact crC_len (fun x hx => hc x (List.mem_cons_of_mem _ hx)) hb
theorem crF_ok {f g : Fl} {ks : List UInt8} (k : FlOk f) (h : crF f ks = some g) : FlOk g ∧ g.opn = [] := settleF_ok (f := ⟨(crC f.safe f.was f.opn ks).1, f.safe, (crC f.safe f.was f.opn ks).2, f.was, f.opn⟩) ⟨crC_len k.opn k.safe, k.safe, k.opn⟩ h
theorem crashL_ok {P : Fl → Prop} (hP : ∀ f g ks, P f → crF f ks = some g → P g) : ∀ {ns : List (List UInt8)} {fs : List UInt8 → Option Fl} {ks : List UInt8}, (∀ n f, fs n = some f → P f) → ∀ n f, crashL fs ns ks n = some f → P f
  | [], _, _, h => h
  | m :: ns, fs, ks, h => by
    unfold crashL
    cases hm : fs m with
    | none => exact crashL_ok hP h
    | some f =>
      refine crashL_ok hP fun n g hg => ?_
      simp only [put1] at hg
      split at hg
      · exact hP f g ks (h m f hm) hg
      · exact h n g hg
theorem crashL_some : ∀ {ns : List (List UInt8)} {fs : List UInt8 → Option Fl} {ks : List UInt8} {n : List UInt8} {f : Fl}, crashL fs ns ks n = some f → ∃ g, fs n = some g
  | [], _, _, _, f, h => ⟨f, h⟩
  | m :: ns, fs, ks, n, f, h => by
    unfold crashL at h
    cases hm : fs m with
    | none => rw [hm] at h; exact crashL_some h
    | some g =>
      rw [hm] at h
      obtain ⟨g', hg'⟩ := crashL_some h
      simp only [put1] at hg'
      split at hg'
      · rename_i e; subst e; exact ⟨g, hm⟩
      · exact ⟨g', hg'⟩
theorem DkOk.crash {d : Dk} (k : DkOk d) {ns : List (List UInt8)} {ks : List UInt8} : DkOk (crashN d ns ks) := by
  have h1 := k.chg
  refine ⟨fun n f h => ?_, k.chg, by simp [crashN], let ⟨ks, h1, h2⟩ := k.cnt; ⟨ks, h1, fun n f h => let ⟨g, hg⟩ := crashL_some h; h2 n g hg⟩⟩
  exact crashL_ok (P := fun f => FlOk f ∧ (f.opn.length : Int) ≤ d.chg) (fun f g ks h hg => by
    have h2 := crF_ok h.1 hg
    exact ⟨h2.1, by rw [h2.2]; simpa using h1⟩) k.fs n f h
def newN : Dk := ⟨fun _ => none, false, -1, 0⟩
theorem newN_ok : DkOk newN := ⟨fun _ _ h => (by cases h), by simp [newN], by simp [newN], ⟨[], by simp [newN], fun _ _ h => (by cases h)⟩⟩
end Go.Proofs.Ytpebbkhainpfaaa
