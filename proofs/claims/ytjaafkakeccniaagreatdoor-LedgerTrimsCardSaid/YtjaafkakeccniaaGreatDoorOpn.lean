/- What an argument reads as, told as data of one's own: integers, strings, structs, slices of what reads. Nothing of the program stands here. -/
import Derived.Test.YtjaafkakeccniaaGreatDoorMem
import Derived.ChangeArms
import Derived.Carry
namespace Go.Sl
open Go

/-- Whatever reads at type t, in world W, is 'enc a' of some a, that is good. -/
def Opn (P : Program) (W : World) (t : TypeId) {α : Type} (enc : α → List Value) (good : α → Prop) : Prop :=
  ∀ (H : Type) (e : TypeId × Value → H) (fuel : Nat) (cs : List Value) (x : DataW H × List MemPlace), DataW.trod e P W 0 (fun _ => true) true fuel t cs = some x → ∃ a, cs = enc a ∧ good a
/-- The same of fields, from cell k on, n cells. -/
def OpnF (P : Program) (W : World) (fs : List Field) (k n : Nat) {α : Type} (enc : α → List Value) (good : α → Prop) : Prop :=
  ∀ (H : Type) (e : TypeId × Value → H) (fuel : Nat) (cs : List Value) , (∀ f ∈ fs, ∃ x, DataW.trod e P W 0 (fun _ => true) true fuel f.type ((cs.drop f.offset).take (P.cellsOf f.type)) = some x) → cs.length = k + n → ∃ a, cs.drop k = enc a ∧ good a
section
variable {P : Program} {W : World} {t : TypeId}
theorem Opn.int {k : IntKind} (ht : P.underlying t = some (.int k)) : Opn P W t (fun i : Int => [.int k i]) (fun i => (Lit.int k i).wf = true) := fun H e fuel cs x h => by
  obtain ⟨n, h1, -, h2⟩ := DataW.trod_int ht h; exact ⟨n, h1, h2⟩
theorem Opn.bool (ht : P.underlying t = some .bool) : Opn P W t (fun b : Bool => [.bool b]) (fun _ => True) := fun H e fuel cs x h => by
  obtain ⟨b, h1, -⟩ := DataW.trod_bool ht h; exact ⟨b, h1, trivial⟩
theorem Opn.str (ht : P.underlying t = some .string) : Opn P W t (fun s : ByteArray => [.string s]) (fun s => s.size ≤ maxLen) := fun H e fuel cs x h => by
  obtain ⟨s, h1, -, h2⟩ := DataW.trod_string ht h; exact ⟨s, h1, h2⟩
theorem Opn.map {α β : Type} {enc : α → List Value} {good : α → Prop} {enc' : β → List Value} {good' : β → Prop} (f : α → β) (h : Opn P W t enc good) (he : ∀ a, enc a = enc' (f a)) (hg : ∀ a, good a → good' (f a)) : Opn P W t enc' good' := fun H e fuel cs x hx => by
  obtain ⟨a, h1, h2⟩ := h H e fuel cs x hx; exact ⟨f a, by rw [h1, he], hg a h2⟩
theorem OpnF.nil {k : Nat} : OpnF P W [] k 0 (fun _ : Unit => []) (fun _ => True) := fun H e fuel cs _ hl => ⟨(), List.drop_eq_nil_of_le (by omega), trivial⟩
theorem OpnF.cons {α β : Type} {enc : α → List Value} {good : α → Prop} {enc' : β → List Value} {good' : β → Prop} {f : Field} {fs : List Field} {k s n : Nat} (ho : f.offset = k) (hs : P.cellsOf f.type = s) (h : Opn P W f.type enc good) (r : OpnF P W fs (k + s) n enc' good') :
    OpnF P W (f :: fs) k (s + n) (fun p : α × β => enc p.1 ++ enc' p.2) (fun p => good p.1 ∧ good' p.2) := fun H e fuel cs hf hl => by
  obtain ⟨x, hx⟩ := hf f (by simp)
  obtain ⟨a, h1, h2⟩ := h H e fuel _ x hx
  obtain ⟨b, h3, h4⟩ := r H e fuel cs (fun g hg => hf g (by simp [hg])) (by omega)
  refine ⟨(a, b), ?_, h2, h4⟩
  show _ = enc a ++ enc' b
  rw [← h1, ← h3, ho, hs, ← List.drop_drop, List.take_append_drop]
theorem Opn.struct {α : Type} {enc : α → List Value} {good : α → Prop} {fs : Array Field} {n : Nat} (ht : P.underlying t = some (.struct fs)) (hc : P.cellsOf t = n) (h : OpnF P W fs.toList 0 n enc good) : Opn P W t enc good := fun H e fuel cs x hx => by
  obtain ⟨xs, m, rfl, -, hl, hls, hf⟩ := DataW.trod_struct ht hx
  obtain ⟨a, h1, h2⟩ := h H e m cs (fun f hm => by
    obtain ⟨i, hi⟩ := List.mem_iff_getElem?.1 hm
    have := hf i f (by simpa using hi)
    have hlt : i < xs.length := by rw [hls]; have := (List.getElem?_eq_some_iff.1 hi).1; simpa using this
    exact ⟨xs[i], by rw [this]; simp [hlt]⟩) (by rw [hl, hc]; omega)
  exact ⟨a, by simpa using h1, h2⟩
/-- A slice that was there. -/
structure SlV (α : Type) where
  a : Option Addr
  xs : List α
  c : Nat
abbrev slC {α : Type} (s : SlV α) : List Value := [.slice s.a s.xs.length s.c]
abbrev SlGood {α : Type} (W : World) (sz : Nat) (enc : α → List Value) (good : α → Prop) (s : SlV α) : Prop := slR (whole W) sz enc s.a s.xs ∧ s.xs.length ≤ maxLen ∧ s.xs.length ≤ s.c ∧ s.c ≤ maxLen ∧ ∀ x ∈ s.xs, good x
theorem list_of {α : Type} {Q : Nat → α → Prop} : ∀ (n : Nat), (∀ i, i < n → ∃ a, Q i a) → ∃ l : List α, l.length = n ∧ ∀ i a, l[i]? = some a → Q i a
  | 0, _ => ⟨[], rfl, by simp⟩
  | n + 1, h => by
    obtain ⟨l, h1, h2⟩ := list_of n fun i hi => h i (by omega)
    obtain ⟨a, ha⟩ := h n (by omega)
    refine ⟨l ++ [a], by simp [h1], fun i b hb => ?_⟩
    by_cases hi : i < n
    · rw [List.getElem?_append_left (by omega)] at hb; exact h2 i b hb
    · have hlt := (List.getElem?_eq_some_iff.1 hb).1
      have : i = n := by simp [h1] at hlt; omega
      subst this
      rw [List.getElem?_append_right (by omega), h1] at hb
      simp at hb; subst hb; exact ha
theorem Opn.slice {α : Type} {enc : α → List Value} {good : α → Prop} {el sz : Nat} (ht : P.underlying t = some (.slice el)) (hc : P.cellsOf el = sz) (h0 : 0 < sz) (h : Opn P W el enc good) :
    Opn P W t slC (SlGood W sz enc good) := fun H e fuel cs x hx => by
  rcases DataW.trod_slice ht hx with ⟨rfl, -⟩ | ⟨a, len, cap, elems, rest, n, -, rfl, -, -, hl, hm, hlen, hel, -, -⟩
  · exact ⟨⟨none, [], 0⟩, rfl, fun h => (h rfl).elim, Nat.zero_le _, Nat.zero_le _, Nat.zero_le _, fun _ h => by cases h⟩
  · have each : ∀ i, i < len → ∃ y : α, good y ∧ ∀ j v, (enc y)[j]? = some v → j < sz ∧ W.cell? ((a.add (i * sz)).add j) = some v := fun i hi => by
      have := hel i hi
      rw [hc] at this
      have hy : elems[i]? = some elems[i] := by simp [hlen, hi]
      rw [hy, Option.bind_eq_some_iff] at this
      obtain ⟨ds, hd, hr⟩ := this
      obtain ⟨-, hdl, hdc⟩ := World.cells?_some hd
      obtain ⟨y, rfl, hg⟩ := h H e n ds _ hr
      refine ⟨y, hg, fun j v hj => ?_⟩
      have hjl : j < sz := by rw [← hdl]; exact (List.getElem?_eq_some_iff.1 hj).1
      exact ⟨hjl, (hdc j hjl).trans hj⟩
    obtain ⟨xs, hxl, hxs⟩ := list_of len each
    refine ⟨⟨some a, xs, cap⟩, by simp [hxl], ?_, by show xs.length ≤ _; omega, by show xs.length ≤ cap; omega, hm, fun y hy => ?_⟩
    · intro hne
      have hpos : 0 < len := by rw [← hxl]; exact List.length_pos_iff.2 hne
      -- the first element has a cell
      have hcell : ∃ v, W.cell? (a.add 0) = some v := by
        have := hel 0 hpos
        rw [hc] at this
        have hy : elems[0]? = some elems[0] := by simp [hlen, hpos]
        rw [hy, Option.bind_eq_some_iff] at this
        obtain ⟨ds, hd, -⟩ := this
        obtain ⟨-, hdl, hdc⟩ := World.cells?_some hd
        have := hdc 0 h0
        rw [Nat.zero_mul] at this
        have hlt : 0 < ds.length := by omega
        refine ⟨ds[0], ?_⟩
        have e : (a.add 0).add 0 = a.add 0 := by simp [Addr.add]
        rw [e] at this
        rw [this]; simp [hlt]
      obtain ⟨v0, hv0⟩ := hcell
      have ha0 : a.add 0 = a := by simp [Addr.add]
      rw [ha0] at hv0
      have hsp := World.cell?_spot hv0
      obtain ⟨b, off, sp⟩ := a
      simp only at hsp; subst hsp
      have hb : ∃ cells E fr, W.heap[b]? = some (.cells cells E fr) := by
        unfold World.cell? at hv0
        simp only at hv0
        split at hv0
        · rename_i c E fr hh; exact ⟨c, E, fr, hh⟩
        · cases hv0
      obtain ⟨cells, E, fr, hh⟩ := hb
      refine ⟨b, off, cells, E, fr, rfl, hh, fun i y hi j v hj => ?_⟩
      obtain ⟨-, hq⟩ := hxs i y hi
      obtain ⟨-, hcj⟩ := hq j v hj
      have hadd : ((⟨b, off, none⟩ : Addr).add (i * sz)).add j = ⟨b, off + (i * sz + j), none⟩ := by
        unfold Addr.add; split <;> split <;> simp_all <;> omega
      rw [hadd] at hcj
      simpa [World.cell?, hh] using hcj
    · obtain ⟨i, hi⟩ := List.mem_iff_getElem?.1 hy
      exact (hxs i y hi).1
/-- Of an argument. -/
theorem Opn.val {α : Type} {enc : α → List Value} {good : α → Prop} (h : Opn P W t enc good) {H : Type} {e : TypeId × Value → H} {v : Value} {d : DataW H} {ps : List MemPlace} (hd : DataW.Trod e P W 0 (fun _ => true) true t v d ps) : ∃ a, v.cells.toList = enc a ∧ good a := by
  obtain ⟨fuel, hf⟩ := hd; exact h H e fuel _ _ hf
/-- A value of one cell is what its cell is, if the cell's type is no struct's. -/
theorem cells_one {v u : Value} (h : v.cells.toList = [u]) (ha : ∀ xs, v ≠ .agg xs) : v = u := by
  cases v <;> first | (exact (ha _ rfl).elim) | (simp only [Value.cells, List.cons.injEq, and_true] at h; exact h)
end
end Go.Sl
