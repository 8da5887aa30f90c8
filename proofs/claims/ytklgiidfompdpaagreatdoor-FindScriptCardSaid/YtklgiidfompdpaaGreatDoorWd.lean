/- What the closing leans on: part 4. -/
import Derived.Test.YtklgiidfompdpaaGreatDoorWb
import Derived.Test.YtklgiidfompdpaaGreatDoorWc
import Derived.Test.YtklgiidfompdpaaGreatDoorWa
import Derived.ChangeArms
import Derived.Carry
namespace Go.Gv
open Go
structure Key where
 o : Int
 q : Int
 deriving DecidableEq
structure Rec where
 o : Int
 q : Int
 w : Int
 c : Int
 t : ByteArray
 deriving DecidableEq
def Rec.key (r : Rec) : Key := ⟨r.o, r.q⟩
def Rec.zero : Rec := ⟨0, 0, 0, 0, ⟨#[]⟩⟩
abbrev int (i : Int) : Value := .int .i64 i
abbrev intC (i : Int) : List Value := [.int .i64 i]
abbrev keyC (k : Key) : List Value := [.int .i64 k.o, .int .i64 k.q]
abbrev keyV (k : Key) : Value := .agg (keyC k).toArray
abbrev recC (r : Rec) : List Value := [.int .i64 r.o, .int .i64 r.q, .int .i64 r.w, .int .i64 r.c, .string r.t]
abbrev recV (r : Rec) : Value := .agg (recC r).toArray
def before (a b : Key) : Bool := if a.o = b.o then decide (a.q < b.q) else decide (a.o < b.o)
end Go.Gv
namespace Go.Gv
open Go
theorem before_iff {a b : Key} : before a b = true ↔ a.o < b.o ∨ (a.o = b.o ∧ a.q < b.q) := by
 unfold before; split <;> simp <;> omega
theorem before_not {a b : Key} : before a b = false ↔ b.o < a.o ∨ (a.o = b.o ∧ b.q ≤ a.q) := by
 unfold before; split <;> simp <;> omega
theorem before_trans {a b c : Key} (h : before a b = true) (k : before b c = true) : before a c = true := by
 rw [before_iff] at *; omega
theorem before_irr {a : Key} : before a a = false := by rw [before_not]; omega
theorem before_total {a b : Key} (h : a ≠ b) : before a b = true ∨ before b a = true := by
 rw [before_iff, before_iff]
 by_cases h1 : a.o = b.o
 · by_cases h2 : a.q = b.q
   · exact (h (by cases a; cases b; simp_all)).elim
   · omega
 · omega
def insK (k : Key) : List Key → List Key
 | [] => [k]
 | x :: l => if before x k then x :: insK k l else k :: x :: l
def sortK (l : List Key) : List Key := l.foldl (fun acc k => insK k acc) []
theorem insK_perm (k : Key) : ∀ l : List Key, List.Perm (insK k l) (k :: l)
 | [] => List.Perm.refl _
 | x :: l => by
   unfold insK; split
   · exact ((insK_perm k l).cons x).trans (List.Perm.swap ..)
   · exact List.Perm.refl _
theorem foldK_perm : ∀ (l acc : List Key), List.Perm (l.foldl (fun acc k => insK k acc) acc) (l ++ acc)
 | [], acc => List.Perm.refl _
 | k :: l, acc => by
   refine (foldK_perm l (insK k acc)).trans (((insK_perm k acc).append_left l).trans ?_)
   exact List.perm_middle
theorem sortK_perm (l : List Key) : List.Perm (sortK l) l := by have := foldK_perm l []; rwa [List.append_nil] at this
theorem sortK_mem {x : Key} {l : List Key} : x ∈ sortK l ↔ x ∈ l := (sortK_perm l).mem_iff
theorem sortK_length {l : List Key} : (sortK l).length = l.length := (sortK_perm l).length_eq
def Asc (l : List Key) : Prop := l.Pairwise fun a b => before a b = true
theorem insK_asc {k : Key} : ∀ {l : List Key}, Asc l → k ∉ l → Asc (insK k l)
 | [], _, _ => by simp [insK, Asc]
 | x :: l, h, hn => by
   have h' := List.pairwise_cons.1 h
   simp only [List.mem_cons, not_or] at hn
   unfold insK; split
   · rename_i hb
     refine List.pairwise_cons.2 ⟨fun y hy => ?_, insK_asc h'.2 hn.2⟩
     rcases List.mem_cons.1 ((insK_perm k l).mem_iff.1 hy) with rfl | hy
     · exact hb
     · exact h'.1 y hy
   · rename_i hb
     have hkx : before k x = true := (before_total hn.1).resolve_right hb
     refine List.pairwise_cons.2 ⟨fun y hy => ?_, h⟩
     rcases List.mem_cons.1 hy with rfl | hy
     · exact hkx
     · exact before_trans hkx (h'.1 y hy)
theorem foldK_asc : ∀ (l acc : List Key), Asc acc → (l ++ acc).Nodup → Asc (l.foldl (fun acc k => insK k acc) acc)
 | [], acc, h, _ => h
 | k :: l, acc, h, hn => by
   have hn1 : k ∉ l ++ acc := (List.nodup_cons.1 hn).1
   have hn2 : (l ++ acc).Nodup := (List.nodup_cons.1 hn).2
   refine foldK_asc l _ (insK_asc h fun hk => hn1 (List.mem_append_right _ hk)) ?_
   exact (((insK_perm k acc).append_left l).trans List.perm_middle).nodup_iff.2 hn
theorem sortK_asc {l : List Key} (h : l.Nodup) : Asc (sortK l) := foldK_asc l [] List.Pairwise.nil (by simpa using h)
theorem asc_uniq : ∀ {l m : List Key}, Asc l → Asc m → List.Perm l m → l = m
 | [], m, _, _, p => (List.nil_perm.1 p).symm ▸ rfl
 | a :: l, [], _, _, p => by have := p.length_eq; simp at this
 | a :: l, b :: m, h, k, p => by
   have h' := List.pairwise_cons.1 h
   have k' := List.pairwise_cons.1 k
   have hab : a = b := by
     apply Classical.byContradiction
     intro hne
     have h1 : a ∈ m := by
       have := p.mem_iff.1 (List.mem_cons_self (a := a) (l := l))
       rcases List.mem_cons.1 this with e | e
       · exact (hne e).elim
       · exact e
     have h2 : b ∈ l := by
       have := p.mem_iff.2 (List.mem_cons_self (a := b) (l := m))
       rcases List.mem_cons.1 this with e | e
       · exact (hne e.symm).elim
       · exact e
     have e1 := h'.1 b h2
     have e2 := k'.1 a h1
     have := before_trans e1 e2
     rw [before_irr] at this; cases this
   subst hab
   rw [asc_uniq h'.2 k'.2 p.cons_inv]
theorem sortK_of {l m : List Key} (hn : l.Nodup) (ha : Asc m) (p : List.Perm m l) : sortK l = m := asc_uniq (sortK_asc hn) ha ((sortK_perm l).trans p.symm)
theorem sort_merge (xs : List Key) (hn : xs.Nodup) : xs.mergeSort (fun x y => !before y x) = sortK xs := by
 refine (sortK_of hn ?_ (List.mergeSort_perm ..)).symm
 have hp := List.pairwise_mergeSort (le := fun x y : Key => !before y x) (fun a b c h1 h2 => by
   simp only [Bool.not_eq_true'] at *; rw [before_not] at *; omega) (fun a b => by
   cases h1 : before b a <;> cases h2 : before a b <;> simp
   rw [before_iff] at h1 h2; omega) xs
 have hn2 := ((List.mergeSort_perm xs (fun x y => !before y x)).nodup_iff).2 hn
 unfold Asc
 refine (hp.and hn2).imp fun {a b} h => ?_
 obtain ⟨h1, h2⟩ := h
 simp only [Bool.not_eq_true'] at h1
 rcases before_total h2 with h | h
 · exact h
 · rw [h] at h1; cases h1
def at_ (ks : List Key) (k : Key) : Nat := ks.findIdx fun x => !before x k
def intoL (ks : List Key) (k : Key) : List Key := if ks[at_ ks k]? = some k then ks else ks.take (at_ ks k) ++ [k] ++ ks.drop (at_ ks k)
theorem intoL_ins {k : Key} : ∀ {ks : List Key}, k ∉ ks → intoL ks k = insK k ks
 | [], _ => by simp [intoL, at_, insK]
 | x :: l, hn => by
   simp only [List.mem_cons, not_or] at hn
   have ih := intoL_ins (k := k) (ks := l) hn.2
   have hno : ∀ (ks : List Key) (i : Nat), k ∉ ks → ¬ ks[i]? = some k := fun ks i h e => h (List.mem_of_getElem? e)
   have hn' : k ∉ x :: l := by simp [hn.1, hn.2]
   unfold intoL at *
   rw [if_neg (hno _ _ hn')]
   rw [if_neg (hno _ _ hn.2)] at ih
   unfold insK
   by_cases hb : before x k = true
   · have : at_ (x :: l) k = at_ l k + 1 := by simp [at_, List.findIdx_cons, hb]
     rw [this, if_pos hb, ← ih]; simp
   · have hb' : before x k = false := by simpa using hb
     have : at_ (x :: l) k = 0 := by simp [at_, List.findIdx_cons, hb']
     rw [this, if_neg hb]; simp
end Go.Gv
namespace Go.Sl
open Go
section
variable {P : Program} {n : Nat} {w0 : World} {env : Env} {H : List HProp} {d : Option Tmp} {x y z : Operand} {T T' ty : TypeId} {pos : String} {af : Array Edge} {g : Option (Nat × Bool)}
def shrK (k : IntKind) (i j : Int) : Int := i.fdiv (2 ^ (min j.toNat k.bits))
theorem pu_shr {k k' : IntKind} {i j : Int} (h : ev env x = some (.int k i)) (h' : ev env y = some (.int k' j)) (hj : 0 ≤ j) : Pu P ⟨d, .binOp .shr T x y T', ty, pos, af, g⟩ env (.int k (shrK k i j)) := fun ρ w e => by
 refine run_v (s := do eqGuard .shr T x y (ρ x) (ρ y); binOp .shr T (ρ x) (ρ y)) ?_
 rw [e.eval h, e.eval h']
 have hg : (eqGuard .shr T x y (.int k i) (.int k' j)).run P w = .ok () w := by rfl
 have hn : ¬ j < 0 := by omega
 simp only [Sem.run_bind, hg, Result.andThen_ok]
 simp [binOp, Op.shift, hn, shrK]
end
end Go.Sl
namespace Go.Sl
open Go
def Opn (P : Program) (W : World) (t : TypeId) {α : Type} (enc : α → List Value) (good : α → Prop) : Prop :=
 ∀ (H : Type) (e : TypeId × Value → H) (fuel : Nat) (cs : List Value) (x : DataW H × List MemPlace), DataW.trod e P W 0 (fun _ => true) true fuel t cs = some x → ∃ a, cs = enc a ∧ good a
def OpnF (P : Program) (W : World) (fs : List Field) (k n : Nat) {α : Type} (enc : α → List Value) (good : α → Prop) : Prop :=
 ∀ (H : Type) (e : TypeId × Value → H) (fuel : Nat) (cs : List Value) , (∀ f ∈ fs, ∃ x, DataW.trod e P W 0 (fun _ => true) true fuel f.type ((cs.drop f.offset).take (P.cellsOf f.type)) = some x) → cs.length = k + n → ∃ a, cs.drop k = enc a ∧ good a
section
variable {P : Program} {W : World} {t : TypeId}
theorem Opn.int {k : IntKind} (ht : P.underlying t = some (.int k)) : Opn P W t (fun i : Int => [.int k i]) (fun i => (Lit.int k i).wf = true) := fun H e fuel cs x h => by
 obtain ⟨n, h1, -, h2⟩ := DataW.trod_int ht h; exact ⟨n, h1, h2⟩
theorem Opn.bool (ht : P.underlying t = some .bool) : Opn P W t (fun b : Bool => [.bool b]) (fun _ => True) := fun H e fuel cs x h => by
 obtain ⟨b, h1, -⟩ := DataW.trod_bool ht h; exact ⟨b, h1, trivial⟩
theorem Opn.str (ht : P.underlying t = some .string) : Opn P W t (fun s : ByteArray => [.string s]) (fun s => s.size ≤ maxLen) := fun H e fuel cs x h => by
 obtain ⟨s, h1, -, h2⟩ := DataW.trod_string ht h; exact ⟨s, h1, h2⟩
theorem Opn.map {α β : Type} {enc : α → List Value} {good : α → Prop} {enc' : β → List Value} {good' : β → Prop} (f : α → β) (h : Opn P W t enc good) (he : ∀ a, enc a = enc' (f a)) (hg : ∀ a, good a → good' (f a)) : Opn P W t enc' good' := fun H e fuel cs x hx => by
 obtain ⟨a, h1, h2⟩ := h H e fuel cs x hx; exact ⟨f a, by rw [h1, he], hg a h2⟩
theorem OpnF.nil {k : Nat} : OpnF P W [] k 0 (fun _ : Unit => []) (fun _ => True) := fun H e fuel cs _ hl => ⟨(), List.drop_eq_nil_of_le (by omega), trivial⟩
theorem OpnF.cons {α β : Type} {enc : α → List Value} {good : α → Prop} {enc' : β → List Value} {good' : β → Prop} {f : Field} {fs : List Field} {k s n : Nat} (ho : f.offset = k) (hs : P.cellsOf f.type = s) (h : Opn P W f.type enc good) (r : OpnF P W fs (k + s) n enc' good') :
   OpnF P W (f :: fs) k (s + n) (fun p : α × β => enc p.1 ++ enc' p.2) (fun p => good p.1 ∧ good' p.2) := fun H e fuel cs hf hl => by
 obtain ⟨x, hx⟩ := hf f (by simp)
 obtain ⟨a, h1, h2⟩ := h H e fuel _ x hx
 obtain ⟨b, h3, h4⟩ := r H e fuel cs (fun g hg => hf g (by simp [hg])) (by omega)
 refine ⟨(a, b), ?_, h2, h4⟩
 show _ = enc a ++ enc' b
 rw [← h1, ← h3, ho, hs, ← List.drop_drop, List.take_append_drop]
theorem Opn.struct {α : Type} {enc : α → List Value} {good : α → Prop} {fs : Array Field} {n : Nat} (ht : P.underlying t = some (.struct fs)) (hc : P.cellsOf t = n) (h : OpnF P W fs.toList 0 n enc good) : Opn P W t enc good := fun H e fuel cs x hx => by
 obtain ⟨xs, m, rfl, -, hl, hls, hf⟩ := DataW.trod_struct ht hx
 obtain ⟨a, h1, h2⟩ := h H e m cs (fun f hm => by
   obtain ⟨i, hi⟩ := List.mem_iff_getElem?.1 hm
   have := hf i f (by simpa using hi)
   have hlt : i < xs.length := by rw [hls]; have := (List.getElem?_eq_some_iff.1 hi).1; simpa using this
   exact ⟨xs[i], by rw [this]; simp [hlt]⟩) (by rw [hl, hc]; omega)
 exact ⟨a, by simpa using h1, h2⟩
structure SlV (α : Type) where
 a : Option Addr
 xs : List α
 c : Nat
abbrev slC {α : Type} (s : SlV α) : List Value := [.slice s.a s.xs.length s.c]
abbrev SlGood {α : Type} (W : World) (sz : Nat) (enc : α → List Value) (good : α → Prop) (s : SlV α) : Prop := slR (whole W) sz enc s.a s.xs ∧ s.xs.length ≤ maxLen ∧ s.xs.length ≤ s.c ∧ s.c ≤ maxLen ∧ ∀ x ∈ s.xs, good x
theorem list_of {α : Type} {Q : Nat → α → Prop} : ∀ (n : Nat), (∀ i, i < n → ∃ a, Q i a) → ∃ l : List α, l.length = n ∧ ∀ i a, l[i]? = some a → Q i a
 | 0, _ => ⟨[], rfl, by simp⟩
 | n + 1, h => by
   obtain ⟨l, h1, h2⟩ := list_of n fun i hi => h i (by omega)
   obtain ⟨a, ha⟩ := h n (by omega)
   refine ⟨l ++ [a], by simp [h1], fun i b hb => ?_⟩
   by_cases hi : i < n
   · rw [List.getElem?_append_left (by omega)] at hb; exact h2 i b hb
   · have hlt := (List.getElem?_eq_some_iff.1 hb).1
     have : i = n := by simp [h1] at hlt; omega
     subst this
     rw [List.getElem?_append_right (by omega), h1] at hb
     simp at hb; subst hb; exact ha
theorem Opn.slice {α : Type} {enc : α → List Value} {good : α → Prop} {el sz : Nat} (ht : P.underlying t = some (.slice el)) (hc : P.cellsOf el = sz) (h0 : 0 < sz) (h : Opn P W el enc good) :
   Opn P W t slC (SlGood W sz enc good) := fun H e fuel cs x hx => by
 rcases DataW.trod_slice ht hx with ⟨rfl, -⟩ | ⟨a, len, cap, elems, rest, n, -, rfl, -, -, hl, hm, hlen, hel, -, -⟩
 · exact ⟨⟨none, [], 0⟩, rfl, fun h => (h rfl).elim, Nat.zero_le _, Nat.zero_le _, Nat.zero_le _, fun _ h => by cases h⟩
 · have each : ∀ i, i < len → ∃ y : α, good y ∧ ∀ j v, (enc y)[j]? = some v → j < sz ∧ W.cell? ((a.add (i * sz)).add j) = some v := fun i hi => by
     have := hel i hi
     rw [hc] at this
     have hy : elems[i]? = some elems[i] := by simp [hlen, hi]
     rw [hy, Option.bind_eq_some_iff] at this
     obtain ⟨ds, hd, hr⟩ := this
     obtain ⟨-, hdl, hdc⟩ := World.cells?_some hd
     obtain ⟨y, rfl, hg⟩ := h H e n ds _ hr
     refine ⟨y, hg, fun j v hj => ?_⟩
     have hjl : j < sz := by rw [← hdl]; exact (List.getElem?_eq_some_iff.1 hj).1
     exact ⟨hjl, (hdc j hjl).trans hj⟩
   obtain ⟨xs, hxl, hxs⟩ := list_of len each
   refine ⟨⟨some a, xs, cap⟩, by simp [hxl], ?_, by show xs.length ≤ _; omega, by show xs.length ≤ cap; omega, hm, fun y hy => ?_⟩
   · intro hne
     have hpos : 0 < len := by rw [← hxl]; exact List.length_pos_iff.2 hne
     -- the first element has a cell
     have hcell : ∃ v, W.cell? (a.add 0) = some v := by
       have := hel 0 hpos
       rw [hc] at this
       have hy : elems[0]? = some elems[0] := by simp [hlen, hpos]
       rw [hy, Option.bind_eq_some_iff] at this
       obtain ⟨ds, hd, -⟩ := this
       obtain ⟨-, hdl, hdc⟩ := World.cells?_some hd
       have := hdc 0 h0
       rw [Nat.zero_mul] at this
       have hlt : 0 < ds.length := by omega
       refine ⟨ds[0], ?_⟩
       have e : (a.add 0).add 0 = a.add 0 := by simp [Addr.add]
       rw [e] at this
       rw [this]; simp [hlt]
     obtain ⟨v0, hv0⟩ := hcell
     have ha0 : a.add 0 = a := by simp [Addr.add]
     rw [ha0] at hv0
     have hsp := World.cell?_spot hv0
     obtain ⟨b, off, sp⟩ := a
     simp only at hsp; subst hsp
     have hb : ∃ cells E fr, W.heap[b]? = some (.cells cells E fr) := by
       unfold World.cell? at hv0
       simp only at hv0
       split at hv0
       · rename_i c E fr hh; exact ⟨c, E, fr, hh⟩
       · cases hv0
     obtain ⟨cells, E, fr, hh⟩ := hb
     refine ⟨b, off, cells, E, fr, rfl, hh, fun i y hi j v hj => ?_⟩
     obtain ⟨-, hq⟩ := hxs i y hi
     obtain ⟨-, hcj⟩ := hq j v hj
     have hadd : ((⟨b, off, none⟩ : Addr).add (i * sz)).add j = ⟨b, off + (i * sz + j), none⟩ := by
       unfold Addr.add; split <;> split <;> simp_all <;> omega
     rw [hadd] at hcj
     simpa [World.cell?, hh] using hcj
   · obtain ⟨i, hi⟩ := List.mem_iff_getElem?.1 hy
     exact (hxs i y hi).1
theorem Opn.val {α : Type} {enc : α → List Value} {good : α → Prop} (h : Opn P W t enc good) {H : Type} {e : TypeId × Value → H} {v : Value} {d : DataW H} {ps : List MemPlace} (hd : DataW.Trod e P W 0 (fun _ => true) true t v d ps) : ∃ a, v.cells.toList = enc a ∧ good a := by
 obtain ⟨fuel, hf⟩ := hd; exact h H e fuel _ _ hf
end
end Go.Sl
