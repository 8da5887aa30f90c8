/- What the closing leans on: part 4. -/
import Derived.Test.YtklgiidfompdpaaGreatDoorYa
import Derived.ChangeArms
import Derived.Carry
import Derived.Test.YtklgiidfompdpaaGreatDoorYc
import Derived.Test.YtklgiidfompdpaaGreatDoorYb
namespace Go.Sl
open Go
def Opn (P : Program) (W : World) (t : TypeId) {α : Type} (enc : α → List Value) (good : α → Prop) : Prop :=
 ∀ (H : Type) (e : TypeId × Value → H) (fuel : Nat) (cs : List Value) (x : DataW H × List MemPlace), DataW.trod e P W 0 (fun _ => true) true fuel t cs = some x → ∃ a, cs = enc a ∧ good a
def OpnF (P : Program) (W : World) (fs : List Field) (k n : Nat) {α : Type} (enc : α → List Value) (good : α → Prop) : Prop :=
 ∀ (H : Type) (e : TypeId × Value → H) (fuel : Nat) (cs : List Value) , (∀ f ∈ fs, ∃ x, DataW.trod e P W 0 (fun _ => true) true fuel f.type ((cs.drop f.offset).take (P.cellsOf f.type)) = some x) → cs.length = k + n → ∃ a, cs.drop k = enc a ∧ good a
section
variable {P : Program} {W : World} {t : TypeId}
theorem Opn.int {k : IntKind} (ht : P.underlying t = some (.int k)) : Opn P W t (fun i : Int => [.int k i]) (fun i => (Lit.int k i).wf = true) := fun H e fuel cs x h => by
 obtain ⟨n, h1, -, h2⟩ := DataW.trod_int ht h; exact ⟨n, h1, h2⟩
theorem Opn.str (ht : P.underlying t = some .string) : Opn P W t (fun s : ByteArray => [.string s]) (fun s => s.size ≤ maxLen) := fun H e fuel cs x h => by
 obtain ⟨s, h1, -, h2⟩ := DataW.trod_string ht h; exact ⟨s, h1, h2⟩
theorem Opn.map {α β : Type} {enc : α → List Value} {good : α → Prop} {enc' : β → List Value} {good' : β → Prop} (f : α → β) (h : Opn P W t enc good) (he : ∀ a, enc a = enc' (f a)) (hg : ∀ a, good a → good' (f a)) : Opn P W t enc' good' := fun H e fuel cs x hx => by
 obtain ⟨a, h1, h2⟩ := h H e fuel cs x hx; exact ⟨f a, by rw [h1, he], hg a h2⟩
theorem OpnF.nil {k : Nat} : OpnF P W [] k 0 (fun _ : Unit => []) (fun _ => True) := fun H e fuel cs _ hl => ⟨(), List.drop_eq_nil_of_le (by omega), trivial⟩
theorem OpnF.cons {α β : Type} {enc : α → List Value} {good : α → Prop} {enc' : β → List Value} {good' : β → Prop} {f : Field} {fs : List Field} {k s n : Nat} (ho : f.offset = k) (hs : P.cellsOf f.type = s) (h : Opn P W f.type enc good) (r : OpnF P W fs (k + s) n enc' good') :
   OpnF P W (f :: fs) k (s + n) (fun p : α × β => enc p.1 ++ enc' p.2) (fun p => good p.1 ∧ good' p.2) := fun H e fuel cs hf hl => by
 obtain ⟨x, hx⟩ := hf f (by simp)
 obtain ⟨a, h1, h2⟩ := h H e fuel _ x hx
 obtain ⟨b, h3, h4⟩ := r H e fuel cs (fun g hg => hf g (by simp [hg])) (by omega)
 refine ⟨(a, b), ?_, h2, h4⟩
 show _ = enc a ++ enc' b
 rw [← h1, ← h3, ho, hs, ← List.drop_drop, List.take_append_drop]
theorem Opn.struct {α : Type} {enc : α → List Value} {good : α → Prop} {fs : Array Field} {n : Nat} (ht : P.underlying t = some (.struct fs)) (hc : P.cellsOf t = n) (h : OpnF P W fs.toList 0 n enc good) : Opn P W t enc good := fun H e fuel cs x hx => by
 obtain ⟨xs, m, rfl, -, hl, hls, hf⟩ := DataW.trod_struct ht hx
 obtain ⟨a, h1, h2⟩ := h H e m cs (fun f hm => by
   obtain ⟨i, hi⟩ := List.mem_iff_getElem?.1 hm
   have := hf i f (by simpa using hi)
   have hlt : i < xs.length := by rw [hls]; have := (List.getElem?_eq_some_iff.1 hi).1; simpa using this
   exact ⟨xs[i], by rw [this]; simp [hlt]⟩) (by rw [hl, hc]; omega)
 exact ⟨a, by simpa using h1, h2⟩
structure SlV (α : Type) where
 a : Option Addr
 xs : List α
 c : Nat
abbrev slC {α : Type} (s : SlV α) : List Value := [.slice s.a s.xs.length s.c]
abbrev SlGood {α : Type} (W : World) (sz : Nat) (enc : α → List Value) (good : α → Prop) (s : SlV α) : Prop := slR (whole W) sz enc s.a s.xs ∧ s.xs.length ≤ maxLen ∧ s.xs.length ≤ s.c ∧ s.c ≤ maxLen ∧ ∀ x ∈ s.xs, good x
theorem list_of {α : Type} {Q : Nat → α → Prop} : ∀ (n : Nat), (∀ i, i < n → ∃ a, Q i a) → ∃ l : List α, l.length = n ∧ ∀ i a, l[i]? = some a → Q i a
 | 0, _ => ⟨[], rfl, by simp⟩
 | n + 1, h => by
   obtain ⟨l, h1, h2⟩ := list_of n fun i hi => h i (by omega)
   obtain ⟨a, ha⟩ := h n (by omega)
   refine ⟨l ++ [a], by simp [h1], fun i b hb => ?_⟩
   by_cases hi : i < n
   · rw [List.getElem?_append_left (by omega)] at hb; exact h2 i b hb
   · have hlt := (List.getElem?_eq_some_iff.1 hb).1
     have : i = n := by simp [h1] at hlt; omega
     subst this
     rw [List.getElem?_append_right (by omega), h1] at hb
     simp at hb; subst hb; exact ha
theorem Opn.slice {α : Type} {enc : α → List Value} {good : α → Prop} {el sz : Nat} (ht : P.underlying t = some (.slice el)) (hc : P.cellsOf el = sz) (h0 : 0 < sz) (h : Opn P W el enc good) :
   Opn P W t slC (SlGood W sz enc good) := fun H e fuel cs x hx => by
 rcases DataW.trod_slice ht hx with ⟨rfl, -⟩ | ⟨a, len, cap, elems, rest, n, -, rfl, -, -, hl, hm, hlen, hel, -, -⟩
 · exact ⟨⟨none, [], 0⟩, rfl, fun h => (h rfl).elim, Nat.zero_le _, Nat.zero_le _, Nat.zero_le _, fun _ h => by cases h⟩
 · have each : ∀ i, i < len → ∃ y : α, good y ∧ ∀ j v, (enc y)[j]? = some v → j < sz ∧ W.cell? ((a.add (i * sz)).add j) = some v := fun i hi => by
     have := hel i hi
     rw [hc] at this
     have hy : elems[i]? = some elems[i] := by simp [hlen, hi]
     rw [hy, Option.bind_eq_some_iff] at this
     obtain ⟨ds, hd, hr⟩ := this
     obtain ⟨-, hdl, hdc⟩ := World.cells?_some hd
     obtain ⟨y, rfl, hg⟩ := h H e n ds _ hr
     refine ⟨y, hg, fun j v hj => ?_⟩
     have hjl : j < sz := by rw [← hdl]; exact (List.getElem?_eq_some_iff.1 hj).1
     exact ⟨hjl, (hdc j hjl).trans hj⟩
   obtain ⟨xs, hxl, hxs⟩ := list_of len each
   refine ⟨⟨some a, xs, cap⟩, by simp [hxl], ?_, by show xs.length ≤ _; omega, by show xs.length ≤ cap; omega, hm, fun y hy => ?_⟩
   · intro hne
     have hpos : 0 < len := by rw [← hxl]; exact List.length_pos_iff.2 hne
     -- the first element has a cell
     have hcell : ∃ v, W.cell? (a.add 0) = some v := by
       have := hel 0 hpos
       rw [hc] at this
       have hy : elems[0]? = some elems[0] := by simp [hlen, hpos]
       rw [hy, Option.bind_eq_some_iff] at this
       obtain ⟨ds, hd, -⟩ := this
       obtain ⟨-, hdl, hdc⟩ := World.cells?_some hd
       have := hdc 0 h0
       rw [Nat.zero_mul] at this
       have hlt : 0 < ds.length := by omega
       refine ⟨ds[0], ?_⟩
       have e : (a.add 0).add 0 = a.add 0 := by simp [Addr.add]
       rw [e] at this
       rw [this]; simp [hlt]
     obtain ⟨v0, hv0⟩ := hcell
     have ha0 : a.add 0 = a := by simp [Addr.add]
     rw [ha0] at hv0
     have hsp := World.cell?_spot hv0
     obtain ⟨b, off, sp⟩ := a
     simp only at hsp; subst hsp
     have hb : ∃ cells E fr, W.heap[b]? = some (.cells cells E fr) := by
       unfold World.cell? at hv0
       simp only at hv0
       split at hv0
       · rename_i c E fr hh; exact ⟨c, E, fr, hh⟩
       · cases hv0
     obtain ⟨cells, E, fr, hh⟩ := hb
     refine ⟨b, off, cells, E, fr, rfl, hh, fun i y hi j v hj => ?_⟩
     obtain ⟨-, hq⟩ := hxs i y hi
     obtain ⟨-, hcj⟩ := hq j v hj
     have hadd : ((⟨b, off, none⟩ : Addr).add (i * sz)).add j = ⟨b, off + (i * sz + j), none⟩ := by
       unfold Addr.add; split <;> split <;> simp_all <;> omega
     rw [hadd] at hcj
     simpa [World.cell?, hh] using hcj
   · obtain ⟨i, hi⟩ := List.mem_iff_getElem?.1 hy
     exact (hxs i y hi).1
theorem Opn.val {α : Type} {enc : α → List Value} {good : α → Prop} (h : Opn P W t enc good) {H : Type} {e : TypeId × Value → H} {v : Value} {d : DataW H} {ps : List MemPlace} (hd : DataW.Trod e P W 0 (fun _ => true) true t v d ps) : ∃ a, v.cells.toList = enc a ∧ good a := by
 obtain ⟨fuel, hf⟩ := hd; exact h H e fuel _ _ hf
end
end Go.Sl
namespace Go.Po
open Go Go.Sl Go.Gv
structure PostV where
 k : Key
 t : SlV Int
abbrev postC (p : PostV) : List Value := [int p.k.o, int p.k.q, .slice p.t.a p.t.xs.length p.t.c]
abbrev postV (p : PostV) : Value := .agg (postC p).toArray
abbrev PostP : Type := Key × List Int
def PostV.p (p : PostV) : PostP := (p.k, p.t.xs)
def risesFrom : Int → List Int → Bool
 | _, [] => true
 | a, n :: l => decide (a < n) && risesFrom n l
def risesB (l : List Int) : Bool := risesFrom (-1) l && decide (l ≠ [])
def lastOr (a : Int) (l : List Int) : Int := l.getLast?.getD a
theorem risesFrom_snoc : ∀ (a : Int) (l : List Int) (x : Int), risesFrom a (l ++ [x]) = (risesFrom a l && decide (lastOr a l < x))
 | a, [], x => by simp only [List.nil_append, risesFrom, Bool.and_true, Bool.true_and]; rfl
 | a, n :: l, x => by
   have h := risesFrom_snoc n l x
   have e : lastOr a (n :: l) = lastOr n l := by
     cases l with
     | nil => rfl
     | cons m l => simp [lastOr, List.getLast?_cons]
   simp only [List.cons_append, risesFrom, h, e, Bool.and_assoc]
theorem lastOr_snoc (a : Int) (l : List Int) (x : Int) : lastOr a (l ++ [x]) = x := by simp [lastOr]
theorem rises_take {a : Int} {l : List Int} {i : Nat} {x : Int} (h : l[i]? = some x) : risesFrom a (l.take (i + 1)) = (risesFrom a (l.take i) && decide (lastOr a (l.take i) < x)) := by
 rw [List.take_add_one, h]; exact risesFrom_snoc ..
theorem last_take {a : Int} {l : List Int} {i : Nat} {x : Int} (h : l[i]? = some x) : lastOr a (l.take (i + 1)) = x := by
 rw [List.take_add_one, h]; exact lastOr_snoc ..
theorem rises_cut {a : Int} : ∀ {l m : List Int}, risesFrom a (l ++ m) = true → risesFrom a l = true
 | [], _, _ => rfl
 | n :: l, m, h => by
   simp only [List.cons_append, risesFrom, Bool.and_eq_true] at h ⊢
   exact ⟨h.1, rises_cut h.2⟩
theorem rises_not {l : List Int} {i : Nat} (h : risesFrom (-1) (l.take i) = false) : risesB l = false := by
 cases hr : risesFrom (-1) l with
 | false => simp [risesB, hr]
 | true =>
   rw [← List.take_append_drop i l] at hr
   rw [rises_cut hr] at h; cases h
def mayFrom : Option Key → List PostP → Bool
 | _, [] => true
 | q, p :: l => risesB p.2 && ((match q with | none => true | some k => before k p.1) && mayFrom (some p.1) l)
def mayB (l : List PostP) : Bool := mayFrom none l
def lastK (q : Option Key) (l : List PostP) : Option Key := match l.getLast? with | none => q | some p => some p.1
theorem mayFrom_snoc : ∀ (q : Option Key) (l : List PostP) (x : PostP), mayFrom q (l ++ [x]) = (mayFrom q l && (risesB x.2 && (match lastK q l with | none => true | some k => before k x.1)))
 | q, [], x => by simp [mayFrom, lastK]
 | q, p :: l, x => by
   have h := mayFrom_snoc (some p.1) l x
   have e : lastK q (p :: l) = lastK (some p.1) l := by
     cases l with
     | nil => rfl
     | cons m l => simp [lastK, List.getLast?_cons]
   simp only [List.cons_append, mayFrom, h, e, Bool.and_assoc]
theorem mayFrom_cut : ∀ {q : Option Key} {l m : List PostP}, mayFrom q (l ++ m) = true → mayFrom q l = true
 | _, [], _, _ => rfl
 | q, p :: l, m, h => by
   simp only [List.cons_append, mayFrom, Bool.and_eq_true] at h ⊢
   exact ⟨h.1, h.2.1, mayFrom_cut h.2.2⟩
theorem may_not {l : List PostP} {i : Nat} (h : mayB (l.take i) = false) : mayB l = false := by
 cases hr : mayB l with
 | false => rfl
 | true =>
   rw [← List.take_append_drop i l] at hr
   rw [mayB, mayFrom_cut hr] at h; cases h
theorem lastK_take {l : List PostP} {i : Nat} {x : PostP} (h : l[i]? = some x) : lastK none (l.take (i + 1)) = some x.1 := by
 rw [List.take_add_one, h]; simp [lastK]
theorem may_take {l : List PostP} {i : Nat} {x : PostP} (h : l[i]? = some x) : mayB (l.take (i + 1)) = (mayB (l.take i) && (risesB x.2 && (match lastK none (l.take i) with | none => true | some k => before k x.1))) := by
 rw [List.take_add_one, h]; exact mayFrom_snoc ..
theorem not_t {b : Bool} (h : (!b) = true) : b = false := by cases b <;> first | rfl | cases h
theorem not_f {b : Bool} (h : (!b) = false) : b = true := by cases b <;> first | rfl | cases h
theorem may_step0 {P : List PostP} {x : PostP} {i : Nat} (hi : i = 0) (h : P[i]? = some x) : mayB (P.take (i + 1)) = risesB x.2 := by
 subst hi
 rw [may_take h]; simp [mayB, mayFrom, lastK]
theorem may_stepS {P : List PostP} {x y : PostP} {i : Nat} (hi : 0 < i) (h : P[i]? = some x) (hy : P[i - 1]? = some y) (hm : mayB (P.take i) = true) : mayB (P.take (i + 1)) = (risesB x.2 && before y.1 x.1) := by
 have := lastK_take hy
 rw [show i - 1 + 1 = i by omega] at this
 rw [may_take h, hm, this, Bool.true_and]
theorem may_step_no {P : List PostP} {x : PostP} {i : Nat} (h : P[i]? = some x) (hx : risesB x.2 = false) : mayB P = false :=
 may_not (i := i + 1) (by rw [may_take h, hx, Bool.false_and, Bool.and_false])
theorem lastOr_ge : ∀ {a : Int} {l : List Int}, risesFrom a l = true → a ≤ lastOr a l
 | a, [], _ => Int.le_refl _
 | a, n :: l, h => by
   simp only [risesFrom, Bool.and_eq_true, decide_eq_true_eq] at h
   have := lastOr_ge h.2
   have e : lastOr a (n :: l) = lastOr n l := by
     cases l with
     | nil => rfl
     | cons m l => simp [lastOr, List.getLast?_cons]
   rw [e]; omega
end Go.Po
namespace Go.Proofs.YtklgiidfompdpaaGreatDoor
open Go Go.Sl Go.Gv Go.Po
set_option maxRecDepth 100000
abbrev ptr (b : Nat) : Value := .pointer (some ⟨b, 0, none⟩)
abbrev encC_3 : Int → List Value := intC
abbrev encC_28 : Key → List Value := keyC
abbrev encC_106 : PostV → List Value := postC
abbrev encC_94 : SlV PostV → List Value := slC
theorem ek_3 : EncOk 1 intC := ⟨fun _ => rfl, fun x v hv => by
 simp only [intC, List.mem_cons, List.not_mem_nil, or_false] at hv
 rcases hv with rfl; rfl⟩
theorem ek_28 : EncOk 2 keyC := ⟨fun _ => rfl, fun x v hv => by
 simp only [keyC, List.mem_cons, List.not_mem_nil, or_false] at hv
 rcases hv with rfl | rfl <;> rfl⟩
theorem ek_106 : EncOk 3 postC := ⟨fun _ => rfl, fun x v hv => by
 simp only [postC, List.mem_cons, List.not_mem_nil, or_false] at hv
 rcases hv with rfl | rfl | rfl <;> rfl⟩
theorem ek_94 : EncOk 1 (slC : SlV PostV → List Value) := ⟨fun _ => rfl, fun x v hv => by
 simp only [slC, List.mem_cons, List.not_mem_nil, or_false] at hv
 rcases hv with rfl; rfl⟩
theorem cmp_28 : CmpT Tryz.prog 28 keyV 2 :=
 CmpT.of (fun k : Key => (k.o, k.q)) (fun a b => by cases a; cases b; simp) (fun _ => rfl)
   (cmp_ii Tryz.underlying28 Tryz.stoodInHeld28 ⟨by decide, by decide⟩ ⟨⟨rfl, rfl⟩, rfl, rfl⟩ Tryz.underlying3 na_3)
def PRd (S : HProp) (a : Option Addr) (ps : List PostV) : Prop := Srd S 3 postC a ps ∧ ∀ p ∈ ps, Srd S 1 intC p.t.a p.t.xs ∧ p.t.xs.length ≤ 1000
def LRd (S : HProp) (a : Option Addr) (ls : List (SlV PostV)) : Prop := Srd S 1 slC a ls ∧ ∀ l ∈ ls, PRd S l.a l.xs ∧ l.xs.length ≤ 1000
abbrev plain1 (ps : List PostV) : List PostP := ps.map PostV.p
abbrev plain2 (ls : List (SlV PostV)) : List (List PostP) := ls.map fun l => plain1 l.xs
theorem plain_at {ps : List PostV} {i : Nat} {p : PostV} (h : ps[i]? = some p) : (plain1 ps)[i]? = some p.p := by simp [h]
end Go.Proofs.YtklgiidfompdpaaGreatDoor
namespace Go.Proofs.YtklgiidfompdpaaGreatDoor
open Go Go.Sl Go.Gv Go.Po
set_option maxRecDepth 100000
theorem beforeR_spec (a b : Key) : Ct Tryz.prog 137 [keyV a, keyV b] [] (fun v hs => v = .bool (before a b) ∧ hs = []) := by
 refine Cti Tryz.func137 (by kernel_rfl) 20 Tryz.ntmps137 rfl rfl fun w0 R => ?_
 refine Gsr (La rfl (ac_box rfl rfl) ?_)
 rintro _ _ ⟨b2, rfl, rfl⟩
 refine La rfl (ac_box rfl rfl) ?_
 rintro _ _ ⟨b3, rfl, rfl⟩
 refine Las rfl rfl (Lnt (Gs.seq (Gsr (Lq rfl (pu_fa fa_28_0 rfl) (Lr rfl (rd_ld na_3 rfl (Rdc.cl1 (by repeat constructor) rfl)) ?_)))))
 refine Lq rfl (pu_fa fa_28_0 rfl) (Lr rfl (rd_ld na_3 rfl (Rdc.cl1 (by repeat constructor) rfl)) ?_)
 refine Lq rfl (pu_ne rfl rfl) (Lnt (Gs.cond rfl (fun hc0 => ?_) (fun hc0 => ?_)))
 ·
  refine Gsr (Lq rfl (pu_fa fa_28_0 rfl) (Lr rfl (rd_ld na_3 rfl (Rdc.cl1 (by repeat constructor) rfl)) ?_))
  refine Lq rfl (pu_fa fa_28_0 rfl) (Lr rfl (rd_ld na_3 rfl (Rdc.cl1 (by repeat constructor) rfl)) ?_)
  refine Lq rfl (pu_lt rfl rfl) (Las rfl rfl (Lnt (Gs.ret (Gr ?_))))
  exact Gs.fin1 Tryz.results137 rfl _ (⟨by grind [before], rfl⟩) (by repeat constructor)
 refine Gs.skip (Gn (Gsr (Lq rfl (pu_fa fa_28_1 rfl) (Lr rfl (rd_ld na_3 rfl (Rdc.cl1 (by repeat constructor) rfl)) ?_))))
 refine Lq rfl (pu_fa fa_28_1 rfl) (Lr rfl (rd_ld na_3 rfl (Rdc.cl1 (by repeat constructor) rfl)) ?_)
 refine Lq rfl (pu_lt rfl rfl) (Las rfl rfl (Lnt (Gs.ret ?_)))
 exact Gs.fin1 Tryz.results137 rfl _ (⟨by grind [before], rfl⟩) (by repeat constructor)
theorem rises_spec {S : HProp} {a : Option Addr} {c : Nat} {l : List Int} (hS : Srd S 1 intC a l) (hl : l.length ≤ 1000) :
   Ct Tryz.prog 99 [.slice a l.length c] [S] (fun v hs => v = .bool (risesB l) ∧ hs = [S]) := by
 refine Cti Tryz.func99 (by kernel_rfl) 20 Tryz.ntmps99 rfl rfl fun w0 R => ?_
 refine Gs.slAddr (hS.h (by repeat constructor)) fun ab ao ha => ?_
 refine Gsr (Las rfl rfl (Lnt (Gsr (Las rfl rfl (Lnt (Gs.seq (Gsr (Lmv rfl rfl (Lq rfl (pu_len Tryz.underlying99 rfl) (Lmv rfl rfl (Lnt ?_)))))))))))
 refine Gs.block (Gs.loop1 (fun s : Nat × Int => s.1 ≤ l.length ∧ risesFrom (-1) (l.take s.1) = true ∧ s.2 = lastOr (-1) (l.take s.1)) (fun s => [(0, .slice a l.length c), (3, int s.2), (6, .slice a l.length c), (7, int l.length), (8, int s.1)]) (fun _ => [S] ++ R) (fun s => l.length - s.1) (0, -1) (⟨Nat.zero_le _, rfl, rfl⟩) (by repeat constructor) (by repeat constructor) (fun s hs => ?_))
 obtain ⟨i, m⟩ := s
 obtain ⟨hi, hr, hm⟩ := hs
 dsimp only at hi hr hm ⊢
 refine Gsr (Lq rfl (pu_lt rfl rfl) (Lnt (Gs.seq (Gs.cond rfl (fun hc0 => ?_) (fun hc0 => ?_)))))
 ·
  have hlt : i < l.length := by have := of_decide_eq_true hc0; omega
  obtain ⟨x, hx⟩ : ∃ x, l[i]? = some x := ⟨l[i], by simp [hlt]⟩
  obtain rfl := ha (by rintro rfl; simp at hlt)
  have hst := rises_take (a := -1) hx
  rw [hr, Bool.true_and, ← hm] at hst
  refine Gs.skip (Gn (Gs.seq (Gs.block (Gsr (Lq rfl (pu_ia se_99 rfl rfl (by omega) (by omega)) (Lr rfl (rd_ld na_3 rfl (Rdc.el0 (hS.h (by repeat constructor)) hx rfl rfl)) ?_))))))
  refine Las rfl rfl (Lnt (Gs.seq (Gsr (Lmv rfl rfl (Lmv rfl rfl (Lq rfl (pu_le rfl rfl) (Lnt (Gs.cond rfl (fun hc1 => ?_) (fun hc1 => ?_)))))))))
  ·
   have hno : risesB l = false := rises_not (i := i + 1) (by rw [hst]; exact decide_eq_false (by have := of_decide_eq_true hc1; omega))
   refine Gsr (Las rfl rfl (Lnt (Gs.ret (Gr (Gs.blk_r (Gr (Gr (Gs.blk_r (Gr ?_)))))))))
   exact Gs.fin1 Tryz.results99 rfl _ (⟨by rw [hno], rfl⟩) (by repeat constructor)
  have hyes : risesFrom (-1) (l.take (i + 1)) = true := by rw [hst]; exact decide_eq_true (by have := of_decide_eq_false hc1; omega)
  refine Gs.skip (Gn (Gs.reg (Lmv rfl rfl (Las rfl rfl (Lnil (Gs.blk_n (Gn (Gs.reg (Lq rfl (by first | exact pu_addI rfl rfl rfl (by omega) (by omega) | exact pu_add rfl rfl) ?_)))))))))
  refine Lmv rfl rfl (Lnt ?_)
  exact Ag (i + 1, x) ⟨by show i + 1 ≤ l.length; omega, hyes, (last_take hx).symm⟩ (by show l.length - (i + 1) < l.length - i; omega)
 have hge : i = l.length := by have := of_decide_eq_false hc0; omega
 rw [hge, List.take_length] at hr
 refine Gs.exit (Gx (Gx (Gs.blk_hit (Gn (Gsr (Lmv rfl rfl (Lq rfl (pu_len Tryz.underlying99 rfl) (Lq rfl (pu_gt rfl rfl) (Las rfl rfl (Lnt (Gs.ret ?_)))))))))))
 exact Gs.fin1 Tryz.results99 rfl _ (⟨by rw [risesB, hr, Bool.true_and]; congr 1; exact decide_eq_decide.2 ⟨fun h e => by rw [e] at h; simp at h, fun h => by have := List.length_pos_iff.2 h; omega⟩, rfl⟩) (by repeat constructor)
theorem may_spec {S : HProp} {a : Option Addr} {c : Nat} {ps : List PostV} (hS : PRd S a ps) (hl : ps.length ≤ 1000) :
   Ct Tryz.prog 86 [.slice a ps.length c] [S] (fun v hs => v = .bool (mayB (plain1 ps)) ∧ hs = [S]) := by
 refine Cti Tryz.func86 (by kernel_rfl) 33 Tryz.ntmps86 rfl rfl fun w0 R => ?_
 refine Gs.slAddr (hS.1.h (by repeat constructor)) fun ab ao ha => ?_
 refine Gsr (Las rfl rfl (Lnt (Gs.seq (Gsr (Lmv rfl rfl (Lq rfl (pu_len Tryz.underlying94 rfl) (Lmv rfl rfl (Lnt (Gs.block (Gs.loop1 (fun i : Nat => i ≤ ps.length ∧ mayB ((plain1 ps).take i) = true) (fun i => [(0, .slice a ps.length c), (5, .slice a ps.length c), (6, int ps.length), (7, int i)]) (fun _ => [S] ++ R) (fun i => ps.length - i) 0 (⟨Nat.zero_le _, rfl⟩) (by repeat constructor) (by repeat constructor) (fun i ⟨hi, hm⟩ => ?_)))))))))))
 refine Gsr (Lq rfl (pu_lt rfl rfl) (Lnt (Gs.seq (Gs.cond rfl (fun hc0 => ?_) (fun hc0 => ?_)))))
 ·
  have hlt : i < ps.length := by have := of_decide_eq_true hc0; omega
  obtain ⟨x, hx⟩ : ∃ x, ps[i]? = some x := ⟨ps[i], by simp [hlt]⟩
  obtain rfl := ha (by rintro rfl; simp at hlt)
  obtain ⟨k1, k2⟩ := hS.2 x (List.mem_of_getElem? hx)
  have hxp := plain_at hx
  refine Gs.skip (Gn (Gs.seq (Gs.block (Gsr (Lmv rfl rfl (Lq rfl (pu_ia se_94 rfl rfl (by omega) (by omega)) (Lr rfl (rd_lda ag_106 rfl (Rdc.el0 (hS.1.h (by repeat constructor)) hx rfl rfl) rfl) ?_)))))))
  refine La rfl (ac_alloc zv_106 rfl) ?_
  rintro _ _ ⟨xb, rfl, rfl⟩
  refine Las rfl rfl (Lac0 rfl trivial (ac_st sz_106 rfl rfl (by repeat constructor) rfl rfl rfl rfl) ?_)
  rintro _ _ rfl
  refine Lnt (Gs.seq (Gs.regD mixed (by kernel_rfl) (Rq 0 rfl (by kernel_rfl) (pu_fa fa_106_1 rfl) (Rr 1 rfl (by kernel_rfl) (rd_ld na_99 rfl (Rdc.cl1 (by repeat constructor) rfl)) ?_))))
  refine Rg.one (by kernel_rfl) (Stp.ac 2 rfl rfl (by kernel_rfl) trivial (asC (rises_spec k1 k2))  ?_)
  rintro _ _ ⟨_, ⟨rfl, rfl⟩, rfl⟩
  refine Rq 3 rfl (by kernel_rfl) (pu_not rfl) (Rg.puB 4 rfl rfl (by kernel_rfl) trivial (pu_move rfl) (fun hg4 => ?_) (fun hg4 => ?_))
  ·
   have hno : mayB (plain1 ps) = false := may_step_no hxp (not_t hg4)
   refine Rof 5 rfl (by kernel_rfl) rfl (Rof 6 rfl (by kernel_rfl) rfl (Rof 7 rfl (by kernel_rfl) rfl (Rg.offU 8 rfl rfl (by kernel_rfl) rfl rfl rfl (Rg.offU 9 rfl rfl (by kernel_rfl) rfl rfl rfl (Rg.offU 10 rfl rfl (by kernel_rfl) rfl rfl rfl (Rg.offU 11 rfl rfl (by kernel_rfl) rfl rfl rfl (Rg.offU 12 rfl rfl (by kernel_rfl) rfl rfl rfl (Rg.offU 13 rfl rfl (by kernel_rfl) rfl rfl rfl (Rg.offU 14 rfl rfl (by kernel_rfl) rfl rfl rfl (Rg.offU 15 rfl rfl (by kernel_rfl) rfl rfl rfl (Rg.offU 16 rfl rfl (by kernel_rfl) rfl rfl rfl ?_)))))))))))
   refine Rg.offU 17 rfl rfl (by kernel_rfl) rfl rfl rfl (Rof 18 rfl (by kernel_rfl) rfl (Rpk 19 rfl (by kernel_rfl) rfl rfl (Rg.end (by kernel_rfl) (Gn (Gs.cond_t rfl (Gsr (Las rfl rfl (Lnt (Gs.ret (Gs.blk_r (Gr ?_)))))))))))
   refine Gr (Gs.blk_r (Gr ?_))
   exact Gs.fin1 Tryz.results86 rfl _ (⟨by rw [hno], rfl⟩) (by repeat constructor)
  have hri : risesB x.p.2 = true := not_f hg4
  refine Rg.pu 5 rfl rfl (by kernel_rfl) ⟨_, rfl, rfl⟩ (pu_move rfl) (Rg.pu 6 rfl rfl (by kernel_rfl) ⟨_, rfl, rfl⟩ (pu_gt rfl rfl) (Rg.puB 7 rfl rfl (by kernel_rfl) ⟨_, rfl, rfl⟩ (pu_move rfl) (fun hg7 => ?_) (fun hg7 => ?_)))
  ·
   have hi0 : 0 < i := by have := of_decide_eq_true hg7; omega
   obtain ⟨y, hy⟩ : ∃ x, ps[i - 1]? = some x := ⟨ps[i - 1]'(by omega), by simp⟩
   have hst := may_stepS hi0 hxp (plain_at hy) hm
   rw [hri, Bool.true_and] at hst
   refine Rg.pu 8 rfl rfl (by kernel_rfl) ⟨_, rfl, rfl⟩ (pu_move rfl) (Rg.pu 9 rfl rfl (by kernel_rfl) ⟨_, rfl, rfl⟩ (pu_move rfl) (Rg.pu 10 rfl rfl (by kernel_rfl) ⟨_, rfl, rfl⟩ (pu_subI (z := ((i - 1 : Nat) : Int)) rfl rfl (by omega) (by omega) (by omega)) ?_))
   refine Rg.pu 11 rfl rfl (by kernel_rfl) ⟨_, rfl, rfl⟩ (pu_ia se_94 rfl rfl (by omega) (by omega)) (Rg.pu 12 rfl rfl (by kernel_rfl) ⟨_, rfl, rfl⟩ (pu_fa fa_106_0 rfl) (Rg.rd 13 rfl rfl (by kernel_rfl) ⟨_, rfl, rfl⟩ (rd_lda ag_28 rfl (Rdc.elp 2 (hS.1.h (by repeat constructor)) hy rfl rfl) rfl) ?_))
   refine Rg.pu 14 rfl rfl (by kernel_rfl) ⟨_, rfl, rfl⟩ (pu_fa fa_106_0 rfl) (Rg.rd 15 rfl rfl (by kernel_rfl) ⟨_, rfl, rfl⟩ (rd_lda ag_28 rfl (Rdc.cl 2 (by repeat constructor) rfl) rfl) ?_)
   refine Rg.one (by kernel_rfl) (Stp.ac 16 rfl rfl (by kernel_rfl) ⟨_, rfl, rfl⟩ (asC (beforeR_spec y.k x.k))  ?_)
   rintro _ _ ⟨_, ⟨rfl, rfl⟩, rfl⟩
   refine Rg.pu 17 rfl rfl (by kernel_rfl) ⟨_, rfl, rfl⟩ (pu_not rfl) (Rg.pu 18 rfl rfl (by kernel_rfl) ⟨_, rfl, rfl⟩ (by first | exact pu_pick_t rfl rfl | exact pu_pick_f rfl rfl) ?_)
   refine Rpk 19 rfl (by kernel_rfl) rfl rfl (Rg.end (by kernel_rfl) (Gn (Gs.cond rfl (fun hc1 => ?_) (fun hc1 => ?_))))
   ·
    have hno : mayB (plain1 ps) = false := may_not (i := i + 1) (by rw [hst]; exact not_t hc1)
    refine Gsr (Las rfl rfl (Lnt (Gs.ret (Gs.blk_r (Gr (Gr (Gs.blk_r (Gr ?_))))))))
    exact Gs.fin1 Tryz.results86 rfl _ (⟨by rw [hno], rfl⟩) (by repeat constructor)
   have hyes : mayB ((plain1 ps).take (i + 1)) = true := by rw [hst]; exact not_f hc1
   refine Gs.skip (Gs.blk_n (Gn (Gs.reg (Lq rfl (by first | exact pu_addI rfl rfl rfl (by omega) (by omega) | exact pu_add rfl rfl) ?_))))
   refine Lmv rfl rfl (Lnt ?_)
   exact Ag (i + 1) ⟨by omega, hyes⟩ (by omega)
  have hi0 : i = 0 := by have := of_decide_eq_false hg7; omega
  have hyes : mayB ((plain1 ps).take (i + 1)) = true := by rw [may_step0 hi0 hxp]; exact hri
  refine Rof 8 rfl (by kernel_rfl) rfl (Rof 9 rfl (by kernel_rfl) rfl (Rof 10 rfl (by kernel_rfl) rfl (Rof 11 rfl (by kernel_rfl) rfl (Rof 12 rfl (by kernel_rfl) rfl (Rof 13 rfl (by kernel_rfl) rfl (Rof 14 rfl (by kernel_rfl) rfl (Rof 15 rfl (by kernel_rfl) rfl (Rof 16 rfl (by kernel_rfl) rfl (Rof 17 rfl (by kernel_rfl) rfl (Rg.pu 18 rfl rfl (by kernel_rfl) ⟨_, rfl, rfl⟩ (by first | exact pu_pick_t rfl rfl | exact pu_pick_f rfl rfl) ?_))))))))))
  refine Rpk 19 rfl (by kernel_rfl) rfl rfl (Rg.end (by kernel_rfl) (Gn (Gs.cond_f rfl (Gs.skip (Gs.blk_n (Gn (Gs.reg (Lq rfl (by first | exact pu_addI rfl rfl rfl (by omega) (by omega) | exact pu_add rfl rfl) ?_))))))))
  refine Lmv rfl rfl (Lnt ?_)
  exact Ag (i + 1) ⟨by omega, hyes⟩ (by omega)
 have hge : i = ps.length := by have := of_decide_eq_false hc0; omega
 rw [hge, List.take_of_length_le (by simp)] at hm
 refine Gs.exit (Gx (Gx (Gs.blk_hit (Gn (Gsr (Las rfl rfl (Lnt (Gs.ret ?_))))))))
 exact Gs.fin1 Tryz.results86 rfl _ (⟨by rw [hm], rfl⟩) (by repeat constructor)
end Go.Proofs.YtklgiidfompdpaaGreatDoor
namespace Go.Po
open Go Go.Sl Go.Gv
def mayAll (ls : List (List PostP)) : Bool := ls.all mayB
theorem mayFrom_asc : ∀ {q : Option Key} {l : List PostP}, mayFrom q l = true → (l.map Prod.fst).Pairwise (fun a b => before a b = true) ∧ (∀ k, q = some k → ∀ p ∈ l, before k p.1 = true) ∧ ∀ p ∈ l, risesB p.2 = true
 | _, [], _ => ⟨List.Pairwise.nil, fun _ _ _ h => (by cases h), fun _ h => (by cases h)⟩
 | q, p :: l, h => by
   simp only [mayFrom, Bool.and_eq_true] at h
   obtain ⟨h1, h2, h3⟩ := mayFrom_asc h.2.2
   refine ⟨List.pairwise_cons.2 ⟨fun k hk => ?_, h1⟩, fun k hq x hx => ?_, fun x hx => ?_⟩
   · obtain ⟨x, hx, rfl⟩ := List.mem_map.1 hk
     exact h2 _ rfl x hx
   · subst hq
     rcases List.mem_cons.1 hx with rfl | hx
     · exact h.2.1
     · exact before_trans h.2.1 (h2 _ rfl x hx)
   · rcases List.mem_cons.1 hx with rfl | hx
     · exact h.1
     · exact h3 x hx
theorem may_asc {l : List PostP} (h : mayB l = true) : (l.map Prod.fst).Pairwise (fun a b => before a b = true) := (mayFrom_asc h).1
theorem may_rises {l : List PostP} (h : mayB l = true) : ∀ p ∈ l, risesB p.2 = true := (mayFrom_asc h).2.2
def lookP (ps : List PostV) (k : Key) : Option PostV := ps.find? fun p => decide (p.k = k)
def PostV.zero : PostV := ⟨⟨0, 0⟩, ⟨none, [], 0⟩⟩
def ordZ (a k : Key) : Int := if before a k then -1 else if before k a then 1 else 0
def cutI (ps : List PostV) (k : Key) (i : Nat) : Prop := i ≤ ps.length ∧ (∀ m x, m < i → ps[m]? = some x → before x.k k = true) ∧ ∀ m x, i ≤ m → ps[m]? = some x → before x.k k = false
theorem asc_lt {ps : List PostV} (h : ((ps.map PostV.p).map Prod.fst).Pairwise (fun a b => before a b = true)) {i j : Nat} {x y : PostV} (hij : i < j) (hx : ps[i]? = some x) (hy : ps[j]? = some y) : before x.k y.k = true := by
 obtain ⟨h1, rfl⟩ := List.getElem?_eq_some_iff.1 hx
 obtain ⟨h2, rfl⟩ := List.getElem?_eq_some_iff.1 hy
 have := List.pairwise_iff_getElem.1 h i j (by simpa using h1) (by simpa using h2) hij
 simpa [PostV.p] using this
theorem before_asymm {a b : Key} (h : before a b = true) : before b a = false := by rw [before_iff] at h; rw [before_not]; omega
theorem cut_look {ps : List PostV} {k : Key} {i : Nat} (h : cutI ps k i) (ha : ((ps.map PostV.p).map Prod.fst).Pairwise (fun a b => before a b = true)) :
   (∀ x, ps[i]? = some x → x.k = k → lookP ps k = some x) ∧ ((∀ x, ps[i]? = some x → x.k ≠ k) → lookP ps k = none) := by
 constructor
 · intro x hx hk
   unfold lookP
   rw [List.find?_eq_some_iff_append]
   obtain ⟨hl, rfl⟩ := List.getElem?_eq_some_iff.1 hx
   refine ⟨by simpa using hk, ps.take i, ps.drop (i + 1), ?_, fun y hy => ?_⟩
   · exact (List.take_append_drop i ps).symm.trans (by rw [List.drop_eq_getElem_cons hl])
   · obtain ⟨m, hm⟩ := List.mem_iff_getElem?.1 hy
     rw [List.getElem?_take] at hm
     split at hm
     · rename_i hlt
       have := h.2.1 m y hlt hm
       have hne : y.k ≠ k := fun e => by rw [e, before_irr] at this; cases this
       simpa using hne
     · cases hm
 · intro hno
   unfold lookP
   rw [List.find?_eq_none]
   intro y hy
   obtain ⟨m, hm⟩ := List.mem_iff_getElem?.1 hy
   have hne : y.k ≠ k := fun e => by
     rcases Nat.lt_or_ge m i with hlt | hge
     · have := h.2.1 m y hlt hm
       rw [e, before_irr] at this; cases this
     · rcases Nat.lt_or_eq_of_le hge with hlt | heq
       · have hl : m < ps.length := (List.getElem?_eq_some_iff.1 hm).1
         have hi : ps[i]? = some ps[i] := by simp [show i < ps.length by omega]
         have h1 := asc_lt ha hlt hi hm
         rw [e] at h1
         have h2 := h.2.2 i _ (Nat.le_refl i) hi
         rw [h2] at h1; cases h1
       · subst heq; exact hno y hm e
   simpa using hne
end Go.Po
namespace Go.Proofs.YtklgiidfompdpaaGreatDoor
open Go Go.Sl Go.Gv Go.Po
set_option maxRecDepth 100000
theorem odd1_spec {S : HProp} {a : Option Addr} {c : Nat} {ps : List PostV} (hS : PRd S a ps) (hl : ps.length ≤ 1000) :
   Ct Tryz.prog 209 [.slice a ps.length c] [S] (fun v hs => v = .bool (!mayB (plain1 ps)) ∧ hs = [S]) := by
 refine Cti Tryz.func209 (by kernel_rfl) 6 Tryz.ntmps209 rfl rfl fun w0 R => ?_
 refine Gsr (Las rfl rfl (Lnt (Gsr (Lmv rfl rfl (La rfl (asC (may_spec hS hl)) ?_)))))
 rintro _ _ ⟨_, ⟨rfl, rfl⟩, rfl⟩
 refine Lq rfl (pu_not rfl) (Las rfl rfl (Lnt (Gs.ret ?_)))
 exact Gs.fin1 Tryz.results209 rfl _ (⟨rfl, rfl⟩) (by repeat constructor)
theorem indexLL_spec {S : HProp} {g : FuncId} {q : SlV PostV → Bool} {a : Option Addr} {c : Nat} {ls : List (SlV PostV)} (hS : Srd S 1 slC a ls) (hg : ∀ l ∈ ls, Ct Tryz.prog g ([] ++ [.slice l.a l.xs.length l.c] ++ []) [S] (fun v hs => v = .bool (q l) ∧ hs = [S])) (hl : ls.length ≤ 1000) :
   Ct Tryz.prog 253 [.slice a ls.length c, .func (.func g) #[] #[]] [S] (fun v hs => (∃ z : Int, v = int z ∧ decide (0 ≤ z) = ls.any q) ∧ hs = [S]) := by
 refine Cti Tryz.func253 (by kernel_rfl) 19 Tryz.ntmps253 rfl rfl fun w0 R => ?_
 refine Gs.slAddr (hS.h (by repeat constructor)) fun ab ao ha => ?_
 refine Gsr (Las rfl rfl (Lnt (Gs.seq (Gsr (Lmv rfl rfl (Lq rfl (pu_len Tryz.underlying120 rfl) (Lmv rfl rfl (Lnt (Gs.block (Gs.loop1 (fun i : Nat => i ≤ ls.length ∧ (ls.take i).any q = false) (fun i => [(0, .slice a ls.length c), (1, .func (.func g) #[] #[]), (7, int ls.length), (8, int i)]) (fun i => [S] ++ R) (fun i => ls.length - i) 0 (⟨Nat.zero_le _, rfl⟩) (by repeat constructor) (by repeat constructor) (fun i ⟨hi, hq⟩ => ?_)))))))))))
 refine Gsr (Lq rfl (pu_lt rfl rfl) (Lnt (Gs.seq (Gs.cond rfl (fun hc0 => ?_) (fun hc0 => ?_)))))
 ·
  have hlt : i < ls.length := by have := of_decide_eq_true hc0; omega
  obtain ⟨x, hx⟩ : ∃ x, ls[i]? = some x := ⟨ls[i], by simp [hlt]⟩
  obtain rfl := ha (by rintro rfl; simp at hlt)
  have hm := List.mem_of_getElem? hx
  refine Gs.skip (Gn (Gs.seq (Gs.block (Gsr (Lmv rfl rfl (Las rfl rfl (Lnt (Gsr (Lmv rfl rfl (Lmv rfl rfl (Lmv rfl rfl ?_)))))))))))
  refine Lq rfl (pu_ia se_120 rfl rfl (by omega) (by omega)) (Lr rfl (rd_ld na_94 rfl (Rdc.el0 (hS.h (by repeat constructor)) hx rfl rfl)) ?_)
  refine La rfl (as_callV rfl (hg x hm) (by repeat constructor) (by repeat constructor)) ?_
  rintro _ _ ⟨_, ⟨rfl, rfl⟩, rfl⟩
  refine Lnt (Gs.cond rfl (fun hc1 => ?_) (fun hc1 => ?_))
  ·
   have hyes : ls.any q = true := List.any_eq_true.2 ⟨x, hm, hc1⟩
   refine Gsr (Lmv rfl rfl (Las rfl rfl (Lnt (Gs.ret (Gs.blk_r (Gr (Gr (Gs.blk_r (Gr ?_)))))))))
   exact Gs.fin1 Tryz.results253 rfl _ (⟨⟨_, rfl, by rw [hyes]; exact decide_eq_true (by omega)⟩, rfl⟩) (by repeat constructor)
  have hno : (ls.take (i + 1)).any q = false := by rw [List.take_add_one, hx, List.any_append, hq]; simp [hc1]
  refine Gs.skip (Gs.blk_n (Gn (Gs.reg (Lq rfl (by first | exact pu_addI rfl rfl rfl (by omega) (by omega) | exact pu_add rfl rfl) ?_))))
  refine Lmv rfl rfl (Lnt ?_)
  exact Ag (i + 1) ⟨hlt, hno⟩ (by show ls.length - (i + 1) < ls.length - i; omega)
 have hge : i = ls.length := by have := of_decide_eq_false hc0; omega
 rw [hge, List.take_length] at hq
 refine Gs.exit (Gx (Gx (Gs.blk_hit (Gn (Gsr (Las rfl rfl (Lnt (Gs.ret ?_))))))))
 exact Gs.fin1 Tryz.results253 rfl _ (⟨⟨_, rfl, by rw [hq]; rfl⟩, rfl⟩) (by repeat constructor)
theorem containsLL_spec {S : HProp} {g : FuncId} {q : SlV PostV → Bool} {a : Option Addr} {c : Nat} {ls : List (SlV PostV)} (hS : Srd S 1 slC a ls) (hg : ∀ l ∈ ls, Ct Tryz.prog g ([] ++ [.slice l.a l.xs.length l.c] ++ []) [S] (fun v hs => v = .bool (q l) ∧ hs = [S])) (hl : ls.length ≤ 1000) :
   Ct Tryz.prog 208 [.slice a ls.length c, .func (.func g) #[] #[]] [S] (fun v hs => v = .bool (ls.any q) ∧ hs = [S]) := by
 refine Cti Tryz.func208 (by kernel_rfl) 9 Tryz.ntmps208 rfl rfl fun w0 R => ?_
 refine Gsr (Las rfl rfl (Lnt (Gsr (Lmv rfl rfl (Lmv rfl rfl (La rfl (asC (indexLL_spec hS hg hl)) ?_))))))
 rintro _ _ ⟨_, ⟨⟨z, rfl, hz⟩, rfl⟩, rfl⟩
 refine Lq rfl (pu_ge rfl rfl) (Las rfl rfl (Lnt (Gs.ret ?_)))
 exact Gs.fin1 Tryz.results208 rfl _ (⟨by rw [← hz], rfl⟩) (by repeat constructor)
theorem odd_spec {S : HProp} {a : Option Addr} {c : Nat} {ls : List (SlV PostV)} (hS : LRd S a ls) (hl : ls.length ≤ 1000) :
   Ct Tryz.prog 166 [.slice a ls.length c] [S] (fun v hs => v = .bool (!mayAll (plain2 ls)) ∧ hs = [S]) := by
 have e : ls.any (fun l => !mayB (plain1 l.xs)) = !mayAll (plain2 ls) := by simp [mayAll, List.all_map, List.not_all_eq_any_not, Function.comp_def]
 refine Cti Tryz.func166 (by kernel_rfl) 5 Tryz.ntmps166 rfl rfl fun w0 R => ?_
 refine Gsr (Las rfl rfl (Lnt (Gsr (Lmv rfl rfl (La rfl (asC (containsLL_spec (q := fun l => !mayB (plain1 l.xs)) hS.1 (fun l h => odd1_spec (hS.2 l h).1 (hS.2 l h).2) hl)) ?_)))))
 rintro _ _ ⟨_, ⟨rfl, rfl⟩, rfl⟩
 refine Las rfl rfl (Lnt (Gs.ret ?_))
 exact Gs.fin1 Tryz.results166 rfl _ (⟨by rw [e], rfl⟩) (by repeat constructor)
end Go.Proofs.YtklgiidfompdpaaGreatDoor
namespace Go.Proofs.YtklgiidfompdpaaGreatDoor
open Go Go.Sl Go.Gv Go.Po
set_option maxRecDepth 100000
theorem order_spec (p : PostV) (k : Key) : Ct Tryz.prog 102 [postV p, keyV k] [] (fun v hs => v = int (ordZ p.k k) ∧ hs = []) := by
 refine Cti Tryz.func102 (by kernel_rfl) 15 Tryz.ntmps102 rfl rfl fun w0 R => ?_
 refine Gsr (La rfl (ac_box rfl rfl) ?_)
 rintro _ _ ⟨pb, rfl, rfl⟩
 refine La rfl (ac_box rfl rfl) ?_
 rintro _ _ ⟨kb, rfl, rfl⟩
 refine Las rfl rfl (Lnt (Gs.seq (Gs.block (Gsr (Lq rfl (pu_fa fa_106_0 rfl) (Lr rfl (rd_lda ag_28 rfl (Rdc.cl 2 (by repeat constructor) rfl) rfl) ?_))))))
 refine Lr rfl (rd_lda ag_28 rfl (Rdc.cl 2 (by repeat constructor) rfl) rfl) ?_
 refine La rfl (asC (beforeR_spec p.k k)) ?_
 rintro _ _ ⟨_, ⟨rfl, rfl⟩, rfl⟩
 refine Las rfl rfl (Lnt (Gs.cond rfl (fun hc0 => ?_) (fun hc0 => ?_)))
 ·
  refine Gsr (Las rfl rfl (Lnt (Gs.ret (Gs.blk_r (Gr ?_)))))
  exact Gs.fin1 Tryz.results102 rfl _ (⟨by simp [ordZ, hc0], rfl⟩) (by repeat constructor)
 refine Gsr (Lr rfl (rd_lda ag_28 rfl (Rdc.cl 2 (by repeat constructor) rfl) rfl) ?_)
 refine Lq rfl (pu_fa fa_106_0 rfl) (Lr rfl (rd_lda ag_28 rfl (Rdc.cl 2 (by repeat constructor) rfl) rfl) ?_)
 refine La rfl (asC (beforeR_spec k p.k)) ?_
 rintro _ _ ⟨_, ⟨rfl, rfl⟩, rfl⟩
 refine Las rfl rfl (Lnt (Gs.cond rfl (fun hc1 => ?_) (fun hc1 => ?_)))
 ·
  refine Gsr (Las rfl rfl (Lnt (Gs.ret (Gs.blk_r (Gr ?_)))))
  exact Gs.fin1 Tryz.results102 rfl _ (⟨by simp [ordZ, hc0, hc1], rfl⟩) (by repeat constructor)
 refine Gs.skip (Gs.blk_n (Gn (Gsr (Las rfl rfl (Lnt (Gs.ret ?_))))))
 exact Gs.fin1 Tryz.results102 rfl _ (⟨by simp [ordZ, hc0, hc1], rfl⟩) (by repeat constructor)
theorem ordZ_lt {a k : Key} : decide (ordZ a k < 0) = before a k := by
 unfold ordZ; split
 · rename_i h; rw [h]; rfl
 · rename_i h
   have : before a k = false := by simpa using h
   rw [this]; split <;> rfl
theorem ordZ_eq {a k : Key} : decide (ordZ a k = 0) = decide (a = k) := by
 unfold ordZ; split
 · rename_i h
   have : a ≠ k := fun e => by rw [e, before_irr] at h; cases h
   simp [this]
 · rename_i h
   split
   · rename_i h2
     have : a ≠ k := fun e => by rw [e, before_irr] at h2; cases h2
     simp [this]
   · rename_i h2
     have : a = k := Classical.byContradiction fun hne => by rcases before_total hne with h3 | h3; exact h h3; exact h2 h3
     simp [this]
theorem half {i j : Nat} (hj : i + j ≤ 100000) : IntKind.i64.wrap (shrK .u64 (IntKind.u64.wrap ((i : Int) + (j : Int))) 1) = (((i + j) / 2 : Nat) : Int) := by
 have h1 : IntKind.u64.wrap ((i : Int) + (j : Int)) = (i : Int) + (j : Int) := by simp [IntKind.wrap, IntKind.bits, IntKind.signed]; omega
 rw [h1]
 have h2 : shrK .u64 ((i : Int) + (j : Int)) 1 = ((i : Int) + (j : Int)) / 2 := by
   show ((i : Int) + (j : Int)).fdiv (2 ^ 1) = _
   rw [Int.fdiv_eq_ediv_of_nonneg _ (by decide)]; rfl
 rw [h2, wrap_in (by omega) (by omega)]; omega
abbrev orderV : Value := .func (.func 102) #[] #[]
theorem bsf_spec {S : HProp} {a : Option Addr} {c : Nat} {ps : List PostV} (hS : Srd S 3 postC a ps) (hl : ps.length ≤ 1000) (hasc : ((ps.map PostV.p).map Prod.fst).Pairwise (fun a b => before a b = true)) (k : Key) :
   Ct Tryz.prog 101 [.slice a ps.length c, keyV k, orderV] [S] (fun v hs => (∃ i : Nat, v = .tuple #[int i, .bool (decide (ps[i]?.map PostV.k = some k))] ∧ cutI ps k i) ∧ hs = [S]) := by
 have hg : ∀ (p : PostV) (k : Key), Ct Tryz.prog 102 ([] ++ [postV p, keyV k] ++ []) [] (fun v hs => v = int (ordZ p.k k) ∧ hs = []) := fun p k => order_spec p k
 refine Cti Tryz.func101 (by kernel_rfl) 49 Tryz.ntmps101 rfl rfl fun w0 R => ?_
 refine Gs.slAddr (hS.h (by repeat constructor)) fun ab ao ha => ?_
 refine Gsr (La rfl (ac_box rfl rfl) ?_)
 rintro _ _ ⟨kb, rfl, rfl⟩
 refine Las rfl rfl (Las rfl rfl (Lnt (Gsr (Lmv rfl rfl (Lq rfl (pu_len Tryz.underlying94 rfl) (Las rfl rfl (Lnt (Gsr (Lmv rfl rfl (Las rfl rfl (Las rfl rfl ?_)))))))))))
 refine Lnt (Gs.seq (Gs.block (Gs.loop1 (fun s : Nat × Nat => s.1 ≤ s.2 ∧ s.2 ≤ ps.length ∧ (∀ m x, m < s.1 → ps[m]? = some x → before x.k k = true) ∧ (∀ m x, s.2 ≤ m → ps[m]? = some x → before x.k k = false)) (fun s => [(0, .slice a ps.length c), (2, orderV), (4, ptr kb), (8, int ps.length), (9, int s.1), (10, int s.2)]) (fun s => [S, cl kb 28 (keyC k)] ++ R) (fun s => s.2 - s.1) (0, ps.length) (⟨Nat.zero_le _, Nat.le_refl _, fun m x h => by omega, fun m x h hx => by have := (List.getElem?_eq_some_iff.1 hx).1; omega⟩) (by repeat constructor) (by repeat constructor) (fun s hs => ?_))))
 obtain ⟨i, j⟩ := s
 obtain ⟨hij, hj, hlo, hhi⟩ := hs
 dsimp only at hij hj hlo hhi ⊢
 refine Gs.seq (Gsr (Lmv rfl rfl (Lmv rfl rfl (Lq rfl (pu_lt rfl rfl) (Lnt (Gs.cond rfl (fun hc0 => ?_) (fun hc0 => ?_)))))))
 ·
  have hlt : i < j := by have := of_decide_eq_true hc0; omega
  obtain ⟨y, hy⟩ : ∃ x, ps[(i + j) / 2]? = some x := ⟨ps[(i + j) / 2]'(by omega), by simp⟩
  obtain rfl := ha (by rintro rfl; simp at hy)
  refine Gs.skip (Gn (Gs.block (Gsr (Lmv rfl rfl (Lmv rfl rfl (Lq rfl (by first | exact pu_addI rfl rfl rfl (by omega) (by omega) | exact pu_add rfl rfl) ?_))))))
  refine Lq rfl (pu_conv Tryz.underlying3 Tryz.underlying185 rfl) (Lq rfl (pu_shr rfl rfl (by omega)) (Lq rfl (pu_conv Tryz.underlying185 Tryz.underlying3 rfl) ?_))
  rw [half (by omega)]
  refine Las rfl rfl (Lnt (Gs.seq (Gs.regD mixed (by kernel_rfl) (Rmv 0 rfl (by kernel_rfl) rfl (Rmv 1 rfl (by kernel_rfl) rfl (Rmv 2 rfl (by kernel_rfl) rfl (Rq 3 rfl (by kernel_rfl) (pu_ia se_94 rfl rfl (by omega) (by omega)) (Rr 4 rfl (by kernel_rfl) (rd_lda ag_106 rfl (Rdc.el0 (hS.h (by repeat constructor)) hy rfl rfl) rfl) ?_))))))))
  refine Rr 5 rfl (by kernel_rfl) (rd_lda ag_28 rfl (Rdc.cl 2 (by repeat constructor) rfl) rfl) ?_
  refine Rg.one (by kernel_rfl) (Stp.ac 6 rfl rfl (by kernel_rfl) trivial (as_callV rfl (hg y k) (by repeat constructor) (by repeat constructor))  ?_)
  rintro _ _ ⟨_, ⟨rfl, rfl⟩, rfl⟩
  refine Rq 7 rfl (by kernel_rfl) (pu_lt rfl rfl) (Rg.end (by kernel_rfl) (Gn (Gs.cond rfl (fun hc1 => ?_) (fun hc1 => ?_))))
  ·
   have hby : before y.k k = true := by rw [← ordZ_lt]; exact hc1
   have hlo2 : ∀ m x, m < (i + j) / 2 + 1 → ps[m]? = some x → before x.k k = true := fun m x hm hx => by
     rcases Nat.lt_or_eq_of_le (Nat.lt_succ_iff.1 hm) with h | h
     · exact before_trans (asc_lt hasc h hx hy) hby
     · subst h; rw [hy] at hx; cases hx; exact hby
   refine Gs.reg (Lmv rfl rfl (Lq rfl (pu_addI (z := (((i + j) / 2 + 1 : Nat) : Int)) rfl rfl (by omega) (by omega) (by omega)) ?_))
   refine Las rfl rfl (Lnil (Gs.blk_n (Gn ?_)))
   first | exact Ag ((i + j) / 2 + 1, j) ⟨by show (i + j) / 2 + 1 ≤ j; omega, hj, hlo2, hhi⟩ (by show j - ((i + j) / 2 + 1) < j - i; omega) | exact Ag (i, (i + j) / 2) ⟨by show i ≤ (i + j) / 2; omega, by show (i + j) / 2 ≤ ps.length; omega, hlo, hhi2⟩ (by show (i + j) / 2 - i < j - i; omega)
  have hby : before y.k k = false := by rw [← ordZ_lt]; exact hc1
  have hhi2 : ∀ m x, (i + j) / 2 ≤ m → ps[m]? = some x → before x.k k = false := fun m x hm hx => by
    rcases Nat.lt_or_eq_of_le hm with h | h
    · cases hb : before x.k k with
      | false => rfl
      | true => rw [before_trans (asc_lt hasc h hy hx) hb] at hby; cases hby
    · subst h; rw [hy] at hx; cases hx; exact hby
  refine Gs.reg (Lmv rfl rfl (Las rfl rfl (Lnil (Gs.blk_n (Gn ?_)))))
  first | exact Ag ((i + j) / 2 + 1, j) ⟨by show (i + j) / 2 + 1 ≤ j; omega, hj, hlo2, hhi⟩ (by show j - ((i + j) / 2 + 1) < j - i; omega) | exact Ag (i, (i + j) / 2) ⟨by show i ≤ (i + j) / 2; omega, by show (i + j) / 2 ≤ ps.length; omega, hlo, hhi2⟩ (by show (i + j) / 2 - i < j - i; omega)
 have hge : i = j := by have := of_decide_eq_false hc0; omega
 subst hge
 refine Gs.exit (Gx (Gx (Gs.blk_hit (Gn (Gs.seq (Gs.regD mixed (by kernel_rfl) (Rmv 0 rfl (by kernel_rfl) rfl (Rmv 1 rfl (by kernel_rfl) rfl (Rmv 2 rfl (by kernel_rfl) rfl (Rq 3 rfl (by kernel_rfl) (pu_lt rfl rfl) (Rg.puB 4 rfl rfl (by kernel_rfl) trivial (pu_move rfl) (fun hg4 => ?_) (fun hg4 => ?_))))))))))))
 ·
  have hlt : i < ps.length := by have := of_decide_eq_true hg4; omega
  obtain ⟨y, hy⟩ : ∃ x, ps[i]? = some x := ⟨ps[i], by simp [hlt]⟩
  obtain rfl := ha (by rintro rfl; simp at hy)
  have hval : ps[i]?.map PostV.k = some y.k := by rw [hy]; rfl
  refine Rg.pu 5 rfl rfl (by kernel_rfl) ⟨_, rfl, rfl⟩ (pu_move rfl) (Rg.pu 6 rfl rfl (by kernel_rfl) ⟨_, rfl, rfl⟩ (pu_move rfl) (Rg.pu 7 rfl rfl (by kernel_rfl) ⟨_, rfl, rfl⟩ (pu_move rfl) (Rg.pu 8 rfl rfl (by kernel_rfl) ⟨_, rfl, rfl⟩ (pu_ia se_94 rfl rfl (by omega) (by omega)) (Rg.rd 9 rfl rfl (by kernel_rfl) ⟨_, rfl, rfl⟩ (rd_lda ag_106 rfl (Rdc.el0 (hS.h (by repeat constructor)) hy rfl rfl) rfl) ?_))))
  refine Rg.rd 10 rfl rfl (by kernel_rfl) ⟨_, rfl, rfl⟩ (rd_lda ag_28 rfl (Rdc.cl 2 (by repeat constructor) rfl) rfl) ?_
  refine Rg.one (by kernel_rfl) (Stp.ac 11 rfl rfl (by kernel_rfl) ⟨_, rfl, rfl⟩ (as_callV rfl (hg y k) (by repeat constructor) (by repeat constructor))  ?_)
  rintro _ _ ⟨_, ⟨rfl, rfl⟩, rfl⟩
  refine Rg.pu 12 rfl rfl (by kernel_rfl) ⟨_, rfl, rfl⟩ (pu_eq rfl rfl) (Rpk 13 rfl (by kernel_rfl) rfl rfl (Rq 14 rfl (by kernel_rfl) (pu_assign rfl) (Rq 15 rfl (by kernel_rfl) (pu_assign rfl) (Rg.end (by kernel_rfl) (Gn (Gs.ret ?_))))))
  exact Gs.fin2 Tryz.results101 rfl rfl _ (⟨⟨i, by first | (rw [hval, ordZ_eq]; simp; done) | (rw [hval]; simp), hj, hlo, hhi⟩, rfl⟩) (by repeat constructor)
 have hge : i = ps.length := by have := of_decide_eq_false hg4; omega
 have hval : ps[i]?.map PostV.k = none := by rw [hge]; simp
 refine Rof 5 rfl (by kernel_rfl) rfl (Rof 6 rfl (by kernel_rfl) rfl (Rof 7 rfl (by kernel_rfl) rfl (Rof 8 rfl (by kernel_rfl) rfl (Rof 9 rfl (by kernel_rfl) rfl (Rof 10 rfl (by kernel_rfl) rfl (Rof 11 rfl (by kernel_rfl) rfl (Rof 12 rfl (by kernel_rfl) rfl (Rpk 13 rfl (by kernel_rfl) rfl rfl (Rq 14 rfl (by kernel_rfl) (pu_assign rfl) (Rq 15 rfl (by kernel_rfl) (pu_assign rfl) (Rg.end (by kernel_rfl) ?_)))))))))))
 refine Gn (Gs.ret ?_)
 exact Gs.fin2 Tryz.results101 rfl rfl _ (⟨⟨i, by first | (rw [hval, ordZ_eq]; simp; done) | (rw [hval]; simp), hj, hlo, hhi⟩, rfl⟩) (by repeat constructor)
theorem pfind_spec {S : HProp} {a : Option Addr} {c : Nat} {ps : List PostV} (hS : Srd S 3 postC a ps) (hl : ps.length ≤ 1000) (hasc : ((ps.map PostV.p).map Prod.fst).Pairwise (fun a b => before a b = true)) (k : Key) :
   Ct Tryz.prog 167 [.slice a ps.length c, keyV k] [S] (fun v hs => v = .tuple #[postV ((lookP ps k).getD PostV.zero), .bool (lookP ps k).isSome] ∧ hs = [S]) := by
 refine Cti Tryz.func167 (by kernel_rfl) 21 Tryz.ntmps167 rfl rfl fun w0 R => ?_
 refine Gs.slAddr (hS.h (by repeat constructor)) fun ab ao ha => ?_
 refine Gsr (La rfl (ac_box rfl rfl) ?_)
 rintro _ _ ⟨kb, rfl, rfl⟩
 refine La rfl (ac_alloc zv_106 rfl) ?_
 rintro _ _ ⟨ob, rfl, rfl⟩
 refine Las rfl rfl (Lnt (Gsr (Lmv rfl rfl (Lr rfl (rd_lda ag_28 rfl (Rdc.cl 2 (by repeat constructor) rfl) rfl) ?_))))
 refine La rfl (asC (bsf_spec hS hl hasc k)) ?_
 rintro _ _ ⟨_, ⟨⟨i, rfl, hcut⟩, rfl⟩, rfl⟩
 refine Lmv rfl rfl (Lq rfl (pu_extract rfl rfl) (Lq rfl (pu_extract rfl rfl) (Las rfl rfl (Las rfl rfl (Lnt (Gs.seq (Gsr (Lmv rfl rfl (Lq rfl (pu_not rfl) (Lnt (Gs.cond rfl (fun hc0 => ?_) (fun hc0 => ?_))))))))))))
 ·
  have hno : lookP ps k = none := (cut_look hcut hasc).2 fun x hx e => by have h := not_t hc0; rw [hx] at h; simp [e] at h
  refine Gsr (Lq rfl (pu_build bd_106 (by repeat constructor) rfl) ?_)
  refine Lac0 rfl trivial (ac_st sz_106 rfl rfl (by repeat constructor) rfl rfl rfl rfl) ?_
  rintro _ _ rfl
  refine Las rfl rfl (Lnt (Gs.ret (Gr ?_)))
  exact Gs.finc2 Tryz.results167 ag_106 rfl (Rdc.cl 3 (by repeat constructor) rfl) rfl rfl _ (⟨by rw [hno]; rfl, rfl⟩) (by repeat constructor)
 have hyes := of_decide_eq_true (not_f hc0)
 obtain ⟨y, hy, hyk⟩ := Option.map_eq_some_iff.1 hyes
 have hlk := (cut_look hcut hasc).1 y hy hyk
 have hlt := (List.getElem?_eq_some_iff.1 hy).1
 obtain rfl := ha (by rintro rfl; simp at hy)
 refine Gs.skip (Gn (Gsr (Lmv rfl rfl (Lmv rfl rfl (Lq rfl (pu_ia se_94 rfl rfl (by omega) (by omega)) (Lr rfl (rd_lda ag_106 rfl (Rdc.el0 (hS.h (by repeat constructor)) hy rfl rfl) rfl) ?_))))))
 refine Lac0 rfl trivial (ac_st sz_106 rfl rfl (by repeat constructor) rfl rfl rfl rfl) ?_
 rintro _ _ rfl
 refine Las rfl rfl (Lnt (Gs.ret ?_))
 exact Gs.finc2 Tryz.results167 ag_106 rfl (Rdc.cl 3 (by repeat constructor) rfl) rfl rfl _ (⟨by rw [hlk]; rfl, rfl⟩) (by repeat constructor)
end Go.Proofs.YtklgiidfompdpaaGreatDoor
namespace Go.Po
open Go Go.Sl Go.Gv
theorem rises_pw : ∀ {a : Int} {l : List Int}, risesFrom a l = true → l.Pairwise (· < ·) ∧ ∀ x ∈ l, a < x
 | _, [], _ => ⟨List.Pairwise.nil, fun _ h => (by cases h)⟩
 | a, n :: l, h => by
   simp only [risesFrom, Bool.and_eq_true, decide_eq_true_eq] at h
   obtain ⟨h1, h2⟩ := rises_pw h.2
   refine ⟨List.pairwise_cons.2 ⟨h2, h1⟩, fun x hx => ?_⟩
   rcases List.mem_cons.1 hx with rfl | hx
   · exact h.1
   · have := h2 x hx; omega
theorem pw_lt {l : List Int} (h : l.Pairwise (· < ·)) {i j : Nat} {x y : Int} (hij : i < j) (hx : l[i]? = some x) (hy : l[j]? = some y) : x < y := by
 obtain ⟨h1, rfl⟩ := List.getElem?_eq_some_iff.1 hx
 obtain ⟨h2, rfl⟩ := List.getElem?_eq_some_iff.1 hy
 exact List.pairwise_iff_getElem.1 h i j h1 h2 hij
theorem cut_mem {l : List Int} {z : Int} {i : Nat} (hlo : ∀ m x, m < i → l[m]? = some x → x < z) (hhi : ∀ m x, i ≤ m → l[m]? = some x → ¬ x < z) (hpw : l.Pairwise (· < ·)) : decide (z ∈ l) = decide (l[i]? = some z) := by
 refine decide_eq_decide.2 ⟨fun h => ?_, fun h => List.mem_of_getElem? h⟩
 obtain ⟨m, hm⟩ := List.mem_iff_getElem?.1 h
 rcases Nat.lt_or_ge m i with hlt | hge
 · have := hlo m z hlt hm; omega
 · rcases Nat.lt_or_eq_of_le hge with hlt | heq
   · have hl : m < l.length := (List.getElem?_eq_some_iff.1 hm).1
     have hi : l[i]? = some l[i] := by simp [show i < l.length by omega]
     have h1 := pw_lt hpw hlt hi hm
     exact (hhi i _ (Nat.le_refl i) hi h1).elim
   · rw [heq]; exact hm
def stepsFrom (a : Int) : Nat → List (List Int) → Bool
 | _, [] => true
 | i, l :: ls => decide (IntKind.i64.wrap (a + (i : Int)) ∈ l) && stepsFrom a (i + 1) ls
def followB : List (List Int) → Bool
 | [] => false
 | l :: ls => l.any fun a => stepsFrom a 0 (l :: ls)
theorem steps_snoc (a : Int) : ∀ (i : Nat) (ls : List (List Int)) (l : List Int), stepsFrom a i (ls ++ [l]) = (stepsFrom a i ls && decide (IntKind.i64.wrap (a + ((i + ls.length : Nat) : Int)) ∈ l))
 | i, [], l => by simp only [List.nil_append, stepsFrom, List.length_nil, Nat.add_zero, Bool.and_true, Bool.true_and]
 | i, m :: ls, l => by
   have h := steps_snoc a (i + 1) ls l
   simp only [List.cons_append, stepsFrom, h, List.length_cons, Bool.and_assoc]
   rw [show i + 1 + ls.length = i + (ls.length + 1) by omega]
theorem steps_take {a : Int} {ls : List (List Int)} {i : Nat} {l : List Int} (h : ls[i]? = some l) : stepsFrom a 0 (ls.take (i + 1)) = (stepsFrom a 0 (ls.take i) && decide (IntKind.i64.wrap (a + (i : Int)) ∈ l)) := by
 have hl := (List.getElem?_eq_some_iff.1 h).1
 rw [List.take_add_one, h]
 have := steps_snoc a 0 (ls.take i) l
 rw [List.length_take, Nat.zero_add, Nat.min_eq_left (by omega)] at this
 exact this
theorem steps_cut {a : Int} : ∀ {i : Nat} {ls ms : List (List Int)}, stepsFrom a i (ls ++ ms) = true → stepsFrom a i ls = true
 | _, [], _, _ => rfl
 | i, l :: ls, ms, h => by
   simp only [List.cons_append, stepsFrom, Bool.and_eq_true] at h ⊢
   exact ⟨h.1, steps_cut h.2⟩
theorem steps_not {a : Int} {ls : List (List Int)} {i : Nat} (h : stepsFrom a 0 (ls.take i) = false) : stepsFrom a 0 ls = false := by
 cases hr : stepsFrom a 0 ls with
 | false => rfl
 | true =>
   rw [← List.take_append_drop i ls] at hr
   rw [steps_cut hr] at h; cases h
end Go.Po
namespace Go.Proofs.YtklgiidfompdpaaGreatDoor
open Go Go.Sl Go.Gv Go.Po
set_option maxRecDepth 100000
theorem nan1_spec (z : Int) : Ct Tryz.prog 257 [int z] [] (fun v hs => v = .bool false ∧ hs = []) := by
 refine Cti Tryz.func257 (by kernel_rfl) 6 Tryz.ntmps257 rfl rfl fun w0 R => ?_
 refine Gsr (Las rfl rfl (Lnt (Gsr (Lmv rfl rfl (Lmv rfl rfl (Lq rfl (pu_ne rfl rfl) (Las rfl rfl (Lnt (Gs.ret ?_)))))))))
 exact Gs.fin1 Tryz.results257 rfl _ (⟨by simp, rfl⟩) (by repeat constructor)
theorem nan2_spec (z : Int) : Ct Tryz.prog 229 [int z] [] (fun v hs => v = .bool false ∧ hs = []) := by
 refine Cti Tryz.func229 (by kernel_rfl) 6 Tryz.ntmps229 rfl rfl fun w0 R => ?_
 refine Gsr (Las rfl rfl (Lnt (Gsr (Lmv rfl rfl (Lmv rfl rfl (Lq rfl (pu_ne rfl rfl) (Las rfl rfl (Lnt (Gs.ret ?_)))))))))
 exact Gs.fin1 Tryz.results229 rfl _ (⟨by simp, rfl⟩) (by repeat constructor)
theorem less_spec (x y : Int) : Ct Tryz.prog 217 [int x, int y] [] (fun v hs => v = .bool (decide (x < y)) ∧ hs = []) := by
 refine Cti Tryz.func217 (by kernel_rfl) 17 Tryz.ntmps217 rfl rfl fun w0 R => ?_
 refine Gsr (Las rfl rfl (Lnt (Gsr (Lmv rfl rfl (La rfl (asC (nan1_spec x)) ?_)))))
 rintro _ _ ⟨_, ⟨rfl, rfl⟩, rfl⟩
 refine LpuBf rfl rfl trivial (pu_move rfl) rfl (Lof rfl (Lof rfl (Lof rfl (Lpk rfl rfl rfl (LpuBf rfl rfl trivial (pu_move rfl) rfl (Lpu rfl rfl ⟨_, rfl, rfl⟩ (pu_move rfl) (Lpu rfl rfl ⟨_, rfl, rfl⟩ (pu_move rfl) (Lpu rfl rfl ⟨_, rfl, rfl⟩ (pu_lt rfl rfl) (Lpk rfl rfl rfl (Las rfl rfl (Lnt ?_)))))))))))
 refine Gs.ret ?_
 exact Gs.fin1 Tryz.results217 rfl _ (⟨rfl, rfl⟩) (by repeat constructor)
theorem bsearch_spec {S : HProp} {a : Option Addr} {c : Nat} {l : List Int} (hS : Srd S 1 intC a l) (hl : l.length ≤ 1000) (hpw : l.Pairwise (· < ·)) (z : Int) :
   Ct Tryz.prog 175 [.slice a l.length c, int z] [S] (fun v hs => (∃ i : Nat, v = .tuple #[int i, .bool (decide (z ∈ l))]) ∧ hs = [S]) := by
 refine Cti Tryz.func175 (by kernel_rfl) 54 Tryz.ntmps175 rfl rfl fun w0 R => ?_
 refine Gs.slAddr (hS.h (by repeat constructor)) fun ab ao ha => ?_
 refine Gsr (Las rfl rfl (Las rfl rfl (Lnt (Gsr (Lmv rfl rfl (Lq rfl (pu_len Tryz.underlying99 rfl) (Las rfl rfl (Lnt (Gsr (Lmv rfl rfl (Las rfl rfl ?_)))))))))))
 refine Las rfl rfl (Lnt (Gs.seq (Gs.block (Gs.loop1 (fun s : Nat × Nat => s.1 ≤ s.2 ∧ s.2 ≤ l.length ∧ (∀ m x, m < s.1 → l[m]? = some x → x < z) ∧ (∀ m x, s.2 ≤ m → l[m]? = some x → ¬ x < z)) (fun s => [(0, .slice a l.length c), (1, int z), (6, int l.length), (7, int s.1), (8, int s.2)]) (fun s => [S] ++ R) (fun s => s.2 - s.1) (0, l.length) (⟨Nat.zero_le _, Nat.le_refl _, fun m x h => by omega, fun m x h hx => by have := (List.getElem?_eq_some_iff.1 hx).1; omega⟩) (by repeat constructor) (by repeat constructor) (fun s hs => ?_)))))
 obtain ⟨i, j⟩ := s
 obtain ⟨hij, hj, hlo, hhi⟩ := hs
 dsimp only at hij hj hlo hhi ⊢
 refine Gs.seq (Gsr (Lmv rfl rfl (Lmv rfl rfl (Lq rfl (pu_lt rfl rfl) (Lnt (Gs.cond rfl (fun hc0 => ?_) (fun hc0 => ?_)))))))
 ·
  have hlt : i < j := by have := of_decide_eq_true hc0; omega
  obtain ⟨y, hy⟩ : ∃ x, l[(i + j) / 2]? = some x := ⟨l[(i + j) / 2]'(by omega), by simp⟩
  obtain rfl := ha (by rintro rfl; simp at hy)
  refine Gs.skip (Gn (Gs.block (Gsr (Lmv rfl rfl (Lmv rfl rfl (Lq rfl (by first | exact pu_addI rfl rfl rfl (by omega) (by omega) | exact pu_add rfl rfl) ?_))))))
  refine Lq rfl (pu_conv Tryz.underlying3 Tryz.underlying185 rfl) (Lq rfl (pu_shr rfl rfl (by omega)) (Lq rfl (pu_conv Tryz.underlying185 Tryz.underlying3 rfl) ?_))
  rw [half (by omega)]
  refine Las rfl rfl (Lnt (Gsr (Lmv rfl rfl (Lmv rfl rfl (Lq rfl (pu_ia se_99 rfl rfl (by omega) (by omega)) (Lr rfl (rd_ld na_3 rfl (Rdc.el0 (hS.h (by repeat constructor)) hy rfl rfl)) ?_))))))
  refine Lmv rfl rfl (La rfl (asC (less_spec y z)) ?_)
  rintro _ _ ⟨_, ⟨rfl, rfl⟩, rfl⟩
  refine Lnt (Gs.cond rfl (fun hc1 => ?_) (fun hc1 => ?_))
  ·
   have hby : y < z := of_decide_eq_true hc1
   have hlo2 : ∀ m x, m < (i + j) / 2 + 1 → l[m]? = some x → x < z := fun m x hm hx => by
     rcases Nat.lt_or_eq_of_le (Nat.lt_succ_iff.1 hm) with h | h
     · have := pw_lt hpw h hx hy; omega
     · subst h; rw [hy] at hx; cases hx; exact hby
   refine Gs.reg (Lmv rfl rfl (Lq rfl (pu_addI (z := (((i + j) / 2 + 1 : Nat) : Int)) rfl rfl (by omega) (by omega) (by omega)) ?_))
   refine Las rfl rfl (Lnil (Gs.blk_n (Gn ?_)))
   first | exact Ag ((i + j) / 2 + 1, j) ⟨by show (i + j) / 2 + 1 ≤ j; omega, hj, hlo2, hhi⟩ (by show j - ((i + j) / 2 + 1) < j - i; omega) | exact Ag (i, (i + j) / 2) ⟨by show i ≤ (i + j) / 2; omega, by show (i + j) / 2 ≤ l.length; omega, hlo, hhi2⟩ (by show (i + j) / 2 - i < j - i; omega)
  have hby : ¬ y < z := of_decide_eq_false hc1
  have hhi2 : ∀ m x, (i + j) / 2 ≤ m → l[m]? = some x → ¬ x < z := fun m x hm hx => by
    rcases Nat.lt_or_eq_of_le hm with h | h
    · have := pw_lt hpw h hy hx; omega
    · subst h; rw [hy] at hx; cases hx; exact hby
  refine Gs.reg (Lmv rfl rfl (Las rfl rfl (Lnil (Gs.blk_n (Gn ?_)))))
  first | exact Ag ((i + j) / 2 + 1, j) ⟨by show (i + j) / 2 + 1 ≤ j; omega, hj, hlo2, hhi⟩ (by show j - ((i + j) / 2 + 1) < j - i; omega) | exact Ag (i, (i + j) / 2) ⟨by show i ≤ (i + j) / 2; omega, by show (i + j) / 2 ≤ l.length; omega, hlo, hhi2⟩ (by show (i + j) / 2 - i < j - i; omega)
 have hge : i = j := by have := of_decide_eq_false hc0; omega
 subst hge
 have hmem := cut_mem hlo hhi hpw
 refine Gs.exit (Gx (Gx (Gs.blk_hit (Gn (Gsr (Lmv rfl rfl (Lmv rfl rfl (Lmv rfl rfl (Lq rfl (pu_lt rfl rfl) (LpuB rfl rfl trivial (pu_move rfl) (fun hg4 => ?_) (fun hg4 => ?_)))))))))))
 ·
  have hlt : i < l.length := by have := of_decide_eq_true hg4; omega
  obtain ⟨y, hy⟩ : ∃ x, l[i]? = some x := ⟨l[i], by simp [hlt]⟩
  obtain rfl := ha (by rintro rfl; simp at hy)
  rw [hy] at hmem
  refine Lpu rfl rfl ⟨_, rfl, rfl⟩ (pu_move rfl) (Lpu rfl rfl ⟨_, rfl, rfl⟩ (pu_move rfl) (Lpu rfl rfl ⟨_, rfl, rfl⟩ (pu_ia se_99 rfl rfl (by omega) (by omega)) (Lrd rfl rfl ⟨_, rfl, rfl⟩ (rd_ld na_3 rfl (Rdc.el0 (hS.h (by repeat constructor)) hy rfl rfl)) ?_)))
  refine Lpu rfl rfl ⟨_, rfl, rfl⟩ (pu_move rfl) (Lpu rfl rfl ⟨_, rfl, rfl⟩ (pu_eq rfl rfl) (LpuB rfl rfl ⟨_, rfl, rfl⟩ (pu_move rfl) (fun hg11 => ?_) (fun hg11 => ?_)))
  ·
   have hyz : y = z := of_decide_eq_true hg11
   refine Lof rfl (Lof rfl (Lof rfl (Lof rfl (Lof rfl (Lof rfl (LoffU rfl rfl rfl rfl rfl (LoffU rfl rfl rfl rfl rfl (Lof rfl (Lpu rfl rfl ⟨_, rfl, rfl⟩ (by first | exact pu_pick_t rfl rfl | exact pu_pick_f rfl rfl) ?_)))))))))
   refine Lpk rfl rfl rfl (Las rfl rfl (Las rfl rfl (Lnt (Gs.ret ?_))))
   exact Gs.fin2 Tryz.results175 rfl rfl _ (⟨⟨i, by rw [hmem]; first | simp [hyz] | simp⟩, rfl⟩) (by repeat constructor)
  have hyz : ¬ y = z := of_decide_eq_false hg11
  refine Lpu rfl rfl ⟨_, rfl, rfl⟩ (pu_move rfl) (Lpu rfl rfl ⟨_, rfl, rfl⟩ (pu_move rfl) (Lpu rfl rfl ⟨_, rfl, rfl⟩ (pu_ia se_99 rfl rfl (by omega) (by omega)) (Lrd rfl rfl ⟨_, rfl, rfl⟩ (rd_ld na_3 rfl (Rdc.el0 (hS.h (by repeat constructor)) hy rfl rfl)) ?_)))
  refine Lac rfl rfl ⟨_, rfl, rfl⟩ (asC (nan2_spec y)) ?_
  rintro _ _ ⟨_, ⟨rfl, rfl⟩, rfl⟩
  refine LpuBf rfl rfl ⟨_, rfl, rfl⟩ (pu_move rfl) rfl (Lof rfl (Lof rfl (Lpu rfl rfl ⟨_, rfl, rfl⟩ (by first | exact pu_pick_t rfl rfl | exact pu_pick_f rfl rfl) ?_)))
  refine Lpu rfl rfl ⟨_, rfl, rfl⟩ (by first | exact pu_pick_t rfl rfl | exact pu_pick_f rfl rfl) ?_
  refine Lpk rfl rfl rfl (Las rfl rfl (Las rfl rfl (Lnt (Gs.ret ?_))))
  exact Gs.fin2 Tryz.results175 rfl rfl _ (⟨⟨i, by rw [hmem]; first | simp [hyz] | simp⟩, rfl⟩) (by repeat constructor)
 have hge : i = l.length := by have := of_decide_eq_false hg4; omega
 have hnone : l[i]? = none := by rw [hge]; simp
 rw [hnone] at hmem
 refine Lof rfl (Lof rfl (Lof rfl (Lof rfl (Lof rfl (Lof rfl (Lof rfl (LoffU rfl rfl rfl rfl rfl (LoffU rfl rfl rfl rfl rfl (LoffU rfl rfl rfl rfl rfl (LoffU rfl rfl rfl rfl rfl (LoffU rfl rfl rfl rfl rfl ?_)))))))))))
 refine LoffU rfl rfl rfl rfl rfl (LoffU rfl rfl rfl rfl rfl (LoffU rfl rfl rfl rfl rfl (LoffU rfl rfl rfl rfl rfl (Lof rfl (Lpk rfl rfl rfl (Las rfl rfl (Las rfl rfl (Lnt (Gs.ret ?_)))))))))
 exact Gs.fin2 Tryz.results175 rfl rfl _ (⟨⟨i, by rw [hmem]; first | simp [hyz] | simp⟩, rfl⟩) (by repeat constructor)
theorem indexI_spec {S : HProp} {F : HProp} {g : FuncId} {c1 : Value} {q : Int → Bool} {a : Option Addr} {c : Nat} {l : List Int} (hS : Srd S 1 intC a l) (hl : l.length ≤ 1000) (hg : ∀ x ∈ l, Ct Tryz.prog g ([] ++ [int x] ++ [c1]) [S, F] (fun v hs => v = .bool (q x) ∧ hs = [S, F])) :
   Ct Tryz.prog 228 [.slice a l.length c, .func (.func g) #[] #[c1]] [S, F] (fun v hs => (∃ z : Int, v = int z ∧ decide (0 ≤ z) = l.any q) ∧ hs = [S, F]) := by
 refine Cti Tryz.func228 (by kernel_rfl) 19 Tryz.ntmps228 rfl rfl fun w0 R => ?_
 refine Gs.slAddr (hS.h (by repeat constructor)) fun ab ao ha => ?_
 refine Gsr (Las rfl rfl (Lnt (Gs.seq (Gsr (Lmv rfl rfl (Lq rfl (pu_len Tryz.underlying99 rfl) (Lmv rfl rfl (Lnt (Gs.block (Gs.loop1 (fun i : Nat => i ≤ l.length ∧ (l.take i).any q = false) (fun i => [(0, .slice a l.length c), (1, .func (.func g) #[] #[c1]), (7, int l.length), (8, int i)]) (fun i => [S, F] ++ R) (fun i => l.length - i) 0 (⟨Nat.zero_le _, rfl⟩) (by repeat constructor) (by repeat constructor) (fun i ⟨hi, hq⟩ => ?_)))))))))))
 refine Gsr (Lq rfl (pu_lt rfl rfl) (Lnt (Gs.seq (Gs.cond rfl (fun hc0 => ?_) (fun hc0 => ?_)))))
 ·
  have hlt : i < l.length := by have := of_decide_eq_true hc0; omega
  obtain ⟨x, hx⟩ : ∃ x, l[i]? = some x := ⟨l[i], by simp [hlt]⟩
  obtain rfl := ha (by rintro rfl; simp at hlt)
  have hm := List.mem_of_getElem? hx
  refine Gs.skip (Gn (Gs.seq (Gs.block (Gsr (Lmv rfl rfl (Las rfl rfl (Lnt (Gsr (Lmv rfl rfl (Lmv rfl rfl (Lmv rfl rfl ?_)))))))))))
  refine Lq rfl (pu_ia se_99 rfl rfl (by omega) (by omega)) (Lr rfl (rd_ld na_3 rfl (Rdc.el0 (hS.h (by repeat constructor)) hx rfl rfl)) ?_)
  refine La rfl (as_callV rfl (hg x hm) (by repeat constructor) (by repeat constructor)) ?_
  rintro _ _ ⟨_, ⟨rfl, rfl⟩, rfl⟩
  refine Lnt (Gs.cond rfl (fun hc1 => ?_) (fun hc1 => ?_))
  ·
   have hyes : l.any q = true := List.any_eq_true.2 ⟨x, hm, hc1⟩
   refine Gsr (Lmv rfl rfl (Las rfl rfl (Lnt (Gs.ret (Gs.blk_r (Gr (Gr (Gs.blk_r (Gr ?_)))))))))
   exact Gs.fin1 Tryz.results228 rfl _ (⟨⟨_, rfl, by rw [hyes]; exact decide_eq_true (by omega)⟩, rfl⟩) (by repeat constructor)
  have hno : (l.take (i + 1)).any q = false := by rw [List.take_add_one, hx, List.any_append, hq]; simp [hc1]
  refine Gs.skip (Gs.blk_n (Gn (Gs.reg (Lq rfl (by first | exact pu_addI rfl rfl rfl (by omega) (by omega) | exact pu_add rfl rfl) ?_))))
  refine Lmv rfl rfl (Lnt ?_)
  exact Ag (i + 1) ⟨hlt, hno⟩ (by show l.length - (i + 1) < l.length - i; omega)
 have hge : i = l.length := by have := of_decide_eq_false hc0; omega
 rw [hge, List.take_length] at hq
 refine Gs.exit (Gx (Gx (Gs.blk_hit (Gn (Gsr (Las rfl rfl (Lnt (Gs.ret ?_))))))))
 exact Gs.fin1 Tryz.results228 rfl _ (⟨⟨_, rfl, by rw [hq]; rfl⟩, rfl⟩) (by repeat constructor)
theorem containsI_spec {S : HProp} {F : HProp} {g : FuncId} {c1 : Value} {q : Int → Bool} {a : Option Addr} {c : Nat} {l : List Int} (hS : Srd S 1 intC a l) (hl : l.length ≤ 1000) (hg : ∀ x ∈ l, Ct Tryz.prog g ([] ++ [int x] ++ [c1]) [S, F] (fun v hs => v = .bool (q x) ∧ hs = [S, F])) :
   Ct Tryz.prog 173 [.slice a l.length c, .func (.func g) #[] #[c1]] [S, F] (fun v hs => v = .bool (l.any q) ∧ hs = [S, F]) := by
 refine Cti Tryz.func173 (by kernel_rfl) 9 Tryz.ntmps173 rfl rfl fun w0 R => ?_
 refine Gsr (Las rfl rfl (Lnt (Gsr (Lmv rfl rfl (Lmv rfl rfl (La rfl (asC (indexI_spec hS hl hg)) ?_))))))
 rintro _ _ ⟨_, ⟨⟨z, rfl, hz⟩, rfl⟩, rfl⟩
 refine Lq rfl (pu_ge rfl rfl) (Las rfl rfl (Lnt (Gs.ret ?_)))
 exact Gs.fin1 Tryz.results173 rfl _ (⟨by rw [← hz], rfl⟩) (by repeat constructor)
end Go.Proofs.YtklgiidfompdpaaGreatDoor
namespace Go.Po
open Go Go.Sl Go.Gv
def foundV (ls : List (SlV PostV)) (k : Key) : List PostV := ls.filterMap fun l => lookP l.xs k
def eachV (q : List PostV → Bool) (ls : List (SlV PostV)) : List Key :=
 match ls with
 | [] => []
 | l0 :: r => if mayAll (ls.map fun l => l.xs.map PostV.p) then (l0.xs.filter fun p => decide ((p :: foundV r p.k).length = ls.length) && q (p :: foundV r p.k)).map PostV.k else []
theorem found_take {ls : List (SlV PostV)} {k : Key} {i : Nat} {l : SlV PostV} (h : ls[i]? = some l) : foundV (ls.take (i + 1)) k = foundV (ls.take i) k ++ (lookP l.xs k).toList := by
 rw [List.take_add_one, h]
 unfold foundV
 rw [List.filterMap_append]
 cases hl : lookP l.xs k <;> simp [hl]
theorem found_length (ls : List (SlV PostV)) (k : Key) : (foundV ls k).length ≤ ls.length := List.length_filterMap_le ..
theorem found_mem {ls : List (SlV PostV)} {k : Key} {p : PostV} (h : p ∈ foundV ls k) : ∃ l ∈ ls, p ∈ l.xs ∧ p.k = k := by
 obtain ⟨l, hl, hp⟩ := List.mem_filterMap.1 h
 exact ⟨l, hl, List.mem_of_find?_eq_some hp, by simpa using List.find?_some hp⟩
end Go.Po
namespace Go.Proofs.YtklgiidfompdpaaGreatDoor
open Go Go.Sl Go.Gv Go.Po
set_option maxRecDepth 100000
def AtOk (S : HProp) (p : PostV) : Prop := Srd S 1 intC p.t.a p.t.xs ∧ p.t.xs.length ≤ 1000 ∧ risesB p.t.xs = true
theorem AtOk.pw {S : HProp} {p : PostV} (h : AtOk S p) : p.t.xs.Pairwise (· < ·) := by
 have := h.2.2
 simp only [risesB, Bool.and_eq_true] at this
 exact (rises_pw this.1).1
theorem follow1_spec {S : HProp} {pb : Nat} {pa : Option Addr} {pc : Nat} {ps : List PostV} (hp : ∀ p ∈ ps, AtOk S p) (hl : ps.length ≤ 1000) (a : Int) :
   Ct Tryz.prog 174 ([] ++ [int a] ++ [ptr pb]) [S, two (cl pb 94 [.slice pa ps.length pc]) (sl 106 3 postC pa pc ps)]
     (fun v hs => v = .bool (stepsFrom a 0 (ps.map fun p => p.t.xs)) ∧ hs = [S, two (cl pb 94 [.slice pa ps.length pc]) (sl 106 3 postC pa pc ps)]) := by
 refine Cti Tryz.func174 (by kernel_rfl) 27 Tryz.ntmps174 rfl rfl fun w0 R => ?_
 refine Gs.take (.tl .hd) (Gs.two ?_)
 refine Gs.slAddr (SlH.own (by repeat constructor) : SlH _ _ 3 postC pa ps) fun ab ao ha => ?_
 refine Gsr (Las rfl rfl (Lnt (Gs.seq (Gsr (Lr rfl (rd_ld na_94 rfl (Rdc.cl1 (by repeat constructor) rfl)) ?_)))))
 refine Lq rfl (pu_len Tryz.underlying94 rfl) (Lmv rfl rfl (Lnt (Gs.block (Gs.loop1 (fun i : Nat => i ≤ ps.length ∧ stepsFrom a 0 ((ps.map fun p => p.t.xs).take i) = true) (fun i => [(0, int a), (1, ptr pb), (8, .slice pa ps.length pc), (9, int ps.length), (10, int i)]) (fun i => [cl pb 94 [.slice pa ps.length pc], sl 106 3 postC pa pc ps, S] ++ R) (fun i => ps.length - i) 0 (⟨Nat.zero_le _, rfl⟩) (by repeat constructor) (by repeat constructor) (fun i ⟨hi, hst⟩ => ?_)))))
 refine Gsr (Lq rfl (pu_lt rfl rfl) (Lnt (Gs.seq (Gs.cond rfl (fun hc0 => ?_) (fun hc0 => ?_)))))
 ·
  have hlt : i < ps.length := by have := of_decide_eq_true hc0; omega
  obtain ⟨x, hx⟩ : ∃ x, ps[i]? = some x := ⟨ps[i], by simp [hlt]⟩
  obtain rfl := ha (by rintro rfl; simp at hlt)
  have hat := hp x (List.mem_of_getElem? hx)
  have hxm : (ps.map fun p => p.t.xs)[i]? = some x.t.xs := by simp [hx]
  have hnx := steps_take (a := a) hxm
  rw [hst, Bool.true_and] at hnx
  refine Gs.skip (Gn (Gs.seq (Gs.block (Gsr (Lmv rfl rfl (Lq rfl (pu_ia se_94 rfl rfl (by omega) (by omega)) (Lr rfl (rd_lda ag_106 rfl (Rdc.el0 (SlH.own (by repeat constructor)) hx rfl rfl) rfl) ?_)))))))
  refine La rfl (ac_alloc zv_106 rfl) ?_
  rintro _ _ ⟨xb, rfl, rfl⟩
  refine Las rfl rfl (Lac0 rfl trivial (ac_st sz_106 rfl rfl (by repeat constructor) rfl rfl rfl rfl) ?_)
  rintro _ _ rfl
  refine Lnt (Gsr (Lq rfl (pu_fa fa_106_1 rfl) (Lr rfl (rd_ld na_99 rfl (Rdc.cl1 (by repeat constructor) rfl)) ?_)))
  refine Lmv rfl rfl (Lmv rfl rfl (Lq rfl (pu_add rfl rfl) (La rfl (asC (bsearch_spec hat.1 hat.2.1 hat.pw (IntKind.i64.wrap (a + (i : Int))))) ?_)))
  rintro _ _ ⟨_, ⟨⟨j, rfl⟩, rfl⟩, rfl⟩
  refine Lmv rfl rfl (Lq rfl (pu_extract rfl rfl) (Lq rfl (pu_extract rfl rfl) (Las rfl rfl (Las rfl rfl (Lnt (Gsr (Lmv rfl rfl (Lq rfl (pu_not rfl) (Lnt (Gs.cond rfl (fun hc1 => ?_) (fun hc1 => ?_)))))))))))
  ·
   have hno : stepsFrom a 0 (ps.map fun p => p.t.xs) = false := steps_not (i := i + 1) (by rw [hnx]; exact not_t hc1)
   refine Gsr (Las rfl rfl (Lnt (Gs.ret (Gs.blk_r (Gr (Gr (Gs.blk_r (Gr (Gs.takes (As := [cl pb 94 [.slice (some ⟨ab, ao, none⟩) ps.length pc], sl 106 3 postC (some ⟨ab, ao, none⟩) pc ps]) (by repeat constructor) (Gs.toTwo ?_))))))))))
   exact Gs.fin1 Tryz.results174 rfl _ (⟨by rw [hno], rfl⟩) (by repeat constructor)
  have hyes : stepsFrom a 0 ((ps.map fun p => p.t.xs).take (i + 1)) = true := by rw [hnx]; exact not_f hc1
  refine Gs.skip (Gs.blk_n (Gn (Gs.reg (Lq rfl (by first | exact pu_addI rfl rfl rfl (by omega) (by omega) | exact pu_add rfl rfl) ?_))))
  refine Lmv rfl rfl (Lnt ?_)
  exact Ag (i + 1) ⟨hlt, hyes⟩ (by omega)
 have hge : i = ps.length := by have := of_decide_eq_false hc0; omega
 rw [hge, List.take_of_length_le (by simp)] at hst
 refine Gs.exit (Gx (Gx (Gs.blk_hit (Gn (Gsr (Las rfl rfl (Lnt (Gs.ret (Gs.takes (As := [cl pb 94 [.slice pa ps.length pc], sl 106 3 postC pa pc ps]) (by repeat constructor) (Gs.toTwo ?_))))))))))
 exact Gs.fin1 Tryz.results174 rfl _ (⟨by rw [hst], rfl⟩) (by repeat constructor)
def followV (ps : List PostV) : Bool := followB (ps.map fun p => p.t.xs)
theorem follow_spec {S : HProp} {pa : Option Addr} {pc : Nat} {ps : List PostV} (hne : ps ≠ []) (hp : ∀ p ∈ ps, AtOk S p) (hl : ps.length ≤ 1000) :
   Ct Tryz.prog 129 ([] ++ [.slice pa ps.length pc] ++ []) [sl 106 3 postC pa pc ps, S] (fun v hs => v = .bool (followV ps) ∧ hs = [sl 106 3 postC pa pc ps, S]) := by
 obtain ⟨p, r, rfl⟩ := List.exists_cons_of_ne_nil hne
 have hat := hp p (by simp)
 refine Cti Tryz.func129 (by kernel_rfl) 9 Tryz.ntmps129 rfl rfl fun w0 R => ?_
 refine Gs.slAddr (SlH.own (by repeat constructor) : SlH _ _ 3 postC pa (p :: r)) fun ab ao ha => ?_
 obtain rfl := ha (by simp)
 refine Gsr (La rfl (ac_box rfl rfl) ?_)
 rintro _ _ ⟨pb, rfl, rfl⟩
 refine Las rfl rfl (Lnt (Gsr (Lr rfl (rd_ld na_94 rfl (Rdc.cl1 (by repeat constructor) rfl)) ?_)))
 refine Lq rfl (pu_ia se_94 rfl rfl (by decide) (by rw [List.length_cons]; omega)) ?_
 refine Lq rfl (pu_fa fa_106_1 rfl) (Lr rfl (rd_ld na_99 rfl (Rdc.elp (i := 0) (f := 2) (x := p) (xs := p :: r) (enc := postC) (sz := 3) 1 (SlH.own (E := 106) (c := pc) (by repeat constructor)) rfl rfl rfl)) ?_)
 refine Lq rfl (pu_func (by repeat constructor) (by repeat constructor)) ?_
 refine Gs.takes (As := [cl pb 94 [.slice (some ⟨ab, ao, none⟩) (p :: r).length pc], sl 106 3 postC (some ⟨ab, ao, none⟩) pc (p :: r)]) (by repeat constructor) (Gs.toTwo ?_)
 refine La rfl (asC (containsI_spec (q := fun a => stepsFrom a 0 ((p :: r).map fun p => p.t.xs)) hat.1 hat.2.1 (fun a _ => follow1_spec hp hl a))) ?_
 rintro _ _ ⟨_, ⟨rfl, rfl⟩, rfl⟩
 refine Las rfl rfl (Lnt (Gs.ret (Gs.take (.tl .hd) (Gs.two ?_))))
 exact Gs.fin1 Tryz.results129 rfl _ (⟨rfl, rfl⟩) (by repeat constructor)
theorem and1_spec {S : HProp} {pa : Option Addr} {pc : Nat} {ps : List PostV} :
   Ct Tryz.prog 122 ([] ++ [.slice pa ps.length pc] ++ []) [sl 106 3 postC pa pc ps, S] (fun v hs => v = .bool true ∧ hs = [sl 106 3 postC pa pc ps, S]) := by
 refine Cti Tryz.func122 (by kernel_rfl) 3 Tryz.ntmps122 rfl rfl fun w0 R => ?_
 refine Gsr (Las rfl rfl (Lnt (Gsr (Las rfl rfl (Lnt (Gs.ret ?_))))))
 exact Gs.fin1 Tryz.results122 rfl _ (⟨rfl, rfl⟩) (by repeat constructor)
end Go.Proofs.YtklgiidfompdpaaGreatDoor
namespace Go.Proofs.YtklgiidfompdpaaGreatDoor
open Go Go.Sl Go.Gv Go.Po
set_option maxRecDepth 100000
theorem mayAll_of {ls : List (SlV PostV)} (h : mayAll (plain2 ls) = true) {l : SlV PostV} (hl : l ∈ ls) : mayB (plain1 l.xs) = true := by
 have := List.all_eq_true.1 h (plain1 l.xs) (List.mem_map.2 ⟨l, hl, rfl⟩)
 exact this
theorem AtOk.of {S : HProp} {a : Option Addr} {ls : List (SlV PostV)} (hS : LRd S a ls) (h : mayAll (plain2 ls) = true) {l : SlV PostV} (hl : l ∈ ls) {p : PostV} (hp : p ∈ l.xs) : AtOk S p :=
 ⟨((hS.2 l hl).1.2 p hp).1, ((hS.2 l hl).1.2 p hp).2, may_rises (mayAll_of h hl) p.p (List.mem_map.2 ⟨p, hp, rfl⟩)⟩
theorem filt_t {α β : Type} {f : α → Bool} {g : α → β} {l : List α} {i : Nat} {x : α} (h : l[i]? = some x) (hf : f x = true) : ((l.take (i + 1)).filter f).map g = ((l.take i).filter f).map g ++ [g x] := by
 rw [List.take_add_one, h]; simp [hf]
theorem filt_f {α β : Type} {f : α → Bool} {g : α → β} {l : List α} {i : Nat} {x : α} (h : l[i]? = some x) (hf : f x = false) : ((l.take (i + 1)).filter f).map g = ((l.take i).filter f).map g := by
 rw [List.take_add_one, h]; simp [hf]
theorem each_spec {S : HProp} {g : FuncId} {q : List PostV → Bool} {a : Option Addr} {c : Nat} {ls : List (SlV PostV)} (hS : LRd S a ls) (hl : ls.length ≤ 900) (hc : ls.length ≤ c)
   (hg : ∀ (pa : Option Addr) (pc : Nat) (ps : List PostV), ps ≠ [] → (∀ p ∈ ps, AtOk S p) → ps.length ≤ 1000 → Ct Tryz.prog g ([] ++ [.slice pa ps.length pc] ++ []) [sl 106 3 postC pa pc ps, S] (fun v hs => v = .bool (q ps) ∧ hs = [sl 106 3 postC pa pc ps, S])) :
   Ct Tryz.prog 121 [.slice a ls.length c, .func (.func g) #[] #[]] [S] (fun v hs => ∃ a' c', v = .slice a' (eachV q ls).length c' ∧ hs = [S, sl 28 2 keyC a' c' (eachV q ls)]) := by
 refine Cti Tryz.func121 (by kernel_rfl) 67 Tryz.ntmps121 rfl rfl fun w0 R => ?_
 refine Gs.slAddr (hS.1.h (by repeat constructor)) fun lb lo hla => ?_
 refine Gsr (Las rfl rfl (Lnt (Gs.seq (Gsr (Lmv rfl rfl (Lq rfl (pu_len Tryz.underlying120 rfl) (Lq rfl (pu_eq rfl rfl) (LpuB rfl rfl trivial (pu_move rfl) (fun hg3 => ?_) (fun hg3 => ?_)))))))))
 ·
  have hno : eachV q ls = [] := by
    have h0 : ls.length = 0 := by have := of_decide_eq_true hg3; omega
    rw [List.length_eq_zero_iff.1 h0]; rfl
  refine Lof rfl (Lof rfl (Lpk rfl rfl rfl (Lnt (Gs.cond_t rfl (Gsr (Las rfl rfl (Lnt (Gs.ret (Gr (Gs.slNil 28 2 keyC ?_))))))))))
  exact Gs.fin1 Tryz.results121 rfl _ (⟨none, 0, by rw [hno]; rfl, by rw [hno]⟩) (by repeat constructor)
 refine Lpu rfl rfl ⟨_, rfl, rfl⟩ (pu_move rfl) (Lac rfl rfl ⟨_, rfl, rfl⟩ (asC (odd_spec hS (by omega))) ?_)
 rintro _ _ ⟨_, ⟨rfl, rfl⟩, rfl⟩
 refine Lpk rfl rfl rfl (Lnt (Gs.cond rfl (fun hc0 => ?_) (fun hc0 => ?_)))
 ·
  have hno : eachV q ls = [] := by
    unfold eachV; split
    · rfl
    · rename_i l0 r; exact if_neg (by rw [not_t hc0]; simp)
  refine Gsr (Las rfl rfl (Lnt (Gs.ret (Gr (Gs.slNil 28 2 keyC ?_)))))
  exact Gs.fin1 Tryz.results121 rfl _ (⟨none, 0, by rw [hno]; rfl, by rw [hno]⟩) (by repeat constructor)
 have hmay := not_f hc0
 obtain ⟨l0, r, rfl⟩ : ∃ l0 r, ls = l0 :: r := by cases ls with
   | nil => exact absurd rfl (of_decide_eq_false hg3)
   | cons l0 r => exact ⟨l0, r, rfl⟩
 obtain ⟨la, lx, lc⟩ := l0
 obtain rfl := hla (by simp)
 have hl0 : PRd S la lx ∧ lx.length ≤ 1000 := hS.2 ⟨la, lx, lc⟩ (by simp)
 have hrn : (⟨la, lx, lc⟩ :: r : List (SlV PostV)).length = r.length + 1 := rfl
 have hrl : r.length ≤ 900 := by rw [List.length_cons] at hl; omega
 refine Gs.slAddr (hl0.1.1.h (by repeat constructor)) fun ab ao ha => ?_
 refine Gs.skip (Gn (Gsr (Las rfl rfl (Lnil (Gs.slNil 28 2 keyC (Gn (Gs.seq (Gsr (Lmv rfl rfl (Lq rfl (pu_ia se_120 rfl rfl (by decide) (by rw [List.length_cons]; omega)) ?_))))))))))
 refine Lr rfl (rd_ld na_94 rfl (Rdc.el0 (i := 0) (x := ⟨la, lx, lc⟩) (xs := ⟨la, lx, lc⟩ :: r) (enc := slC) (sz := 1) (hS.1.h (by repeat constructor)) rfl rfl rfl)) ?_
 refine Lq rfl (pu_len Tryz.underlying94 rfl) (Lmv rfl rfl (Lnt (Gs.block (Gs.loop1 (fun s : Nat × (Option Addr × Nat) × List Key => s.1 ≤ lx.length ∧ s.2.2 = ((lx.take s.1).filter fun p => decide ((p :: foundV r p.k).length = (r.length + 1)) && q (p :: foundV r p.k)).map PostV.k) (fun s => [(0, .slice (some ⟨lb, lo, none⟩) ((⟨la, lx, lc⟩ : SlV PostV) :: r).length c), (1, .func (.func g) #[] #[]), (5, .slice s.2.1.1 s.2.2.length s.2.1.2), (22, .slice la lx.length lc), (23, int lx.length), (24, int s.1)]) (fun s => [S, sl 28 2 keyC s.2.1.1 s.2.1.2 s.2.2] ++ R) (fun s => lx.length - s.1) (0, (none, 0), []) (⟨Nat.zero_le _, rfl⟩) (by repeat constructor) (by repeat constructor) (fun s hs => ?_)))))
 obtain ⟨i, ⟨ka, kc⟩, K⟩ := s
 obtain ⟨hi, hK⟩ := hs
 dsimp only at hi hK ⊢
 have hKl : K.length ≤ 1000 := by rw [hK, List.length_map]; refine Nat.le_trans (List.length_filter_le ..) ?_; rw [List.length_take]; have := hl0.2; omega
 refine Gsr (Lq rfl (pu_lt rfl rfl) (Lnt (Gs.seq (Gs.cond rfl (fun hc1 => ?_) (fun hc1 => ?_)))))
 ·
  have hlt : i < lx.length := by have := of_decide_eq_true hc1; omega
  obtain ⟨p, hp⟩ : ∃ x, lx[i]? = some x := ⟨lx[i], by simp [hlt]⟩
  have hpm := List.mem_of_getElem? hp
  obtain rfl := ha (by intro e; rw [e] at hp; simp at hp)
  refine Gs.skip (Gn (Gs.seq (Gs.block (Gsr (Lq rfl (pu_ia se_94 rfl rfl (by omega) (by omega)) (Lr rfl (rd_lda ag_106 rfl (Rdc.el0 (hl0.1.1.h (by repeat constructor)) hp rfl rfl) rfl) ?_))))))
  refine La rfl (ac_alloc zv_106 rfl) ?_
  rintro _ _ ⟨pb, rfl, rfl⟩
  refine Lac0 rfl trivial (ac_st sz_106 rfl rfl (by repeat constructor) rfl rfl rfl rfl) ?_
  rintro _ _ rfl
  refine Lnt (Gsr (Lr rfl (rd_lda ag_106 rfl (Rdc.cl 3 (by repeat constructor) rfl) rfl) ?_))
  refine La rfl (ac_lit encC_106 ([p]) et_94 ek_106 rfl (by repeat constructor) rfl rfl (by decide)) ?_
  rintro _ _ ⟨a29, rfl, rfl⟩
  refine Las rfl rfl (Lnt (Gs.seq (Gsr (Lmv rfl rfl (Lq rfl (pu_sliceL et_120 rfl rfl (by omega) (by rw [List.length_cons]; omega)) ?_)))))
  refine Lq rfl (pu_len Tryz.underlying120 rfl) (Lmv rfl rfl (Lnt (Gs.block (Gs.loop1 (fun s : Nat × (Option Addr × Nat) × List PostV => s.1 ≤ r.length ∧ s.2.2 = p :: foundV (r.take s.1) p.k) (fun s => [(0, .slice (some ⟨lb, lo, none⟩) ((⟨some ⟨ab, ao, none⟩, lx, lc⟩ : SlV PostV) :: r).length c), (1, .func (.func g) #[] #[]), (5, .slice ka K.length kc), (7, ptr pb), (8, .slice s.2.1.1 s.2.2.length s.2.1.2), (22, .slice (some ⟨ab, ao, none⟩) lx.length lc), (23, int lx.length), (24, int i), (31, .slice (suba (some ⟨lb, lo, none⟩) 1 c 1) r.length (c - 1)), (32, int r.length), (33, int s.1)]) (fun s => [S, sl 28 2 keyC ka kc K, cl pb 106 (postC p), sl 106 3 postC s.2.1.1 s.2.1.2 s.2.2] ++ R) (fun s => r.length - s.1) (0, (some ⟨a29, 0, none⟩, 1), [p]) (⟨Nat.zero_le _, rfl⟩) (by repeat constructor) (by repeat constructor) (fun s hs1 => ?_)))))
  obtain ⟨j, ⟨xa, xc⟩, PS⟩ := s
  obtain ⟨hj, hPS⟩ := hs1
  dsimp only at hj hPS ⊢
  have hPl : PS.length ≤ 901 := by rw [hPS, List.length_cons]; have := found_length (r.take j) p.k; rw [List.length_take] at this; omega
  refine Gsr (Lq rfl (pu_lt rfl rfl) (Lnt (Gs.seq (Gs.cond rfl (fun hc2 => ?_) (fun hc2 => ?_)))))
  ·
   have hlt1 : j < r.length := by have := of_decide_eq_true hc2; omega
   obtain ⟨y, hy⟩ : ∃ x, r[j]? = some x := ⟨r[j], by simp [hlt1]⟩
   have hyr := List.mem_of_getElem? hy
   have hyl := hS.2 y (List.mem_cons_of_mem _ hyr)
   have hsu : suba (some ⟨lb, lo, none⟩) 1 c 1 = some ⟨lb, lo + 1 * 1, none⟩ := suba_some (by omega)
   have hsr : Srd S 1 slC (some ⟨lb, lo + 1 * 1, none⟩) r := fun w0 H H' t => by
     have h := SlH.cutL (hS.1 w0 H H' t) 1 c hc
     rw [hsu] at h; exact h
   have hft := found_take (k := p.k) hy
   refine Gs.skip (Gn (Gs.seq (Gs.block (Gsr ?_))))
   rw [hsu]
   refine Lq rfl (pu_ia se_120 rfl rfl (by omega) (by omega)) (Lr rfl (rd_ld na_94 rfl (Rdc.el0 (xs := r) (enc := slC) (sz := 1) (hsr.h (by repeat constructor)) hy rfl rfl)) ?_)
   refine Las rfl rfl (Lnt (Gsr (Lmv rfl rfl (Lq rfl (pu_fa fa_106_0 rfl) (Lr rfl (rd_lda ag_28 rfl (Rdc.cl 2 (by repeat constructor) rfl) rfl) ?_)))))
   refine La rfl (asC (pfind_spec hyl.1.1 hyl.2 (may_asc (mayAll_of hmay (List.mem_cons_of_mem _ hyr))) p.k)) ?_
   rintro _ _ ⟨_, ⟨rfl, rfl⟩, rfl⟩
   refine Lmv rfl rfl (Lq rfl (pu_extract rfl rfl) (Lq rfl (pu_extract rfl rfl) (La rfl (ac_alloc zv_106 rfl) ?_)))
   rintro _ _ ⟨xb, rfl, rfl⟩
   refine Lac0 rfl trivial (ac_st sz_106 rfl rfl (by repeat constructor) rfl rfl rfl rfl) ?_
   rintro _ _ rfl
   refine Las rfl rfl (Lnt (Gsr (Lmv rfl rfl (Lnt (Gs.cond rfl (fun hc3 => ?_) (fun hc3 => ?_))))))
   ·
    obtain ⟨x, hx⟩ := Option.isSome_iff_exists.1 hc3
    rw [hx] at hft ⊢
    refine Gs.reg (Lmv rfl rfl (Lr rfl (rd_lda ag_106 rfl (Rdc.cl 3 (by repeat constructor) rfl) rfl) ?_))
    refine La rfl (ac_lit encC_106 ([x]) et_94 ek_106 rfl (by repeat constructor) rfl rfl (by decide)) ?_
    rintro _ _ ⟨a47, rfl, rfl⟩
    refine La rfl (ac_append et_94 ek_106 rfl rfl (by repeat constructor) (SrcH.sl Tryz.underlying94 ek_106 (SlH.own (by repeat constructor))) (by first | omega | (simp; omega)) (by first | omega | (simp; omega))) ?_
    rintro _ _ ⟨a48, c48, rfl, rfl⟩
    refine Las rfl rfl (Lnil (Gs.blk_n (Gn (Gs.reg (Lq rfl (by first | exact pu_addI rfl rfl rfl (by omega) (by omega) | exact pu_add rfl rfl) ?_)))))
    refine Lmv rfl rfl (Lnt ?_)
    first | exact Ag (j + 1, (a48, c48), PS ++ [x]) ⟨by show j + 1 ≤ r.length; omega, by show PS ++ [x] = _; rw [hPS, hft]; rfl⟩ (by show r.length - (j + 1) < r.length - j; omega) | exact Ag (j + 1, (xa, xc), PS) ⟨by show j + 1 ≤ r.length; omega, by show PS = _; rw [hPS, hft]; simp⟩ (by show r.length - (j + 1) < r.length - j; omega)
   have hx : lookP y.xs p.k = none := by simpa using hc3
   rw [hx] at hft
   refine Gs.skip (Gs.blk_n (Gn (Gs.reg (Lq rfl (by first | exact pu_addI rfl rfl rfl (by omega) (by omega) | exact pu_add rfl rfl) ?_))))
   refine Lmv rfl rfl (Lnt ?_)
   first | exact Ag (j + 1, (a48, c48), PS ++ [x]) ⟨by show j + 1 ≤ r.length; omega, by show PS ++ [x] = _; rw [hPS, hft]; rfl⟩ (by show r.length - (j + 1) < r.length - j; omega) | exact Ag (j + 1, (xa, xc), PS) ⟨by show j + 1 ≤ r.length; omega, by show PS = _; rw [hPS, hft]; simp⟩ (by show r.length - (j + 1) < r.length - j; omega)
  have hge1 : j = r.length := by have := of_decide_eq_false hc2; omega
  rw [hge1, List.take_length] at hPS
  refine Gs.exit (Gx (Gx (Gs.blk_hit (Gn (Gs.seq ?_)))))
  have hat : ∀ x ∈ PS, AtOk S x := fun x hx => by rw [hPS] at hx; rcases List.mem_cons.1 hx with rfl | hx; exact AtOk.of hS hmay (l := ⟨some ⟨ab, ao, none⟩, lx, lc⟩) (by simp) hpm; obtain ⟨l, h1, h2, -⟩ := found_mem hx; exact AtOk.of hS hmay (List.mem_cons_of_mem _ h1) h2
  have hPne : PS ≠ [] := by rw [hPS]; simp
  refine Gs.reg (Lmv rfl rfl (Lq rfl (pu_len Tryz.underlying94 rfl) (Lmv rfl rfl (Lq rfl (pu_len Tryz.underlying120 rfl) (Lq rfl (pu_eq rfl rfl) (LpuB rfl rfl trivial (pu_move rfl) (fun hg5 => ?_) (fun hg5 => ?_)))))))
  ·
   have hcl : decide ((p :: foundV r p.k).length = r.length + 1) = true := by rw [← hPS]; exact decide_eq_true (by have h := of_decide_eq_true hg5; rw [List.length_cons] at h; omega)
   refine Lpu rfl rfl ⟨_, rfl, rfl⟩ (pu_move rfl) (Lpu rfl rfl ⟨_, rfl, rfl⟩ (pu_move rfl) (Lac rfl rfl ⟨_, rfl, rfl⟩ (as_callV rfl (hg xa xc PS hPne hat (by omega)) (by repeat constructor) (by repeat constructor)) ?_))
   rintro _ _ ⟨_, ⟨rfl, rfl⟩, rfl⟩
   refine Lpk rfl rfl rfl (Lnt (Gs.cond rfl (fun hc4 => ?_) (fun hc4 => ?_)))
   ·
    have hy2 : (decide ((p :: foundV r p.k).length = r.length + 1) && q (p :: foundV r p.k)) = true := by rw [hcl, ← hPS, hc4]; rfl
    have hup := filt_t (g := PostV.k) (f := fun p => decide ((p :: foundV r p.k).length = r.length + 1) && q (p :: foundV r p.k)) hp hy2
    rw [← hK] at hup
    refine Gs.reg (Lmv rfl rfl (Lq rfl (pu_fa fa_106_0 rfl) (Lr rfl (rd_lda ag_28 rfl (Rdc.cl 2 (by repeat constructor) rfl) rfl) ?_)))
    refine La rfl (ac_lit encC_28 ([p.k]) et_48 ek_28 rfl (by repeat constructor) rfl rfl (by decide)) ?_
    rintro _ _ ⟨a63, rfl, rfl⟩
    refine La rfl (ac_append et_48 ek_28 rfl rfl (by repeat constructor) (SrcH.sl Tryz.underlying48 ek_28 (SlH.own (by repeat constructor))) (by first | omega | (simp; omega)) (by first | omega | (simp; omega))) ?_
    rintro _ _ ⟨a64, c64, rfl, rfl⟩
    refine Las rfl rfl (Lnil (Gs.blk_n (Gn ?_)))
    first | (have hX := hy2; skip) | (have hX := hn2; have hup := filt_f (g := PostV.k) (f := fun p => decide ((p :: foundV r p.k).length = r.length + 1) && q (p :: foundV r p.k)) hp hn2; rw [← hK] at hup)
    refine Gs.reg (Lq rfl (by first | exact pu_addI rfl rfl rfl (by omega) (by omega) | exact pu_add rfl rfl) ?_)
    refine Lmv rfl rfl (Lnt ?_)
    first | (have hX := hy2; exact Ag (i + 1, (a64, c64), K ++ [p.k]) ⟨by show i + 1 ≤ lx.length; omega, hup.symm⟩ (by show lx.length - (i + 1) < lx.length - i; omega)) | (have hX := hn2; exact Ag (i + 1, (ka, kc), K) ⟨by show i + 1 ≤ lx.length; omega, hup.symm⟩ (by show lx.length - (i + 1) < lx.length - i; omega))
   have hn2 : (decide ((p :: foundV r p.k).length = r.length + 1) && q (p :: foundV r p.k)) = false := by rw [hcl, ← hPS, hc4]; rfl
   refine Gs.skip (Gs.blk_n (Gn ?_))
   first | (have hX := hy2; skip) | (have hX := hn2; have hup := filt_f (g := PostV.k) (f := fun p => decide ((p :: foundV r p.k).length = r.length + 1) && q (p :: foundV r p.k)) hp hn2; rw [← hK] at hup)
   refine Gs.reg (Lq rfl (by first | exact pu_addI rfl rfl rfl (by omega) (by omega) | exact pu_add rfl rfl) ?_)
   refine Lmv rfl rfl (Lnt ?_)
   first | (have hX := hy2; exact Ag (i + 1, (a64, c64), K ++ [p.k]) ⟨by show i + 1 ≤ lx.length; omega, hup.symm⟩ (by show lx.length - (i + 1) < lx.length - i; omega)) | (have hX := hn2; exact Ag (i + 1, (ka, kc), K) ⟨by show i + 1 ≤ lx.length; omega, hup.symm⟩ (by show lx.length - (i + 1) < lx.length - i; omega))
  have hcl : decide ((p :: foundV r p.k).length = r.length + 1) = false := by rw [← hPS]; exact decide_eq_false (by have h := of_decide_eq_false hg5; rw [List.length_cons] at h; omega)
  have hn2 : (decide ((p :: foundV r p.k).length = r.length + 1) && q (p :: foundV r p.k)) = false := by rw [hcl]; rfl
  refine Lof rfl (Lof rfl (Lof rfl (Lpk rfl rfl rfl (Lnt (Gs.cond_f rfl (Gs.skip (Gs.blk_n (Gn ?_))))))))
  first | (have hX := hy2; skip) | (have hX := hn2; have hup := filt_f (g := PostV.k) (f := fun p => decide ((p :: foundV r p.k).length = r.length + 1) && q (p :: foundV r p.k)) hp hn2; rw [← hK] at hup)
  refine Gs.reg (Lq rfl (by first | exact pu_addI rfl rfl rfl (by omega) (by omega) | exact pu_add rfl rfl) ?_)
  refine Lmv rfl rfl (Lnt ?_)
  first | (have hX := hy2; exact Ag (i + 1, (a64, c64), K ++ [p.k]) ⟨by show i + 1 ≤ lx.length; omega, hup.symm⟩ (by show lx.length - (i + 1) < lx.length - i; omega)) | (have hX := hn2; exact Ag (i + 1, (ka, kc), K) ⟨by show i + 1 ≤ lx.length; omega, hup.symm⟩ (by show lx.length - (i + 1) < lx.length - i; omega))
 have hge : i = lx.length := by have := of_decide_eq_false hc1; omega
 have hfin : K = eachV q ((⟨la, lx, lc⟩ : SlV PostV) :: r) := by rw [hK, hge, List.take_length]; exact (if_pos hmay).symm
 refine Gs.exit (Gx (Gx (Gs.blk_hit (Gn (Gsr (Lmv rfl rfl (Las rfl rfl (Lnt (Gs.ret ?_)))))))))
 rw [hfin]
 exact Gs.fin1 Tryz.results121 rfl _ (⟨ka, kc, rfl, rfl⟩) (by repeat constructor)
theorem pand_spec {S : HProp} {a : Option Addr} {c : Nat} {ls : List (SlV PostV)} (hS : LRd S a ls) (hl : ls.length ≤ 900) (hc : ls.length ≤ c) :
   Ct Tryz.prog 70 [.slice a ls.length c] [S] (fun v hs => ∃ a' c', v = .slice a' (eachV (fun _ => true) ls).length c' ∧ hs = [S, sl 28 2 keyC a' c' (eachV (fun _ => true) ls)]) := by
 refine Cti Tryz.func70 (by kernel_rfl) 5 Tryz.ntmps70 rfl rfl fun w0 R => ?_
 refine Gsr (Las rfl rfl (Lnt (Gsr (Lmv rfl rfl (La rfl (asC (each_spec (q := fun _ => true) hS hl hc (fun _ _ _ _ _ _ => and1_spec))) ?_)))))
 rintro _ _ ⟨_, ⟨ka, kc, rfl, rfl⟩, rfl⟩
 refine Las rfl rfl (Lnt (Gs.ret ?_))
 exact Gs.fin1 Tryz.results70 rfl _ (⟨_, _, rfl, rfl⟩) (by repeat constructor)
theorem pphrase_spec {S : HProp} {a : Option Addr} {c : Nat} {ls : List (SlV PostV)} (hS : LRd S a ls) (hl : ls.length ≤ 900) (hc : ls.length ≤ c) :
   Ct Tryz.prog 73 [.slice a ls.length c] [S] (fun v hs => ∃ a' c', v = .slice a' (eachV followV ls).length c' ∧ hs = [S, sl 28 2 keyC a' c' (eachV followV ls)]) := by
 refine Cti Tryz.func73 (by kernel_rfl) 5 Tryz.ntmps73 rfl rfl fun w0 R => ?_
 refine Gsr (Las rfl rfl (Lnt (Gsr (Lmv rfl rfl (La rfl (asC (each_spec (q := followV) hS hl hc (fun _ _ _ h1 h2 h3 => follow_spec h1 h2 h3))) ?_)))))
 rintro _ _ ⟨_, ⟨ka, kc, rfl, rfl⟩, rfl⟩
 refine Las rfl rfl (Lnt (Gs.ret ?_))
 exact Gs.fin1 Tryz.results73 rfl _ (⟨_, _, rfl, rfl⟩) (by repeat constructor)
end Go.Proofs.YtklgiidfompdpaaGreatDoor
namespace Go.Sl
open Go
theorem Pu.ac {P : Program} {w0 : World} {env : Env} {H : List HProp} {o : Oper} {v : Value} (h : Pu P o env v) : Ac P o w0 env H (fun u H'' => u = v ∧ H'' = H) := Ac.of_run fun ρ w r s => ⟨v, H, w, h ρ w r, ⟨rfl, rfl⟩, s⟩
end Go.Sl
namespace Go.Po
open Go Go.Sl Go.Gv
def hasAll (ls : List (SlV PostV)) (k : Key) : Bool := ls.all fun l => (lookP l.xs k).isSome
def andV (ls : List (SlV PostV)) : List Key :=
 match ls with
 | [] => []
 | l0 :: r => if mayAll (ls.map fun l => l.xs.map PostV.p) then (l0.xs.filter fun p => hasAll (l0 :: r) p.k).map PostV.k else []
theorem found_all (k : Key) : ∀ ls : List (SlV PostV), decide ((foundV ls k).length = ls.length) = hasAll ls k
 | [] => rfl
 | l :: ls => by
   have ih := found_all k ls
   have hle := found_length ls k
   unfold foundV hasAll at *
   cases hl : lookP l.xs k with
   | none =>
     rw [List.filterMap_cons_none (f := fun l : SlV PostV => lookP l.xs k) hl, List.all_cons, hl, List.length_cons]
     simp only [Option.isSome_none, Bool.false_and]
     exact decide_eq_false (by omega)
   | some p =>
     rw [List.filterMap_cons_some (f := fun l : SlV PostV => lookP l.xs k) hl, List.all_cons, hl, List.length_cons, List.length_cons, Option.isSome_some, Bool.true_and, ← ih]
     exact decide_eq_decide.2 ⟨fun h => by omega, fun h => by omega⟩
theorem look_self {l : List PostV} (h : ((l.map PostV.p).map Prod.fst).Pairwise (fun a b => before a b = true)) {p : PostV} (hp : p ∈ l) : lookP l p.k = some p := by
 induction l with
 | nil => cases hp
 | cons x l ih =>
   simp only [List.map_cons, List.pairwise_cons] at h
   unfold lookP
   rw [List.find?_cons]
   rcases List.mem_cons.1 hp with rfl | hp
   · simp
   · have hb := h.1 p.k (List.mem_map.2 ⟨p.p, List.mem_map.2 ⟨p, hp, rfl⟩, rfl⟩)
     have hne : ¬ x.k = p.k := fun e => by
       have hb' : before x.k p.k = true := hb
       rw [e, before_irr] at hb'; cases hb'
     simp only [hne, decide_false]; exact ih h.2 hp
end Go.Po
namespace Go.Proofs.YtklgiidfompdpaaGreatDoor
open Go Go.Sl Go.Gv Go.Po
set_option maxRecDepth 100000
end Go.Proofs.YtklgiidfompdpaaGreatDoor
namespace Go.Po
open Go Go.Sl Go.Gv
def atsV (ls : List (SlV PostV)) (k : Key) : List (List Int) := (foundV ls k).map fun p => p.t.xs
def phraseV (ls : List (SlV PostV)) : List Key := (andV ls).filter fun k => followB (atsV ls k)
end Go.Po
namespace Go.Proofs.YtklgiidfompdpaaGreatDoor
open Go Go.Sl Go.Gv Go.Po
set_option maxRecDepth 100000
end Go.Proofs.YtklgiidfompdpaaGreatDoor
namespace Go.Po
open Go Go.Sl Go.Gv
def keysL (ls : List (SlV PostV)) : List Key := ls.flatMap fun l => l.xs.map PostV.k
def intoAll (ks : List Key) : List Key := ks.foldl intoL []
def orV (ls : List (SlV PostV)) : List Key := if mayAll (ls.map fun l => l.xs.map PostV.p) then intoAll (keysL ls) else []
theorem keysL_take {ls : List (SlV PostV)} {i : Nat} {l : SlV PostV} (h : ls[i]? = some l) : keysL (ls.take (i + 1)) = keysL (ls.take i) ++ l.xs.map PostV.k := by
 rw [List.take_add_one, h]; simp [keysL]
theorem keysL_le (ls : List (SlV PostV)) (i : Nat) : (keysL (ls.take i)).length ≤ (keysL ls).length := by
 have : keysL ls = keysL (ls.take i) ++ keysL (ls.drop i) := by
   unfold keysL; rw [← List.flatMap_append, List.take_append_drop]
 rw [this, List.length_append]; omega
theorem mapk_take {l : List PostV} {j : Nat} {p : PostV} (h : l[j]? = some p) : (l.take (j + 1)).map PostV.k = (l.take j).map PostV.k ++ [p.k] := by
 rw [List.take_add_one, h]; simp
end Go.Po
namespace Go.Proofs.YtklgiidfompdpaaGreatDoor
open Go Go.Sl Go.Gv Go.Po
set_option maxRecDepth 100000
end Go.Proofs.YtklgiidfompdpaaGreatDoor
namespace Go.Po
open Go Go.Sl Go.Gv
def dd : List Key → List Key
 | [] => []
 | [x] => [x]
 | x :: y :: l => if x = y then dd (y :: l) else x :: dd (y :: l)
theorem dd_snoc : ∀ (l : List Key) (x : Key), dd (l ++ [x]) = if l.getLast? = some x then dd l else dd l ++ [x]
 | [], x => by simp [dd]
 | [y], x => by
   by_cases h : y = x
   · simp [dd, h]
   · simp [dd, h]
 | y :: z :: l, x => by
   have ih := dd_snoc (z :: l) x
   have e : (y :: z :: l).getLast? = (z :: l).getLast? := by simp [List.getLast?_cons]
   rw [e]
   simp only [List.cons_append] at ih ⊢
   by_cases h : y = z
   · simp only [dd, h, if_true, ih]
   · simp only [dd, h, if_false, ih]
     split <;> rfl
theorem dd_take_t {l : List Key} {i : Nat} {x y : Key} (h0 : 0 < i) (hx : l[i]? = some x) (hy : l[i - 1]? = some y) (h : x = y) : dd (l.take (i + 1)) = dd (l.take i) := by
 have hl : (l.take i).getLast? = some y := by
   have e : i = i - 1 + 1 := by omega
   rw [e, List.take_add_one, hy]; simp
 rw [List.take_add_one, hx, show (some x).toList = [x] from rfl, dd_snoc, hl, h, if_pos rfl]
theorem dd_take_f {l : List Key} {i : Nat} {x y : Key} (h0 : 0 < i) (hx : l[i]? = some x) (hy : l[i - 1]? = some y) (h : x ≠ y) : dd (l.take (i + 1)) = dd (l.take i) ++ [x] := by
 have hl : (l.take i).getLast? = some y := by
   have e : i = i - 1 + 1 := by omega
   rw [e, List.take_add_one, hy]; simp
 rw [List.take_add_one, hx, show (some x).toList = [x] from rfl, dd_snoc, hl, if_neg (fun e => h (Option.some.inj e).symm)]
theorem drop_at {l m : List Key} {d i : Nat} (h : l.drop d = m.drop d) (hi : d ≤ i) : l[i]? = m[i]? := by
 have := congrArg (·[i - d]?) h
 simp only [List.getElem?_drop] at this
 rwa [show d + (i - d) = i by omega] at this
theorem set_take {l : List Key} {w : Nat} {x : Key} (h : w < l.length) : (l.set w x).take (w + 1) = l.take w ++ [x] := by
 rw [List.take_add_one, List.getElem?_set_self h, List.take_set_of_le (Nat.le_refl _)]; rfl
end Go.Po
namespace Go.Proofs.YtklgiidfompdpaaGreatDoor
open Go Go.Sl Go.Gv Go.Po
set_option maxRecDepth 100000
theorem suba_0 {b o c sz : Nat} : suba (some ⟨b, o, none⟩) 0 c sz = some ⟨b, o, none⟩ := by
 unfold suba; split
 · rfl
 · simp [Addr.add]
theorem compact_spec {a : Option Addr} {c : Nat} {xs : List Key} (hl : xs.length ≤ 100000) :
   Ct Tryz.prog 178 [.slice a xs.length c] [sl 28 2 keyC a c xs] (fun v hs => v = .slice a (dd xs).length c ∧ hs = [sl 28 2 keyC a c (dd xs)]) := by
 refine Cti Tryz.func178 (by kernel_rfl) 61 Tryz.ntmps178 rfl rfl fun w0 R => ?_
 refine Gs.slAddr (xs := xs) (SlH.own (E := 28) (enc := keyC) (by repeat constructor)) fun ab ao ha => Gs.slLen (xs := xs) (by repeat constructor) fun hlc => ?_
 refine Gsr (Las rfl rfl (Lnt (Gs.seq (Gsr (Lmv rfl rfl (Lq rfl (pu_len Tryz.underlying48 rfl) (Lq rfl (pu_lt rfl rfl) (Lnt (Gs.cond rfl (fun hc0 => ?_) (fun hc0 => ?_))))))))))
 ·
  have hdd : dd xs = xs := by
    have h := of_decide_eq_true hc0
    match xs, h with
    | [], _ => rfl
    | [x], _ => rfl
    | x :: y :: l, h => simp at h; omega
  refine Gsr (Lmv rfl rfl (Las rfl rfl (Lnt (Gs.ret (Gr ?_)))))
  exact Gs.fin1 Tryz.results178 rfl _ (⟨by rw [hdd], by rw [hdd]⟩) (by repeat constructor)
 have h2 : 2 ≤ xs.length := by have := of_decide_eq_false hc0; omega
 obtain rfl := ha (by rintro rfl; simp at h2)
 have h1 : dd (xs.take 1) = xs.take 1 := by
   match xs, h2 with
   | x :: l, _ => rfl
 refine Gs.skip (Gn (Gs.seq (Gsr (Las rfl rfl (Lnt (Gs.block (Gs.loop1 (fun i : Nat => 1 ≤ i ∧ i ≤ xs.length ∧ dd (xs.take i) = xs.take i) (fun i => [(0, .slice (some ⟨ab, ao, none⟩) xs.length c), (3, int i)]) (fun i => [sl 28 2 keyC (some ⟨ab, ao, none⟩) c xs] ++ R) (fun i => xs.length - i) 1 (⟨Nat.le_refl _, by omega, h1⟩) (by repeat constructor) (by repeat constructor) (fun i ⟨hi1, hi2, hdi⟩ => ?_))))))))
 refine Gs.seq (Gsr (Lmv rfl rfl (Lmv rfl rfl (Lq rfl (pu_len Tryz.underlying48 rfl) (Lq rfl (pu_lt rfl rfl) (Lnt (Gs.cond rfl (fun hc1 => ?_) (fun hc1 => ?_))))))))
 ·
  have hlt : i < xs.length := by have := of_decide_eq_true hc1; omega
  obtain ⟨x, hx⟩ : ∃ x, xs[i]? = some x := ⟨xs[i], by simp [hlt]⟩
  obtain ⟨y, hy⟩ : ∃ x, xs[i - 1]? = some x := ⟨xs[i - 1]'(by omega), by simp⟩
  refine Gs.skip (Gn (Gs.seq (Gs.block (Gs.seq (Gs.regD mixed (by kernel_rfl) (Rmv 0 rfl (by kernel_rfl) rfl (Rmv 1 rfl (by kernel_rfl) rfl (Rq 2 rfl (by kernel_rfl) (pu_ia se_48 rfl rfl (by omega) (by omega)) (Rr 3 rfl (by kernel_rfl) (rd_lda ag_28 rfl (Rdc.el0 (xs := xs) (enc := keyC) (sz := 2) (SlH.own (E := 28) (c := c) (by repeat constructor)) hx rfl rfl) rfl) ?_)))))))))
  refine Rmv 4 rfl (by kernel_rfl) rfl (Rmv 5 rfl (by kernel_rfl) rfl (Rq 6 rfl (by kernel_rfl) (pu_subI (z := ((i - 1 : Nat) : Int)) rfl rfl (by omega) (by omega) (by omega)) ?_))
  refine Rq 7 rfl (by kernel_rfl) (pu_ia se_48 rfl rfl (by omega) (by omega)) (Rr 8 rfl (by kernel_rfl) (rd_lda ag_28 rfl (Rdc.el0 (xs := xs) (enc := keyC) (sz := 2) (SlH.own (E := 28) (c := c) (by repeat constructor)) hy rfl rfl) rfl) ?_)
  refine Rq 9 rfl (by kernel_rfl) (pu_eqT (a := x) (b := y) cmp_28 (by decide) Tryz.eqGuardType28 rfl rfl) ?_
  refine Rg.end (by kernel_rfl) (Gn (Gs.cond rfl (fun hc2 => ?_) (fun hc2 => ?_)))
  ·
   have heq : x = y := of_decide_eq_true hc2
   have hst : dd (xs.take (i + 1)) = xs.take i := by rw [dd_take_t hi1 hx hy heq, hdi]
   have hsu : suba (some ⟨ab, ao, none⟩) i c 2 = some ⟨ab, ao + i * 2, none⟩ := suba_some (by omega)
   refine Gsr (Lmv rfl rfl (Lmv rfl rfl (Lq rfl (pu_sliceL et_48 rfl rfl (by omega) (by omega)) (Las rfl rfl (Lnil ?_)))))
   rw [show (i : Int).toNat = i from rfl, hsu]
   refine Gn (Gs.seq (Gsr (Las rfl rfl (Lnt (Gs.block (Gs.loop1 (fun s : Nat × Nat × List Key => 1 ≤ s.1 ∧ i + s.1 ≤ xs.length ∧ s.2.1 + 1 ≤ i + s.1 ∧ s.2.2.length = xs.length ∧ s.2.2.take s.2.1 = dd (xs.take (i + s.1)) ∧ s.2.2.drop (i + s.1 - 1) = xs.drop (i + s.1 - 1)) (fun s => [(0, .slice (some ⟨ab, ao, none⟩) xs.length c), (3, int s.2.1), (4, .slice (some ⟨ab, ao + i * 2, none⟩) (xs.length - i) (c - i)), (5, int s.1)]) (fun s => [sl 28 2 keyC (some ⟨ab, ao, none⟩) c s.2.2] ++ R) (fun s => xs.length - s.1) (1, i, xs) (⟨Nat.le_refl _, by show i + 1 ≤ xs.length; omega, Nat.le_refl _, rfl, hst.symm, rfl⟩) (by repeat constructor) (by repeat constructor) (fun s hs => ?_)))))))
   obtain ⟨m, w, ys⟩ := s
   obtain ⟨hm1, hm2, hw, hyl, hyt, hyd⟩ := hs
   dsimp only at hm1 hm2 hw hyl hyt hyd ⊢
   refine Gs.seq (Gsr (Lmv rfl rfl (Lmv rfl rfl (Lq rfl (pu_len Tryz.underlying48 rfl) (Lq rfl (pu_lt rfl rfl) (Lnt (Gs.cond rfl (fun hc3 => ?_) (fun hc3 => ?_))))))))
   ·
    have hlt3 : i + m < xs.length := by have := of_decide_eq_true hc3; omega
    obtain ⟨u, hu⟩ : ∃ x, xs[i + m]? = some x := ⟨xs[i + m], by simp [hlt3]⟩
    obtain ⟨v, hv⟩ : ∃ x, xs[i + m - 1]? = some x := ⟨xs[i + m - 1]'(by omega), by simp⟩
    have hu2 : (ys.drop i)[m]? = some u := by rw [List.getElem?_drop, drop_at hyd (by omega)]; exact hu
    have hv2 : (ys.drop i)[m - 1]? = some v := by rw [List.getElem?_drop, show i + (m - 1) = i + m - 1 by omega, drop_at hyd (by omega)]; exact hv
    have hcut : ∀ {H : List HProp}, SlH w0 (sl 28 2 keyC (some ⟨ab, ao, none⟩) c ys :: H) 2 keyC (some ⟨ab, ao + i * 2, none⟩) (ys.drop i) := fun {H} => by
      have h := SlH.cutL (SlH.own (H := sl 28 2 keyC (some ⟨ab, ao, none⟩) c ys :: H) (w0 := w0) .hd) i c (by omega)
      rw [hsu] at h; exact h
    refine Gs.skip (Gn (Gs.seq (Gs.block (Gs.seq (Gs.regD mixed (by kernel_rfl) (Rmv 0 rfl (by kernel_rfl) rfl (Rmv 1 rfl (by kernel_rfl) rfl (Rq 2 rfl (by kernel_rfl) (pu_ia se_48 rfl rfl (by omega) (by omega)) (Rr 3 rfl (by kernel_rfl) (rd_lda ag_28 rfl (Rdc.el0 (xs := ys.drop i) (enc := keyC) (sz := 2) hcut hu2 rfl rfl) rfl) ?_)))))))))
    refine Rmv 4 rfl (by kernel_rfl) rfl (Rmv 5 rfl (by kernel_rfl) rfl (Rq 6 rfl (by kernel_rfl) (pu_subI (z := ((m - 1 : Nat) : Int)) rfl rfl (by omega) (by omega) (by omega)) ?_))
    refine Rq 7 rfl (by kernel_rfl) (pu_ia se_48 rfl rfl (by omega) (by omega)) (Rr 8 rfl (by kernel_rfl) (rd_lda ag_28 rfl (Rdc.el0 (xs := ys.drop i) (enc := keyC) (sz := 2) hcut hv2 rfl rfl) rfl) ?_)
    refine Rq 9 rfl (by kernel_rfl) (pu_neT (a := u) (b := v) cmp_28 (by decide) Tryz.eqGuardType28 rfl rfl) ?_
    refine Rg.end (by kernel_rfl) (Gn (Gs.cond rfl (fun hc4 => ?_) (fun hc4 => ?_)))
    ·
     have hne4 : u ≠ v := by simpa using hc4
     have k1 : (ys.set w u).length = xs.length := by rw [List.length_set]; exact hyl
     have k2 : (ys.set w u).take (w + 1) = dd (xs.take (i + (m + 1))) := by rw [set_take (by omega), hyt, ← Nat.add_assoc, dd_take_f (by omega) hu hv hne4]
     have k3 : (ys.set w u).drop (i + (m + 1) - 1) = xs.drop (i + (m + 1) - 1) := by rw [List.drop_set_of_lt (by omega), show i + (m + 1) - 1 = (i + m - 1) + 1 by omega, ← List.drop_drop, hyd, List.drop_drop]
     refine Gsr (Lmv rfl rfl (Lmv rfl rfl (Lmv rfl rfl (Lmv rfl rfl (Lq rfl (pu_ia se_48 rfl rfl (by omega) (by omega)) (Lr rfl (rd_lda ag_28 rfl (Rdc.el0 (xs := ys.drop i) (enc := keyC) (sz := 2) hcut hu2 rfl rfl) rfl) ?_))))))
     refine Lq rfl (pu_ia se_48 rfl rfl (by omega) (by omega)) (Lac0 rfl trivial (ac_stE (enc := keyC) (xs := ys) (i := w) (x0 := ys[w]'(by omega)) (y0 := u) (vs := keyC u) (fo := 0) sz_28 ek_28 rfl rfl (by repeat constructor) rfl rfl rfl (by simp) rfl rfl) ?_)
     rintro _ _ rfl
     refine Lnt (Gs.reg (Lmv rfl rfl (Lq rfl (pu_addI (z := ((w + 1 : Nat) : Int)) rfl rfl (by omega) (by omega) (by omega)) ?_)))
     refine Las rfl rfl (Lnil (Gs.blk_n (Gn (Gs.reg (Lmv rfl rfl (Lq rfl (by first | exact pu_addI rfl rfl rfl (by omega) (by omega) | exact pu_add rfl rfl) ?_))))))
     refine Las rfl rfl (Lnt ?_)
     first | exact Ag (m + 1, w + 1, ys.set w u) ⟨by show 1 ≤ m + 1; omega, by show i + (m + 1) ≤ xs.length; omega, by show w + 1 + 1 ≤ i + (m + 1); omega, k1, k2, k3⟩ (by show xs.length - (m + 1) < xs.length - m; omega) | exact Ag (m + 1, w, ys) ⟨by show 1 ≤ m + 1; omega, by show i + (m + 1) ≤ xs.length; omega, by show w + 1 ≤ i + (m + 1); omega, hyl, k2, k3⟩ (by show xs.length - (m + 1) < xs.length - m; omega)
    have hne4 : u = v := by simpa using hc4
    have k2 : ys.take w = dd (xs.take (i + (m + 1))) := by rw [hyt, ← Nat.add_assoc, dd_take_t (by omega) hu hv hne4]
    have k3 : ys.drop (i + (m + 1) - 1) = xs.drop (i + (m + 1) - 1) := by rw [show i + (m + 1) - 1 = (i + m - 1) + 1 by omega, ← List.drop_drop, hyd, List.drop_drop]
    refine Gs.skip (Gs.blk_n (Gn (Gs.reg (Lmv rfl rfl (Lq rfl (by first | exact pu_addI rfl rfl rfl (by omega) (by omega) | exact pu_add rfl rfl) ?_)))))
    refine Las rfl rfl (Lnt ?_)
    first | exact Ag (m + 1, w + 1, ys.set w u) ⟨by show 1 ≤ m + 1; omega, by show i + (m + 1) ≤ xs.length; omega, by show w + 1 + 1 ≤ i + (m + 1); omega, k1, k2, k3⟩ (by show xs.length - (m + 1) < xs.length - m; omega) | exact Ag (m + 1, w, ys) ⟨by show 1 ≤ m + 1; omega, by show i + (m + 1) ≤ xs.length; omega, by show w + 1 ≤ i + (m + 1); omega, hyl, k2, k3⟩ (by show xs.length - (m + 1) < xs.length - m; omega)
   have hge3 : i + m = xs.length := by have := of_decide_eq_false hc3; omega
   rw [hge3, List.take_length] at hyt
   have hml : (ys.take w).length = w := by rw [List.length_take]; omega
   have hdl : (ys.drop w).length = xs.length - w := by rw [List.length_drop]; omega
   refine Gs.exit (Gx (Gx (Gs.blk_hit (Gn (Gsr (Lmv rfl rfl (Lmv rfl rfl (Lq rfl (pu_sliceL et_48 rfl rfl (by omega) (by omega)) (Lac0 rfl trivial (ac_clear (enc := keyC) (xs := ys.take w) (zs := ys.drop w) Tryz.underlying48 zv_28 rfl rfl rfl (by decide) (by rw [hml]; rfl) hdl.symm ek_28 (by rw [List.take_append_drop]; repeat constructor)) ?_)))))))))
   rintro _ _ rfl
   refine Lnt (Gsr (Lmv rfl rfl (Lmv rfl rfl (Lq rfl (pu_sliceH et_48 rfl rfl (by omega) (by omega)) (Las rfl rfl (Lnil ?_))))))
   rw [show suba (some ⟨ab, ao, none⟩) 0 c 2 = some ⟨ab, ao, none⟩ from suba_0, hyt]
   refine Gn (Gs.ret (Gs.blk_r (Gr (Gr (Gs.blk_r (Gr ?_))))))
   exact Gs.fin1 Tryz.results178 rfl _ (⟨by rw [← hyt, hml]; rfl, rfl⟩) (by repeat constructor)
  have hne : x ≠ y := of_decide_eq_false hc2
  have hnx : dd (xs.take (i + 1)) = xs.take (i + 1) := by rw [dd_take_f hi1 hx hy hne, hdi, List.take_add_one (i := i), hx]; rfl
  refine Gs.skip (Gs.blk_n (Gn (Gs.reg (Lmv rfl rfl (Lq rfl (by first | exact pu_addI rfl rfl rfl (by omega) (by omega) | exact pu_add rfl rfl) ?_)))))
  refine Las rfl rfl (Lnt ?_)
  exact Ag (i + 1) ⟨by omega, by omega, hnx⟩ (by omega)
 have hge : i = xs.length := by have := of_decide_eq_false hc1; omega
 rw [hge, List.take_length] at hdi
 refine Gs.exit (Gx (Gx (Gs.blk_hit (Gn (Gsr (Lmv rfl rfl (Las rfl rfl (Lnt (Gs.ret ?_)))))))))
 exact Gs.fin1 Tryz.results178 rfl _ (⟨by rw [hdi], by rw [hdi]⟩) (by repeat constructor)
end Go.Proofs.YtklgiidfompdpaaGreatDoor
namespace Go.Proofs.YtklgiidfompdpaaGreatDoor
open Go Go.Sl Go.Gv Go.Po
set_option maxRecDepth 100000
theorem kt_28 : KeyT Tryz.prog 28 keyV :=
 KeyT.struct Tryz.underlying28 cmp_28 (by decide) (fun e k w => check_struct Tryz.underlying28 (by
   intro f hf
   simp only [List.mem_cons, List.not_mem_nil, or_false] at hf
   rcases hf with rfl | rfl
   · exact ⟨_, part_na na_3 rfl, check_int Tryz.underlying3⟩
   · exact ⟨_, part_na na_3 rfl, check_int Tryz.underlying3⟩)) (fun k => by simp [Instr.sameBits])
theorem cmp_30 : CmpT Tryz.prog 30 (fun p : Int × Int => .agg #[.int .i64 p.1, .int .i64 p.2]) 2 :=
 cmp_ii Tryz.underlying30 Tryz.stoodInHeld30 ⟨by decide, by decide⟩ ⟨⟨rfl, rfl⟩, rfl, rfl⟩ Tryz.underlying3 na_3
theorem cmp_32 : CmpT Tryz.prog 32 recV 3 :=
 CmpT.of (fun r : Rec => (r.o, r.q, r.w, r.c, r.t)) (fun a b => by cases a; cases b; simp) (fun _ => rfl)
   (cmp_iiiis Tryz.underlying32 Tryz.stoodInHeld32 ⟨by decide, by decide, by decide⟩ ⟨⟨rfl, rfl, rfl⟩, rfl, rfl, rfl⟩
     (cmp_ii Tryz.underlying28 Tryz.stoodInHeld28 ⟨by decide, by decide⟩ ⟨⟨rfl, rfl⟩, rfl, rfl⟩ Tryz.underlying3 na_3) ag_28 cmp_30 ag_30 Tryz.underlying9 na_9)
abbrev enck_28 : Key → Value := keyV
abbrev encv_32 : Rec → Value := recV
theorem zvk_32 : ZV Tryz.prog 32 (recV Rec.zero) := zv_32
abbrev encC_32 : Rec → List Value := recC
theorem ek_32 : EncOk 5 recC := ⟨fun _ => rfl, fun x v hv => by
 simp only [recC, List.mem_cons, List.not_mem_nil, or_false] at hv
 rcases hv with rfl | rfl | rfl | rfl | rfl <;> rfl⟩
end Go.Proofs.YtklgiidfompdpaaGreatDoor
