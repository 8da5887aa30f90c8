/- Texts that stand in one. -/
import Derived.Test.YtjaafkakeccniaaGreatDoorRg
import Derived.Test.YtjaafkakeccniaaGreatDoorMD
import Derived.Test.YtjaafkakeccniaaGreatDoorKv
/- The program's plain data, as Lean has them, and how they lie in cells. -/
namespace Go.Gv
open Go

structure Key where
  o : Int
  q : Int
  deriving DecidableEq
structure Rec where
  o : Int
  q : Int
  w : Int
  c : Int
  t : ByteArray
  deriving DecidableEq
def Rec.key (r : Rec) : Key := ⟨r.o, r.q⟩
def Rec.zero : Rec := ⟨0, 0, 0, 0, ⟨#[]⟩⟩
abbrev int (i : Int) : Value := .int .i64 i
abbrev intC (i : Int) : List Value := [.int .i64 i]
abbrev keyC (k : Key) : List Value := [.int .i64 k.o, .int .i64 k.q]
abbrev keyV (k : Key) : Value := .agg (keyC k).toArray
abbrev recC (r : Rec) : List Value := [.int .i64 r.o, .int .i64 r.q, .int .i64 r.w, .int .i64 r.c, .string r.t]
abbrev recV (r : Rec) : Value := .agg (recC r).toArray
def before (a b : Key) : Bool := if a.o = b.o then decide (a.q < b.q) else decide (a.o < b.o)
end Go.Gv

/- Keys in order: plain laws. -/
namespace Go.Gv
open Go
theorem before_iff {a b : Key} : before a b = true ↔ a.o < b.o ∨ (a.o = b.o ∧ a.q < b.q) := by
  unfold before; split <;> simp <;> omega
theorem before_not {a b : Key} : before a b = false ↔ b.o < a.o ∨ (a.o = b.o ∧ b.q ≤ a.q) := by
  unfold before; split <;> simp <;> omega
theorem before_trans {a b c : Key} (h : before a b = true) (k : before b c = true) : before a c = true := by
  rw [before_iff] at *; omega
theorem before_irr {a : Key} : before a a = false := by rw [before_not]; omega
theorem before_total {a b : Key} (h : a ≠ b) : before a b = true ∨ before b a = true := by
  rw [before_iff, before_iff]
  by_cases h1 : a.o = b.o
  · by_cases h2 : a.q = b.q
    · exact (h (by cases a; cases b; simp_all)).elim
    · omega
  · omega
def insK (k : Key) : List Key → List Key
  | [] => [k]
  | x :: l => if before x k then x :: insK k l else k :: x :: l
def sortK (l : List Key) : List Key := l.foldl (fun acc k => insK k acc) []
theorem insK_perm (k : Key) : ∀ l : List Key, List.Perm (insK k l) (k :: l)
  | [] => List.Perm.refl _
  | x :: l => by
    unfold insK; split
    · exact ((insK_perm k l).cons x).trans (List.Perm.swap ..)
    · exact List.Perm.refl _
theorem foldK_perm : ∀ (l acc : List Key), List.Perm (l.foldl (fun acc k => insK k acc) acc) (l ++ acc)
  | [], acc => List.Perm.refl _
  | k :: l, acc => by
    refine (foldK_perm l (insK k acc)).trans ?_
    refine ((insK_perm k acc).append_left l).trans ?_
    exact List.perm_middle
theorem sortK_perm (l : List Key) : List.Perm (sortK l) l := by have := foldK_perm l []; rwa [List.append_nil] at this
theorem sortK_mem {x : Key} {l : List Key} : x ∈ sortK l ↔ x ∈ l := (sortK_perm l).mem_iff
theorem sortK_length {l : List Key} : (sortK l).length = l.length := (sortK_perm l).length_eq
theorem sortK_snoc (l : List Key) (k : Key) : sortK (l ++ [k]) = insK k (sortK l) := by simp [sortK, List.foldl_append]
/-- In order: each before those behind it. -/
def Asc (l : List Key) : Prop := l.Pairwise fun a b => before a b = true
theorem insK_asc {k : Key} : ∀ {l : List Key}, Asc l → k ∉ l → Asc (insK k l)
  | [], _, _ => by simp [insK, Asc]
  | x :: l, h, hn => by
    have h' := List.pairwise_cons.1 h
    simp only [List.mem_cons, not_or] at hn
    unfold insK; split
    · rename_i hb
      refine List.pairwise_cons.2 ⟨fun y hy => ?_, insK_asc h'.2 hn.2⟩
      rcases List.mem_cons.1 ((insK_perm k l).mem_iff.1 hy) with rfl | hy
      · exact hb
      · exact h'.1 y hy
    · rename_i hb
      have hkx : before k x = true := (before_total hn.1).resolve_right hb
      refine List.pairwise_cons.2 ⟨fun y hy => ?_, h⟩
      rcases List.mem_cons.1 hy with rfl | hy
      · exact hkx
      · exact before_trans hkx (h'.1 y hy)
theorem foldK_asc : ∀ (l acc : List Key), Asc acc → (l ++ acc).Nodup → Asc (l.foldl (fun acc k => insK k acc) acc)
  | [], acc, h, _ => h
  | k :: l, acc, h, hn => by
    have hn1 : k ∉ l ++ acc := (List.nodup_cons.1 hn).1
    have hn2 : (l ++ acc).Nodup := (List.nodup_cons.1 hn).2
    refine foldK_asc l _ (insK_asc h fun hk => hn1 (List.mem_append_right _ hk)) ?_
    exact (((insK_perm k acc).append_left l).trans List.perm_middle).nodup_iff.2 hn
theorem sortK_asc {l : List Key} (h : l.Nodup) : Asc (sortK l) := foldK_asc l [] List.Pairwise.nil (by simpa using h)
theorem asc_uniq : ∀ {l m : List Key}, Asc l → Asc m → List.Perm l m → l = m
  | [], m, _, _, p => (List.nil_perm.1 p).symm ▸ rfl
  | a :: l, [], _, _, p => by have := p.length_eq; simp at this
  | a :: l, b :: m, h, k, p => by
    have h' := List.pairwise_cons.1 h
    have k' := List.pairwise_cons.1 k
    have hab : a = b := by
      apply Classical.byContradiction
      intro hne
      have h1 : a ∈ m := by
        have := p.mem_iff.1 (List.mem_cons_self (a := a) (l := l))
        rcases List.mem_cons.1 this with e | e
        · exact (hne e).elim
        · exact e
      have h2 : b ∈ l := by
        have := p.mem_iff.2 (List.mem_cons_self (a := b) (l := m))
        rcases List.mem_cons.1 this with e | e
        · exact (hne e.symm).elim
        · exact e
      have e1 := h'.1 b h2
      have e2 := k'.1 a h1
      have := before_trans e1 e2
      rw [before_irr] at this; cases this
    subst hab
    rw [asc_uniq h'.2 k'.2 p.cons_inv]
theorem sortK_of {l m : List Key} (hn : l.Nodup) (ha : Asc m) (p : List.Perm m l) : sortK l = m := asc_uniq (sortK_asc hn) ha ((sortK_perm l).trans p.symm)
theorem sort_merge (xs : List Key) (hn : xs.Nodup) : xs.mergeSort (fun x y => !before y x) = sortK xs := by
  refine (sortK_of hn ?_ (List.mergeSort_perm ..)).symm
  have hp := List.pairwise_mergeSort (le := fun x y : Key => !before y x) (fun a b c h1 h2 => by
    simp only [Bool.not_eq_true'] at *; rw [before_not] at *; omega) (fun a b => by
    cases h1 : before b a <;> cases h2 : before a b <;> simp
    rw [before_iff] at h1 h2; omega) xs
  have hn2 := ((List.mergeSort_perm xs (fun x y => !before y x)).nodup_iff).2 hn
  unfold Asc
  refine (hp.and hn2).imp fun {a b} h => ?_
  obtain ⟨h1, h2⟩ := h
  simp only [Bool.not_eq_true'] at h1
  rcases before_total h2 with h | h
  · exact h
  · rw [h] at h1; cases h1
/-- A key's place in a list, as the second copy looks for it. -/
def at_ (ks : List Key) (k : Key) : Nat := ks.findIdx fun x => !before x k
def intoL (ks : List Key) (k : Key) : List Key := if ks[at_ ks k]? = some k then ks else ks.take (at_ ks k) ++ [k] ++ ks.drop (at_ ks k)
theorem intoL_ins {k : Key} : ∀ {ks : List Key}, k ∉ ks → intoL ks k = insK k ks
  | [], _ => by simp [intoL, at_, insK]
  | x :: l, hn => by
    simp only [List.mem_cons, not_or] at hn
    have ih := intoL_ins (k := k) (ks := l) hn.2
    have hno : ∀ (ks : List Key) (i : Nat), k ∉ ks → ¬ ks[i]? = some k := fun ks i h e => h (List.mem_of_getElem? e)
    have hn' : k ∉ x :: l := by simp [hn.1, hn.2]
    unfold intoL at *
    rw [if_neg (hno _ _ hn')]
    rw [if_neg (hno _ _ hn.2)] at ih
    unfold insK
    by_cases hb : before x k = true
    · have : at_ (x :: l) k = at_ l k + 1 := by simp [at_, List.findIdx_cons, hb]
      rw [this, if_pos hb, ← ih]; simp
    · have hb' : before x k = false := by simpa using hb
      have : at_ (x :: l) k = 0 := by simp [at_, List.findIdx_cons, hb']
      rw [this, if_neg hb]; simp
end Go.Gv

/- Bits: exclusive or, shifts to the right; appends of a string's bytes. Nothing of the program stands here. -/
namespace Go.Sl
open Go
section
variable {P : Program} {n : Nat} {w0 : World} {env : Env} {H : List HProp} {d : Option Tmp} {x y z : Operand} {T T' ty : TypeId} {pos : String} {af : Array Edge} {g : Option (Nat × Bool)}
def xorK (k : IntKind) (i j : Int) : Int := k.wrap (BitVec.ofInt k.bits i ^^^ BitVec.ofInt k.bits j).toNat
theorem pu_xor {k : IntKind} {i j : Int} (h : ev env x = some (.int k i)) (h' : ev env y = some (.int k j)) : Pu P ⟨d, .binOp .xor T x y T', ty, pos, af, g⟩ env (.int k (xorK k i j)) := fun ρ w e => by
  refine run_v (s := do eqGuard .xor T x y (ρ x) (ρ y); binOp .xor T (ρ x) (ρ y)) ?_
  rw [e.eval h, e.eval h']
  simp only [Sem.run_bind, eqGuard_int, Result.andThen_ok]
  simp [binOp, Op.intBits, xorK]
def shrK (k : IntKind) (i j : Int) : Int := i.fdiv (2 ^ (min j.toNat k.bits))
theorem pu_shr {k k' : IntKind} {i j : Int} (h : ev env x = some (.int k i)) (h' : ev env y = some (.int k' j)) (hj : 0 ≤ j) : Pu P ⟨d, .binOp .shr T x y T', ty, pos, af, g⟩ env (.int k (shrK k i j)) := fun ρ w e => by
  refine run_v (s := do eqGuard .shr T x y (ρ x) (ρ y); binOp .shr T (ρ x) (ρ y)) ?_
  rw [e.eval h, e.eval h']
  have hg : (eqGuard .shr T x y (.int k i) (.int k' j)).run P w = .ok () w := by rfl
  have hn : ¬ j < 0 := by omega
  simp only [Sem.run_bind, hg, Result.andThen_ok]
  simp [binOp, Op.shift, hn, shrK]
/-- The byte that a number is cut to. -/
def cutB (z : Int) : UInt8 := UInt8.ofNat (IntKind.u8.wrap z).toNat
theorem cutB_eq (z : Int) : IntKind.u8.wrap z = (cutB z).toNat := by
  have h : 0 ≤ IntKind.u8.wrap z ∧ IntKind.u8.wrap z ≤ 255 := by simp [IntKind.wrap, IntKind.bits, IntKind.signed]; omega
  unfold cutB
  have e : (UInt8.ofNat (IntKind.u8.wrap z).toNat).toNat = (IntKind.u8.wrap z).toNat % 256 := UInt8.toNat_ofNat'
  rw [e]; omega
theorem SrcH.strB {tx : Nat} (hk : P.underlying tx = some .string) (s : ByteArray) : SrcH P w0 H 1 tx (.string s) s.data.toList.length (s.data.toList.flatMap fun c : UInt8 => [Value.int .u8 c.toNat]) := by
  have h := SrcH.str (w0 := w0) (H := H) hk s
  have e1 : byteCells s = s.data.toList.flatMap fun c : UInt8 => [Value.int .u8 c.toNat] := by
    unfold byteCells; generalize s.data.toList = l
    induction l with
    | nil => rfl
    | cons c l ih => simp [ih]
  rw [e1] at h
  have e2 : s.size = s.data.toList.length := by rw [Array.length_toList]; rfl
  rwa [e2] at h
end
end Go.Sl

/- Strings of bytes: their order, which may be a file's name. Plain. -/
namespace Go.Bst
def okB (c : UInt8) : Bool := (97 ≤ c && c ≤ 122) || (48 ≤ c && c ≤ 57) || c == 46
def namedB (s : ByteArray) : Bool := decide (1 ≤ s.size) && decide (s.size ≤ 20) && s.data.toList.all okB
def asciiB (s : ByteArray) : Bool := s.data.toList.all fun c => decide (c.toNat < 128)
def sortB (l : List ByteArray) : List ByteArray := ((l.map fun s => s.data.toList).mergeSort fun x y => decide (x ≤ y)).map fun b => ⟨b.toArray⟩
theorem of_list (s : ByteArray) : (⟨s.data.toList.toArray⟩ : ByteArray) = s := by cases s; rfl
theorem sortB_perm (l : List ByteArray) : List.Perm (sortB l) l := by
  unfold sortB
  refine ((List.mergeSort_perm _ _).map _).trans ?_
  rw [List.map_map]
  have : ((fun b : List UInt8 => (⟨b.toArray⟩ : ByteArray)) ∘ fun s : ByteArray => s.data.toList) = id := by funext s; exact of_list s
  rw [this, List.map_id]
theorem sortB_mem {l : List ByteArray} {x : ByteArray} : x ∈ sortB l ↔ x ∈ l := (sortB_perm l).mem_iff
theorem sortB_length {l : List ByteArray} : (sortB l).length = l.length := (sortB_perm l).length_eq
theorem sortB_of_perm {l m : List ByteArray} (p : List.Perm l m) : sortB l = sortB m := by
  unfold sortB
  congr 1
  have tr : ∀ a b c : List UInt8, decide (a ≤ b) = true → decide (b ≤ c) = true → decide (a ≤ c) = true := fun a b c h1 h2 => by
    simp only [decide_eq_true_eq] at *; exact List.le_trans h1 h2
  have tot : ∀ a b : List UInt8, (decide (a ≤ b) || decide (b ≤ a)) = true := fun a b => by
    rcases List.le_total a b with h | h <;> simp [h]
  refine List.Perm.eq_of_pairwise (le := fun x y => decide (x ≤ y) = true) ?_ (List.pairwise_mergeSort tr tot _) (List.pairwise_mergeSort tr tot _) (((List.mergeSort_perm _ _).trans (p.map _)).trans (List.mergeSort_perm _ _).symm)
  intro a b _ _ h1 h2
  simp only [decide_eq_true_eq] at h1 h2
  exact List.le_antisymm h1 h2
theorem sortB_eq {l m : List ByteArray} (p : List.Perm l m) (h : m.Pairwise fun a b => a.data.toList ≤ b.data.toList) : sortB l = m := by
  rw [sortB_of_perm p]
  unfold sortB
  have e : ((m.map fun s => s.data.toList).mergeSort fun x y => decide (x ≤ y)) = m.map fun s => s.data.toList := by
    apply List.mergeSort_of_pairwise
    rw [List.pairwise_map]
    exact h.imp fun h => by simpa using h
  rw [e, List.map_map]
  have : ((fun b : List UInt8 => (⟨b.toArray⟩ : ByteArray)) ∘ fun s : ByteArray => s.data.toList) = id := by funext s; exact of_list s
  rw [this, List.map_id]
end Go.Bst

/- The drive's plain model: files by their names. Nothing of the program stands here. -/
namespace Go.Dv
open Go Go.Kv Go.Bst
/-- A file: its name, its bytes, how many last. -/
structure Fl where
  n : ByteArray
  b : List UInt8
  s : Nat
abbrev names (D : List Fl) : List ByteArray := D.map Fl.n
def lookF (D : List Fl) (n : ByteArray) : Option Fl := D.find? fun f => f.n = n
def upd (D : List Fl) (n : ByteArray) (g : Fl → Fl) : List Fl := D.map fun f => if f.n = n then g f else f
def used (D : List Fl) : Nat := (D.map fun f => f.b.length).sum
def del (D : List Fl) (n : ByteArray) : List Fl := D.filter fun f => f.n ≠ n
def put (D : List Fl) (f : Fl) : List Fl := if (lookF D f.n).isSome then upd D f.n (fun _ => f) else D ++ [f]
theorem lookF_split {D : List Fl} {n : ByteArray} {f : Fl} (hn : (names D).Nodup) (h : lookF D n = some f) : ∃ X Y, D = X ++ f :: Y ∧ f.n = n ∧ (∀ g, upd D n g = X ++ g f :: Y) ∧ del D n = X ++ Y := by
  induction D with
  | nil => cases h
  | cons x D ih =>
    simp only [names, List.map_cons, List.nodup_cons] at hn
    by_cases hx : x.n = n
    · have : x = f := by simpa [lookF, hx] using h
      subst this
      have hne : ∀ y ∈ D, y.n ≠ n := fun y hy e => hn.1 (by rw [hx, ← e]; exact List.mem_map_of_mem hy)
      refine ⟨[], D, rfl, hx, fun g => ?_, ?_⟩
      · simp only [upd, List.map_cons, hx, if_true, List.nil_append, List.cons.injEq, true_and]
        conv => rhs; rw [← List.map_id D]
        exact List.map_congr_left fun y hy => by simp [hne y hy]
      · simp only [del, List.filter_cons, hx, List.nil_append]
        simp only [ne_eq, not_true_eq_false, decide_false, Bool.false_eq_true, if_false]
        exact List.filter_eq_self.2 fun y hy => by simpa using hne y hy
    · have h' : lookF D n = some f := by simpa [lookF, hx] using h
      obtain ⟨X, Y, e1, e2, e3, e4⟩ := ih hn.2 h'
      refine ⟨x :: X, Y, by rw [e1]; rfl, e2, fun g => ?_, ?_⟩
      · have := e3 g
        simp only [upd, List.map_cons, hx, if_false, List.cons_append] at this ⊢
        rw [this]
      · simp only [del, List.filter_cons, ne_eq, hx, not_false_eq_true, decide_true, if_true, List.cons_append] at e4 ⊢
        rw [e4]
theorem lookF_none {D : List Fl} {n : ByteArray} : lookF D n = none ↔ n ∉ names D := by
  simp only [lookF, List.find?_eq_none, names, List.mem_map, decide_eq_true_eq]
  constructor
  · rintro h ⟨f, hf, e⟩; exact h f hf e
  · intro h f hf e; exact h ⟨f, hf, e⟩
theorem names_upd {D : List Fl} {n : ByteArray} {g : Fl → Fl} (hg : ∀ f, (g f).n = f.n) : names (upd D n g) = names D := by
  simp only [names, upd, List.map_map]
  exact List.map_congr_left fun f _ => by simp only [Function.comp]; split <;> simp [hg]
theorem used_split (X Y : List Fl) (f : Fl) : used (X ++ f :: Y) = used (X ++ Y) + f.b.length := by
  simp only [used, List.map_append, List.map_cons, List.sum_append, List.sum_cons]; omega
theorem used_app (X Y : List Fl) : used (X ++ Y) = used X + used Y := by simp [used]
theorem used_mem {D : List Fl} {f : Fl} (h : f ∈ D) : f.b.length ≤ used D := by
  obtain ⟨X, Y, rfl⟩ := List.append_of_mem h
  rw [used_split]; omega
/-- What a drive's files keep to. -/
structure Ok (most : Int) (D : List Fl) : Prop where
  lo : 0 ≤ most
  hi : most ≤ 1048576
  nd : (names D).Nodup
  room : (used D : Int) ≤ most
  firm : ∀ f ∈ D, f.s ≤ f.b.length
theorem Ok.nil {most : Int} (h : 0 ≤ most) (h2 : most ≤ 1048576) : Ok most [] := ⟨h, h2, List.nodup_nil, by simpa [used] using h, fun f hf => by cases hf⟩
def appE (most : Int) (D : List Fl) (n : ByteArray) (bs : List UInt8) : Int := if namedB n then if most < used D + bs.length then 8 else 0 else 2
def appD (D : List Fl) (n : ByteArray) (bs : List UInt8) : List Fl := if (lookF D n).isSome then upd D n (fun f => { f with b := f.b ++ bs }) else D ++ [⟨n, bs, 0⟩]
def appL (most : Int) (D : List Fl) (n : ByteArray) (bs : List UInt8) : List Fl := if appE most D n bs = 0 then appD D n bs else D
theorem Ok.app {most : Int} {D : List Fl} (h : Ok most D) {n : ByteArray} {bs : List UInt8} (hr : (used D : Int) + bs.length ≤ most) : Ok most (appD D n bs) := by
  unfold appD
  cases hl : lookF D n with
  | none =>
    have hn := lookF_none.1 hl
    simp only [Option.isSome_none, Bool.false_eq_true, if_false]
    refine ⟨h.lo, h.hi, ?_, ?_, ?_⟩
    · simp only [names, List.map_append, List.map_cons, List.map_nil, List.nodup_append]
      exact ⟨h.nd, by simp, fun a ha b hb e => by simp at hb; subst hb; subst e; exact hn ha⟩
    · rw [used_app]; simp only [used, List.map_cons, List.map_nil, List.sum_cons, List.sum_nil]; simp only [used] at hr; omega
    · intro f hf
      rcases List.mem_append.1 hf with hf | hf
      · exact h.firm f hf
      · simp at hf; subst hf; simp
  | some f =>
    simp only [Option.isSome_some, if_true]
    obtain ⟨X, Y, e1, e2, e3, e4⟩ := lookF_split h.nd hl
    refine ⟨h.lo, h.hi, ?_, ?_, ?_⟩
    · rw [names_upd (g := fun f => { f with b := f.b ++ bs }) (fun _ => rfl)]; exact h.nd
    · rw [e3, used_split]; rw [e1, used_split] at hr; simp only [List.length_append]; omega
    · intro x hx
      rw [e3] at hx
      simp only [List.mem_append, List.mem_cons] at hx
      have hf := h.firm f (by rw [e1]; simp)
      rcases hx with hx | rfl | hx
      · exact h.firm x (by rw [e1]; simp [hx])
      · simp only [List.length_append]; omega
      · exact h.firm x (by rw [e1]; simp [hx])
theorem Ok.upd {most : Int} {D : List Fl} (h : Ok most D) {n : ByteArray} {g : Fl → Fl} (h1 : ∀ f, (g f).n = f.n) (h2 : ∀ f, (g f).b.length ≤ f.b.length) (h3 : ∀ f, f.s ≤ f.b.length → (g f).s ≤ (g f).b.length) : Ok most (upd D n g) := by
  refine ⟨h.lo, h.hi, by rw [names_upd h1]; exact h.nd, ?_, ?_⟩
  · have : used (Dv.upd D n g) ≤ used D := by
      unfold used Dv.upd
      generalize D = L
      induction L with
      | nil => simp
      | cons x L ih =>
        simp only [List.map_cons, List.sum_cons]
        have := h2 x
        split <;> omega
    have := h.room; omega
  · intro f hf
    obtain ⟨x, hx, rfl⟩ := List.mem_map.1 hf
    split
    · exact h3 x (h.firm x hx)
    · exact h.firm x hx
theorem Ok.perm {most : Int} {D E : List Fl} (h : Ok most D) (p : List.Perm D E) : Ok most E :=
  ⟨h.lo, h.hi, (p.map Fl.n).nodup_iff.1 h.nd, by have : used D = used E := (p.map fun f : Fl => f.b.length).sum_nat; rw [← this]; exact h.room, fun f hf => h.firm f (p.mem_iff.2 hf)⟩
theorem Ok.del {most : Int} {D : List Fl} (h : Ok most D) (n : ByteArray) : Ok most (del D n) := by
  refine ⟨h.lo, h.hi, List.Nodup.sublist (List.Sublist.map _ List.filter_sublist) h.nd, ?_, fun f hf => h.firm f (List.mem_filter.1 hf).1⟩
  have : used (Dv.del D n) ≤ used D := by
    unfold used Dv.del
    generalize D = L
    induction L with
    | nil => simp
    | cons x L ih =>
      simp only [List.filter_cons]
      split
      · simp only [List.map_cons, List.sum_cons]; omega
      · simp only [List.map_cons, List.sum_cons]; omega
  have := h.room; omega
theorem Ok.put {most : Int} {D : List Fl} {f : Fl} (h : Ok most D) (hr : (used D : Int) + f.b.length ≤ most) (hs : f.s ≤ f.b.length) : Ok most (put D f) := by
  unfold Dv.put
  cases hl : lookF D f.n with
  | none =>
    have hn := lookF_none.1 hl
    simp only [Option.isSome_none, Bool.false_eq_true, if_false]
    refine ⟨h.lo, h.hi, ?_, ?_, ?_⟩
    · simp only [names, List.map_append, List.map_cons, List.map_nil, List.nodup_append]
      exact ⟨h.nd, by simp, fun a ha b hb e => by simp at hb; subst hb; subst e; exact hn ha⟩
    · rw [used_app]; simp only [used, List.map_cons, List.map_nil, List.sum_cons, List.sum_nil]; simp only [used] at hr; omega
    · intro x hx
      rcases List.mem_append.1 hx with hx | hx
      · exact h.firm x hx
      · simp at hx; subst hx; exact hs
  | some x =>
    simp only [Option.isSome_some, if_true]
    obtain ⟨X, Y, e1, e2, e3, e4⟩ := lookF_split h.nd hl
    refine ⟨h.lo, h.hi, ?_, ?_, ?_⟩
    · rw [e3]; have := h.nd; rw [e1] at this; simp only [names, List.map_append, List.map_cons] at this ⊢; rw [← e2]; exact this
    · rw [e3, used_split]; rw [e1, used_split] at hr; omega
    · intro y hy
      rw [e3] at hy
      simp only [List.mem_append, List.mem_cons] at hy
      rcases hy with hy | rfl | hy
      · exact h.firm y (by rw [e1]; simp [hy])
      · exact hs
      · exact h.firm y (by rw [e1]; simp [hy])
def allB (D : List Fl) (ns : List ByteArray) : Bool := ns.all fun n => (lookF D n).isSome
def syncL (D : List Fl) (ns : List ByteArray) : List Fl := D.map fun f : Fl => if ns.any (fun n => decide (n = f.n)) then { f with s := f.b.length } else f
def cutE (D : List Fl) (n : ByteArray) (k : Int) : Int := match lookF D n with
  | none => 13
  | some f => if 0 ≤ k ∧ k ≤ f.b.length then 0 else 2
def cutL (D : List Fl) (n : ByteArray) (k : Int) : List Fl := if cutE D n k = 0 then upd D n (fun f => { f with b := f.b.take k.toNat, s := k.toNat }) else D
def renE (D : List Fl) (a b : ByteArray) : Int := if namedB b then if (lookF D a).isSome then 0 else 13 else 2
def renL (D : List Fl) (a b : ByteArray) : List Fl := if namedB b then match lookF D a with
  | none => D
  | some f => put (del D a) { f with n := b } else D
def lostF (st : Int) (f : Fl) : Nat := min st.toNat (f.b.length - f.s)
def crashF (st : Int) (f : Fl) : Fl := { f with s := f.s + lostF st f, b := f.b.take (f.s + lostF st f) }
def crashN : Int → List ByteArray → List Fl → List Fl
  | _, [], D => D
  | st, n :: ns, D => match lookF D n with
    | none => crashN st ns D
    | some f => crashN (st - lostF st f) ns (upd D n (crashF st))
def crashL (st : Int) (D : List Fl) : List Fl := crashN st (sortB (names D)) D
/-- How long the file of a name is. -/
def lenOf (D : List Fl) (n : ByteArray) : Nat := match lookF D n with
  | some f => f.b.length
  | none => 0
theorem lookF_mem {D : List Fl} (hn : (names D).Nodup) {f : Fl} (h : f ∈ D) : lookF D f.n = some f := by
  cases hl : lookF D f.n with
  | none => exact absurd (List.mem_map_of_mem h) (lookF_none.1 hl)
  | some g =>
    obtain ⟨X, Y, e1, e2, -, -⟩ := lookF_split hn hl
    have := hn
    rw [e1] at h this
    simp only [names, List.map_append, List.map_cons, List.nodup_append, List.nodup_cons] at this
    rcases List.mem_append.1 h with h | h
    · exact (this.2.2 f.n (List.mem_map_of_mem h) g.n (by simp) e2.symm).elim
    · rcases List.mem_cons.1 h with h | h
      · rw [h]
      · exact absurd (by rw [e2]; exact List.mem_map_of_mem h) this.2.1.1
theorem lenOf_names {D : List Fl} (hn : (names D).Nodup) : (names D).map (lenOf D) = D.map fun f => f.b.length := by
  simp only [names, List.map_map]
  exact List.map_congr_left fun f hf => by simp only [Function.comp, lenOf, lookF_mem hn hf]
theorem lenOf_sum {D : List Fl} (hn : (names D).Nodup) {ns : List ByteArray} (p : List.Perm ns (names D)) : (ns.map (lenOf D)).sum = used D := by
  have := (p.map (lenOf D)).sum_nat
  rw [this, lenOf_names hn]; rfl
theorem sum_take_le : ∀ (l : List Nat) (i : Nat), (l.take i).sum ≤ l.sum
  | [], i => by simp
  | x :: l, 0 => by simp
  | x :: l, i + 1 => by simp only [List.take_succ_cons, List.sum_cons]; have := sum_take_le l i; omega
theorem sum_take_succ {l : List Nat} {i x : Nat} (h : l[i]? = some x) : (l.take (i + 1)).sum = (l.take i).sum + x := by
  rw [List.take_add_one, h]; simp
theorem lookF_some {D : List Fl} {n : ByteArray} (h : n ∈ names D) : ∃ f, lookF D n = some f := by
  cases hl : lookF D n with
  | none => exact absurd h (lookF_none.1 hl)
  | some f => exact ⟨f, rfl⟩
theorem Ok.crash {most : Int} {D : List Fl} (h : Ok most D) (n : ByteArray) (st : Int) : Ok most (Dv.upd D n (crashF st)) :=
  h.upd (fun _ => rfl) (fun f => by simp only [crashF, List.length_take]; omega) (fun f hf => by simp only [crashF, List.length_take, lostF]; omega)
theorem names_crash (D : List Fl) (n : ByteArray) (st : Int) : names (upd D n (crashF st)) = names D := names_upd fun _ => rfl
theorem crashN_cons {st : Int} {n : ByteArray} {ns : List ByteArray} {D : List Fl} {f : Fl} (h : lookF D n = some f) : crashN st (n :: ns) D = crashN (st - lostF st f) ns (upd D n (crashF st)) := by
  simp only [crashN, h]
theorem used_appD {most : Int} {D : List Fl} (h : Ok most D) (n : ByteArray) (bs : List UInt8) : used (appD D n bs) = used D + bs.length := by
  unfold appD
  cases hl : lookF D n with
  | none => simp [used]
  | some f =>
    obtain ⟨X, Y, e1, e2, e3, -⟩ := lookF_split h.nd hl
    simp only [Option.isSome_some, if_true]
    rw [e3, e1, used_split, used_split]; simp only [List.length_append]; omega
theorem length_appD (D : List Fl) (n : ByteArray) (bs : List UInt8) : (appD D n bs).length ≤ D.length + 1 := by
  unfold appD; split <;> simp [upd]
theorem mem_appD {D : List Fl} {n : ByteArray} {bs : List UInt8} {f : Fl} (h : f ∈ appD D n bs) : f.n ∈ names D ∨ f.n = n := by
  unfold appD at h
  split at h
  · obtain ⟨x, hx, rfl⟩ := List.mem_map.1 h
    split
    · exact .inl (show x.n ∈ names D from List.mem_map_of_mem hx)
    · exact .inl (List.mem_map_of_mem hx)
  · rcases List.mem_append.1 h with h | h
    · exact .inl (List.mem_map_of_mem h)
    · simp at h; subst h; exact .inr rfl
theorem used_cut {most : Int} {D : List Fl} (h : Ok most D) {n : ByteArray} {f : Fl} (hl : lookF D n = some f) {k : Int} (h0 : 0 ≤ k) (hk : k ≤ f.b.length) : cutE D n k = 0 ∧ (used (cutL D n k) : Int) = used D - f.b.length + k ∧ names (cutL D n k) = names D := by
  have hE : cutE D n k = 0 := by simp only [cutE, hl]; rw [if_pos ⟨h0, hk⟩]
  obtain ⟨X, Y, e1, e2, e3, -⟩ := lookF_split h.nd hl
  have hL : cutL D n k = Dv.upd D n (fun f => { f with b := f.b.take k.toNat, s := k.toNat }) := by simp [cutL, hE]
  refine ⟨hE, ?_, by rw [hL]; exact names_upd fun _ => rfl⟩
  rw [hL, e3, e1, used_split, used_split]; simp only [List.length_take]; omega
end Go.Dv

